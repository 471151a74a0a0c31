/- The reference of chapter 7: CheckPlan. -/
import Derived.Test.YtjcmohfpenfepaaGreatDoorVmA
namespace Go.Proofs.YtjcmohfpenfepaaGreatDoor
set_option linter.unusedSimpArgs false
set_option linter.unusedVariables false
open Go.RowKit
set_option maxRecDepth 100000 in
set_option maxHeartbeats 8000000 in
theorem CheckPlanR_any (vm vo vp : Value) (ms : List Mo) (os : List I3) (pl : List Int) (w : World) (hml : ms.length ≤ 1000) (hol : os.length ≤ 1000) (hpl : pl.length ≤ 1000000) (hmr : ∀ m ∈ ms, 1 ≤ m.2.2.2 ∧ m.2.2.2 ≤ 100) (hm : Rw 4 mV w vm ms) (ho : Rw 3 iV w vo os) (hp : Ints w vp pl) :
 Calls Tryz.prog 32 #[vm, vo, vp] w fun r w' => r = .returned (.int .i64 (plnE ms os pl)) ∧ Below w.heap.size w w' := by
 have HM := Lib.hid hm
 have HO := Lib.hid ho
 have HP := Lib.hid hp
 obtain ⟨ma, mc, rfl, -⟩ := hm.slice
 obtain ⟨oa, oc, rfl, -⟩ := ho.slice
 obtain ⟨pa, pc, hpe, -⟩ := id hp
 subst hpe
 have h1 : pl.length ≠ ms.length → plnE ms os pl = 2 := fun h => by unfold plnE; rw [if_neg h]
 have h2 : pl.length = ms.length → plnE2 ms os pl ≠ 0 → plnE ms os pl = plnE2 ms os pl := fun h h' => by unfold plnE; rw [if_pos h, if_neg h']
 have h3 : pl.length = ms.length → plnE2 ms os pl = 0 → plnE ms os pl = whenE (!fitB ms os pl) 20 := fun h h' => by unfold plnE; rw [if_pos h, if_pos h']
 have HS := Lib.hid (fun (k : Nat) (x : Int) (hx : pl[k]? = some x) (h : firstE ((pl.mapIdx (plnG ms os)).take k) = 0) => eachE_step hx h)
 have HT := Lib.hid (fun (k : Nat) (x : Int) (hx : pl[k]? = some x) (h : firstE ((pl.mapIdx (plnG ms os)).take k) = 0) (hne : plnG ms os k x ≠ 0) => (show plnE2 ms os pl = plnG ms os k x from eachE_stop hx h hne))
 have HE := Lib.hid (fun (h : firstE ((pl.mapIdx (plnG ms os)).take pl.length) = 0) => (show plnE2 ms os pl = 0 from eachE_end h))
 have HPOS := Lib.hid (fun (h : plnE2 ms os pl = 0) => (show ∀ x ∈ pl, 0 ≤ x from fun x hx => by
  obtain ⟨i, hi⟩ := List.getElem?_of_mem hx
  exact (plnG_zero.1 (eachE_zero h i x hi)).1.1))
 have HFN := Lib.hid (fun (hpos : ∀ x ∈ pl, 0 ≤ x) (k : Nat) (o : I3) (hk : os[k]? = some o) (h : o.2.1 < hrs ms pl k pl.length) => (show fitB ms os pl = false by
  rw [Bool.eq_false_iff]
  intro hf
  have := (fitB_iff hpos).1 hf k o hk
  omega))
 have HFY := Lib.hid (fun (hpos : ∀ x ∈ pl, 0 ≤ x) (h : ∀ (k : Nat) (o : I3), k < os.length → os[k]? = some o → hrs ms pl k pl.length ≤ o.2.1) => (show fitB ms os pl = true from (fitB_iff hpos).2 (fun k o hk => h k o (List.getElem?_eq_some_iff.1 hk).1 hk)))
 have HHR := Lib.hid (fun k j => hrs_rng hmr pl k j)
 have HH0 := Lib.hid (fun j => hour0 hmr j)
 have HHS := Lib.hid (fun (k j : Nat) (y : Int) (m : Mo) (hy : pl[j]? = some y) (hm : ms[j]? = some m) => (show hrs ms pl k (j + 1) = hrs ms pl k j + (if y = (k : Int) then m.2.2.2 else 0) by simp only [hrs]; rw [hy, hm]; rfl))
 obtain ⟨E, hE⟩ : ∃ e, e = plnE ms os pl := ⟨_, rfl⟩
 obtain ⟨E2, hE2⟩ : ∃ e, e = plnE2 ms os pl := ⟨_, rfl⟩
 obtain ⟨FB, hFB⟩ : ∃ e, e = fitB ms os pl := ⟨_, rfl⟩
 rw [← hE] at h1 h2 h3 ⊢
 rw [← hE2] at h2 h3 HT HE HPOS
 rw [← hFB] at h3 HFN HFY
 obtain ⟨NM, hNM⟩ : ∃ N, N = ms.length := ⟨_, rfl⟩
 obtain ⟨NO, hNO⟩ : ∃ N, N = os.length := ⟨_, rfl⟩
 obtain ⟨NP, hNP⟩ : ∃ N, N = pl.length := ⟨_, rfl⟩
 rw [← hNM] at HM hml h1 h2 h3 ⊢
 rw [← hNO] at HO hol HFY ⊢
 rw [← hNP] at HP hpl HFY HFN h1 h2 h3 ⊢
 have HNM := Lib.hid hNM
 have HNO := Lib.hid hNO
 have HNP := Lib.hid hNP
 have H1 := Lib.hid h1
 have H2 := Lib.hid h2
 have H3 := Lib.hid h3
 clear hm ho hp hNM hNO hNP h1 h2 h3 hE hE2 hFB hmr
 by_cases hlen : NP = NM
 ·have z0 : ((NP : Int) != (NM : Int)) = false := by rw [bne_eq_false_iff_eq]; omega
  have HL := Lib.hid hlen
  have hlen2 : NP ≤ 1000 := by omega
  clear H1 hlen
  go_enter Tryz.func32, Tryz.ntmps32
  go_wp2_with fail
  go_loopw [7] (fun i wr => ∃ k : Nat, k ≤ NP ∧ i = .int .i64 k ∧ firstE ((pl.mapIdx (plnG ms os)).take k) = 0 ∧ Below w.heap.size w wr) (fun i _ => NP - (intOf i).toNat)
  case atStart => exact ⟨0, by omega, rfl, rfl, Below.refl _ _⟩
  case round =>
   obtain ⟨k, hk, rfl, hf, hbel⟩ := hrel
   have HF := Lib.hid hf
   clear hf
   by_cases hlt : k < NP
   ·have hdk : (k : Int) < (NP : Int) := by omega
    have hdm : (k : Int) < (NM : Int) := by rw [← HL.out]; omega
    obtain ⟨y, hy⟩ : ∃ x, pl[k]? = some x := ⟨_, List.getElem?_eq_getElem (by rw [← HNP.out]; exact hlt)⟩
    obtain ⟨pb, po, pcap, hpe, hpcs⟩ := (Ints.below HP.out hbel).head (by rw [← HNP.out]; omega)
    simp only [Value.slice.injEq] at hpe
    obtain ⟨rfl, -, rfl⟩ := hpe
    have q0 := hpcs k (by rw [← HNP.out]; exact hlt)
    rw [hy, Option.getD_some] at q0
    have hs := HS.out k y hy HF.out
    have ht := HT.out k y hy HF.out
    have HX := Lib.hid hy
    clear hpcs hy
    by_cases hneg : y < 0
    ·have hg : plnG ms os k y = 10 := by unfold plnG; rw [if_pos (.inl hneg)]
     rw [hg] at ht
     obtain rfl : E = 10 := by rw [H2.out HL.out (by rw [ht (by decide)]; decide)]; exact ht (by decide)
     clear hs ht hg H2 H3
     go_wp2
     go_ret
     exact ⟨rfl, hbel⟩
    ·obtain ⟨Y, rfl⟩ := Int.eq_ofNat_of_zero_le (show 0 ≤ y by omega)
     by_cases hbig : NO ≤ Y
     ·have hg : plnG ms os k (Y : Int) = 10 := by unfold plnG; rw [if_pos (.inr (by rw [← HNO.out]; omega))]
      rw [hg] at ht
      obtain rfl : E = 10 := by rw [H2.out HL.out (by rw [ht (by decide)]; decide)]; exact ht (by decide)
      have e1 : (NO : Int) ≤ (Y : Int) := by omega
      clear hs ht hg H2 H3 hbig hneg
      go_wp2
      go_ret
      exact ⟨rfl, hbel⟩
     ·have e1 : ¬ (NO : Int) ≤ (Y : Int) := by omega
      have e2 : (Y : Int) < (NO : Int) := by omega
      obtain ⟨x, hx⟩ : ∃ x, os[Y]? = some x := ⟨_, List.getElem?_eq_getElem (by rw [← HNO.out]; omega)⟩
      obtain ⟨m, hm⟩ : ∃ x, ms[k]? = some x := ⟨_, List.getElem?_eq_getElem (by rw [← HNM.out, ← HL.out]; omega)⟩
      obtain ⟨ob, oo, ocap, he, hcs⟩ := (HO.out.carry hbel).head (by rw [← HNO.out]; omega)
      simp only [Value.slice.injEq] at he
      obtain ⟨rfl, -, rfl⟩ := he
      obtain ⟨mb, mo, mcap, hme, hmcs⟩ := (HM.out.carry hbel).head (by rw [← HNM.out, ← HL.out]; omega)
      simp only [Value.slice.injEq] at hme
      obtain ⟨rfl, -, rfl⟩ := hme
      obtain ⟨c0, c1, c2⟩ := rw3 (hcs Y x hx) (show iV x = [.int .i64 x.1, .int .i64 x.2.1, .int .i64 x.2.2] from rfl)
      obtain ⟨m0, m1, m2, m3⟩ := rw4 (hmcs k m hm) (show mV m = [.string m.1, .int .i64 m.2.1, .int .i64 m.2.2.1, .int .i64 m.2.2.2] from rfl)
      have hg : plnG ms os k (Y : Int) = whenE (!perB x m) 14 := by
       unfold plnG
       rw [if_neg (by rw [← HNO.out]; omega), Int.toNat_natCast, hx, hm]; rfl
      rw [hg] at hs ht
      obtain ⟨x0, x1, x2⟩ := x
      obtain ⟨s, y1, y2, y3⟩ := m
      dsimp only at c0 c1 c2 m0 m1 m2 m3
      have TI := Lib.hid (fun W => IsPermitted_any x0 x1 x2 s y1 y2 y3 W)
      obtain ⟨pb2, hpb⟩ : ∃ b, b = perB (x0, x1, x2) (s, y1, y2, y3) := ⟨_, rfl⟩
      rw [← hpb] at TI hs ht
      have HS2 := Lib.hid hs
      have HT2 := Lib.hid ht
      have hY0 : (0 : Int) ≤ (Y : Int) := by omega
      have d0 : decide ((Y : Int) < 0) = false := by rw [decide_eq_false_iff_not]; omega
      have d1 : decide ((NO : Int) ≤ (Y : Int)) = false := by rw [decide_eq_false_iff_not]; omega
      clear hcs hmcs hx hm hg hs ht hpb hneg hbig
      go_upto_region 8 with fail
      refine wp_region_E 99 (by kernel_rfl) ?_
      obtain ⟨wz, hwz⟩ : ∃ v, v = wr.drew := ⟨_, rfl⟩
      rw [← hwz]
      have hlz : Below wr.heap.size wr wz := by rw [hwz]; exact (Below.refl _ _).drew
      have hbz := bthen hbel hlz
      have q0 := cellb q0 hlz
      have c0 := cellb c0 hlz
      have c1 := cellb c1 hlz
      have c2 := cellb c2 hlz
      have m0 := cellb m0 hlz
      have m1 := cellb m1 hlz
      have m2 := cellb m2 hlz
      have m3 := cellb m3 hlz
      clear hwz hlz
      refine zV 0 ⟨some 36, .move (.tmp 0), 48, "ref.go:500", #[], none⟩ rfl ?_
      simp only [Act.put, zS]
      refine zV 1 ⟨some 37, .move (.tmp 7), 3, "ref.go:500", #[], none⟩ rfl ?_
      simp only [Act.put, zS]
      refine zV 2 ⟨some 38, .indexAddr 48 (.tmp 36) (.tmp 37), 0, "ref.go:500", #[⟨0, .data⟩, ⟨1, .data⟩], none⟩ rfl ?_
      simp only [Act.put, zS]
      refine zV 3 ⟨some 39, .load 143 (.tmp 38), 143, "ref.go:500", #[⟨2, .data⟩], none⟩ rfl ?_ (hv := fun w hE => by have q0 := cellb q0 hE; have c0 := cellb c0 hE; have c1 := cellb c1 hE; have c2 := cellb c2 hE; have m0 := cellb m0 hE; have m1 := cellb m1 hE; have m2 := cellb m2 hE; have m3 := cellb m3 hE; (try dsimp only); go_simp; try rfl)
      simp only [Act.put, zS]
      refine zV 4 ⟨some 40, .move (.tmp 1), 49, "ref.go:500", #[], none⟩ rfl ?_
      simp only [Act.put, zS]
      refine zV 5 ⟨some 41, .move (.tmp 2), 41, "ref.go:500", #[], none⟩ rfl ?_
      simp only [Act.put, zS]
      refine zV 6 ⟨some 42, .move (.tmp 7), 3, "ref.go:500", #[], none⟩ rfl ?_
      simp only [Act.put, zS]
      refine zV 7 ⟨some 43, .indexAddr 41 (.tmp 41) (.tmp 42), 0, "ref.go:500", #[⟨5, .data⟩, ⟨6, .data⟩], none⟩ rfl ?_
      simp only [Act.put, zS]
      refine zV 8 ⟨some 44, .load 3 (.tmp 43), 3, "ref.go:500", #[⟨7, .data⟩], none⟩ rfl ?_ (hv := fun w hE => by have q0 := cellb q0 hE; have c0 := cellb c0 hE; have c1 := cellb c1 hE; have c2 := cellb c2 hE; have m0 := cellb m0 hE; have m1 := cellb m1 hE; have m2 := cellb m2 hE; have m3 := cellb m3 hE; (try dsimp only); go_simp; try rfl)
      simp only [Act.put, zS]
      refine zV 9 ⟨some 45, .indexAddr 49 (.tmp 40) (.tmp 44), 0, "ref.go:500", #[⟨4, .data⟩, ⟨8, .data⟩], none⟩ rfl ?_
      simp only [Act.put, zS]
      refine zV 10 ⟨some 46, .load 88 (.tmp 45), 88, "ref.go:500", #[⟨9, .data⟩], none⟩ rfl ?_ (hv := fun w hE => by have q0 := cellb q0 hE; have c0 := cellb c0 hE; have c1 := cellb c1 hE; have c2 := cellb c2 hE; have m0 := cellb m0 hE; have m1 := cellb m1 hE; have m2 := cellb m2 hE; have m3 := cellb m3 hE; (try dsimp only); go_simp; try rfl)
      simp only [Act.put, zS]
      refine zB 11 ⟨some 47, .call ⟨.value (.func 101), #[.tmp 39, .tmp 46], #[143, 88]⟩, 4, "ref.go:500", #[⟨3, .data⟩, ⟨10, .data⟩], none⟩ (fun w hE => TI.out w) rfl ?_
      simp only [Act.put, zS]
      refine zV 12 ⟨some 48, .unOp .not 4 (.tmp 47), 4, "ref.go:500", #[⟨11, .data⟩], none⟩ rfl ?_
      simp only [Act.put, zS]
      refine wpAnyE_done (by kernel_rfl) (fun wy1 hE => ?_) _
      have hbz1 := bthen hbz hE
      have q0 := cellb q0 hE
      have c0 := cellb c0 hE
      have c1 := cellb c1 hE
      have c2 := cellb c2 hE
      have m0 := cellb m0 hE
      have m1 := cellb m1 hE
      have m2 := cellb m2 hE
      have m3 := cellb m3 hE
      clear hE
      have hbel := hbz1
      obtain ⟨W9, hW9⟩ : ∃ v, v = wy1 := ⟨_, rfl⟩
      rw [← hW9] at hbel ⊢
      clear hW9
      clear q0 c0 c1 c2 m0 m1 m2 m3 TI
      cases pb2 with
      | true =>
        have HS3 := Lib.hid (show firstE ((pl.mapIdx (plnG ms os)).take (k + 1)) = 0 from HS2.out)
        go_wp2
        go_roundw
        case rel => exact ⟨k + 1, by omega, by go_num, HS3.out, hbel⟩
        case measure => simp [intOf]; omega
      | false =>
        have h14 := HT2.out (by decide)
        obtain rfl : E = 14 := by rw [H2.out HL.out (by rw [h14]; decide), h14]; rfl
        clear h14 H2 H3
        go_wp2
        go_ret
        exact ⟨rfl, hbel⟩
   ·obtain rfl : k = NP := by omega
    have hdk : ¬ (k : Int) < (k : Int) := by omega
    have hz : E2 = 0 := HE.out (by rw [← HNP.out]; exact HF.out)
    have h3 := H3.out HL.out hz
    have HPS := Lib.hid (HPOS.out hz)
    obtain ⟨W1, hW1⟩ : ∃ v, v = wr := ⟨_, rfl⟩
    rw [← hW1] at hbel ⊢
    have HB1 := Lib.hid hbel
    have H3' := Lib.hid h3
    clear hz h3 hW1 hbel H2 H3 HT HE HS
    go_wp2_with fail
    go_loopw [8] (fun i wy => ∃ j : Nat, j ≤ NO ∧ i = .int .i64 j ∧ (∀ (q : Nat) (o : I3), q < j → os[q]? = some o → hrs ms pl q k ≤ o.2.1) ∧ wy = W1) (fun i _ => NO - (intOf i).toNat)
    case atStart => exact ⟨0, by omega, rfl, fun q o hq => by omega, rfl⟩
    case round =>
     obtain ⟨j, hj, rfl, hall, hwy⟩ := hrel
     subst hwy
     have HALL := Lib.hid hall
     clear hall
     by_cases hjlt : j < NO
     ·have hdj : (j : Int) < (NO : Int) := by omega
      obtain ⟨x, hx⟩ : ∃ x, os[j]? = some x := ⟨_, List.getElem?_eq_getElem (by rw [← HNO.out]; exact hjlt)⟩
      have HX := Lib.hid hx
      clear hx
      go_wp2_with fail
      go_loop [9, 10] (fun u i => ∃ m : Nat, m ≤ k ∧ i = .int .i64 m ∧ u = .int .i64 (hrs ms pl j m)) (fun _ i => k - (intOf i).toNat)
      case atStart => exact ⟨0, by omega, rfl, rfl⟩
      case round =>
       obtain ⟨m, hm, rfl, rfl⟩ := hrel
       by_cases hmlt : m < k
       ·have hdm : (m : Int) < (k : Int) := by omega
        have hdn : (m : Int) < (NM : Int) := by rw [← HL.out]; omega
        obtain ⟨y, hy⟩ : ∃ d, pl[m]? = some d := ⟨_, List.getElem?_eq_getElem (by rw [← HNP.out]; exact hmlt)⟩
        obtain ⟨q, hq⟩ : ∃ d, ms[m]? = some d := ⟨_, List.getElem?_eq_getElem (by rw [← HNM.out, ← HL.out]; exact hmlt)⟩
        obtain ⟨pb, po, pcap, hpe, hpcs⟩ := (Ints.below HP.out HB1.out).head (by rw [← HNP.out]; omega)
        simp only [Value.slice.injEq] at hpe
        obtain ⟨rfl, -, rfl⟩ := hpe
        have q0 := hpcs m (by rw [← HNP.out]; exact hmlt)
        rw [hy, Option.getD_some] at q0
        obtain ⟨mb, mo, mcap, hme, hmcs⟩ := (HM.out.carry HB1.out).head (by rw [← HNM.out, ← HL.out]; omega)
        simp only [Value.slice.injEq] at hme
        obtain ⟨rfl, -, rfl⟩ := hme
        obtain ⟨-, -, -, m3⟩ := rw4 (hmcs m q hq) (show mV q = [.string q.1, .int .i64 q.2.1, .int .i64 q.2.2.1, .int .i64 q.2.2.2] from rfl)
        have ht := HHS.out j m y q hy hq
        have ht0 := HHR.out j m
        have hh0 := HH0.out m
        rw [hq, Option.getD_some] at hh0
        obtain ⟨h, hh⟩ : ∃ h, h = q.2.2.2 := ⟨_, rfl⟩
        rw [← hh] at m3 ht hh0
        obtain ⟨Z, hZ⟩ : ∃ Z, Z = hrs ms pl j m := ⟨_, rfl⟩
        rw [← hZ] at ht ht0 ⊢
        have hz9 : 0 ≤ Z ∧ Z ≤ 100000 := by omega
        by_cases hle : y = (j : Int)
        ·rw [if_pos hle] at ht
         have hr1 : IntKind.i64.wrap (Z + h) = Z + h := IntWalk.i64_in _ (by omega)
         have HTT := Lib.hid ht
         have hb0 : (y == (j : Int)) = true := by rw [beq_iff_eq]; exact hle
         have hZ0 : 0 ≤ Z := hz9.1
         have hZ1 : Z ≤ 100000 := hz9.2
         have hh1 : 0 ≤ h := hh0.1
         have hh2 : h ≤ 100 := hh0.2
         clear ht ht0 hZ hh hpcs hmcs hy hq hle hz9 hh0
         go_wp2
         go_round
         case rel => exact ⟨m + 1, by omega, by go_num, by rw [HTT.out]⟩
         case measure => simp [intOf]; omega
        ·rw [if_neg hle, Int.add_zero] at ht
         have HTT := Lib.hid ht
         have hb0 : (y == (j : Int)) = false := by rw [beq_eq_false_iff_ne]; exact hle
         clear ht ht0 hZ hh hpcs hmcs hy hq hle m3
         go_wp2
         go_round
         case rel => exact ⟨m + 1, by omega, by go_num, by rw [HTT.out]⟩
         case measure => simp [intOf]; omega
       ·obtain rfl : m = k := by omega
        have hdm : ¬ (m : Int) < (m : Int) := by omega
        obtain ⟨ob, oo, ocap, he, hcs⟩ := (HO.out.carry HB1.out).head (by rw [← HNO.out]; omega)
        simp only [Value.slice.injEq] at he
        obtain ⟨rfl, -, rfl⟩ := he
        obtain ⟨-, c1, -⟩ := rw3 (hcs j x HX.out) (show iV x = [.int .i64 x.1, .int .i64 x.2.1, .int .i64 x.2.2] from rfl)
        have HN := Lib.hid (fun h => HFN.out HPS.out j x HX.out h)
        have HY := Lib.hid (fun (h : hrs ms pl j m ≤ x.2.1) => (show ∀ (q : Nat) (o : I3), q < j + 1 → os[q]? = some o → hrs ms pl q m ≤ o.2.1 from fun q o hq ho => by
         by_cases e : q = j
         ·subst e; rw [HX.out] at ho; cases ho; exact h
         ·exact HALL.out q o (by omega) ho))
        obtain ⟨Z, hZ⟩ : ∃ Z, Z = hrs ms pl j m := ⟨_, rfl⟩
        obtain ⟨H, hH⟩ : ∃ Z, Z = x.2.1 := ⟨_, rfl⟩
        rw [← hZ] at HN HY ⊢
        rw [← hH] at HN HY c1
        clear hcs hZ hH
        by_cases hgt : H < Z
        ·obtain rfl : FB = false := HN.out hgt
         obtain rfl : E = 20 := H3'.out
         clear HN HY H3' HFN HFY
         go_wp2
         go_ret
         exact ⟨rfl, HB1.out⟩
        ·have HA2 := Lib.hid (HY.out (by omega))
         have hb0 : decide (H < Z) = false := decide_eq_false hgt
         clear hgt HN HY
         go_wp2
         go_roundw
         case rel => exact ⟨j + 1, by omega, by go_num, HA2.out, by trivial⟩
         case measure => simp [intOf]; omega
     ·obtain rfl : j = NO := by omega
      have hdj : ¬ (j : Int) < (j : Int) := by omega
      obtain rfl : FB = true := HFY.out HPS.out HALL.out
      obtain rfl : E = 0 := H3'.out
      clear HFN HFY H3'
      go_wp2
      go_ret
      exact ⟨rfl, HB1.out⟩
 ·have z0 : ((NP : Int) != (NM : Int)) = true := by rw [bne_iff_ne]; omega
  obtain rfl : E = 2 := H1.out hlen
  clear H1 H2 H3 hlen
  go_enter Tryz.func32, Tryz.ntmps32
  go_wp2
  go_ret
  exact ⟨rfl, Below.refl _ _⟩
end Go.Proofs.YtjcmohfpenfepaaGreatDoor

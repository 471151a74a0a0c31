/- The reference of chapter 7: IsPermitted, Cost, Spares. -/
import Derived.Test.YtjcmohfpenfepaaGreatDoorVlB
import Derived.Test.YtjcmohfpenfepaaGreatDoorVjB
namespace Go.Proofs.YtjcmohfpenfepaaGreatDoor
set_option linter.unusedSimpArgs false
set_option linter.unusedVariables false
open Go.RowKit
set_option maxRecDepth 100000 in
set_option maxHeartbeats 1000000 in
theorem IsPermitted_any (o0 o1 o2 : Int) (s : ByteArray) (m1 m2 m3 : Int) (w : World) :
 Calls Tryz.prog 101 #[.agg #[.string s, .int .i64 m1, .int .i64 m2, .int .i64 m3], .agg #[.int .i64 o0, .int .i64 o1, .int .i64 o2]] w fun r w' => r = .returned (.bool (perB (o0, o1, o2) (s, m1, m2, m3))) ∧ Below w.heap.size w w' := by
 have k1 := below_new w (.cells #[.string s, .int .i64 m1, .int .i64 m2, .int .i64 m3] 143)
 have k2 := below_new (w.alloc (.cells #[.string s, .int .i64 m1, .int .i64 m2, .int .i64 m3] 143)) (.cells #[.int .i64 o0, .int .i64 o1, .int .i64 o2] 88)
 by_cases h1 : m1 ≤ o0
 ·by_cases h2 : o0 ≤ m2
  ·have hR : perB (o0, o1, o2) (s, m1, m2, m3) = true := by unfold perB; simp [h1, h2]
   rw [hR]
   clear hR
   go_enter Tryz.func101, Tryz.ntmps101
   go_wp2
   go_ret
   exact ⟨rfl, bthen k1 k2⟩
  ·have hR : perB (o0, o1, o2) (s, m1, m2, m3) = false := by unfold perB; simp [h2]
   have b2 : decide (o0 ≤ m2) = false := by simpa using h2
   rw [hR]
   clear hR h2
   go_enter Tryz.func101, Tryz.ntmps101
   go_wp2
   go_ret
   exact ⟨rfl, bthen k1 k2⟩
 ·have hR : perB (o0, o1, o2) (s, m1, m2, m3) = false := by unfold perB; simp [h1]
  have b1 : decide (m1 ≤ o0) = false := by simpa using h1
  rw [hR]
  clear hR h1
  go_enter Tryz.func101, Tryz.ntmps101
  go_wp2
  go_ret
  exact ⟨rfl, bthen k1 k2⟩
theorem hasI_any (l : List Int) (k : Int) : hasI l k = l.any fun y => k == y := by
 unfold hasI
 exact List.contains_eq_any_beq
set_option maxRecDepth 100000 in
set_option maxHeartbeats 2000000 in
theorem CostR_any (vo vp : Value) (os : List I3) (pl : List Int) (w : World) (ho : Rw 3 iV w vo os) (hp : Ints w vp pl) (hol : os.length ≤ 1000) (hpl : pl.length ≤ 1000) (hor : ∀ o ∈ os, 0 ≤ o.2.2 ∧ o.2.2 ≤ 1000000) :
 Calls Tryz.prog 38 #[vo, vp] w fun r w' => r = .returned (.int .i64 (costL os pl)) ∧ w = w' := by
 have TX := Lib.hid (fun (k : Int) => HasInt_any vp pl k w (by omega) hp)
 have HO := Lib.hid ho
 have HR := Lib.hid (costK_rng os pl hor)
 have HOR := Lib.hid hor
 obtain ⟨oa, oc, rfl, hoc⟩ := ho.slice
 obtain ⟨NO, hNO⟩ : ∃ N, N = os.length := ⟨_, rfl⟩
 rw [← hNO] at HO hol hoc ⊢
 have HNO := Lib.hid hNO
 have hR : costL os pl = costK os pl NO := by rw [hNO]; rfl
 rw [hR]
 clear ho hp hor hNO hR
 go_enter Tryz.func38, Tryz.ntmps38
 go_wp2_with fail
 go_loop [5, 6] (fun s i => ∃ k : Nat, k ≤ NO ∧ i = .int .i64 k ∧ s = .int .i64 (costK os pl k)) (fun _ i => NO - (intOf i).toNat)
 case atStart => exact ⟨0, by omega, rfl, rfl⟩
 case round =>
  obtain ⟨k, hk, rfl, rfl⟩ := hrel
  by_cases hlt : k < NO
  ·obtain ⟨x, hx⟩ : ∃ x, os[k]? = some x := ⟨_, List.getElem?_eq_getElem (by rw [← HNO.out]; exact hlt)⟩
   obtain ⟨b, off, cp, he, hcs⟩ := HO.out.head (by rw [← HNO.out]; omega)
   simp only [Value.slice.injEq] at he
   obtain ⟨rfl, -, rfl⟩ := he
   obtain ⟨c0, c1, c2⟩ := rw3 (hcs k x hx) (show iV x = [.int .i64 x.1, .int .i64 x.2.1, .int .i64 x.2.2] from rfl)
   have hs : costK os pl (k + 1) = costK os pl k + (if (pl.any fun y => (k : Int) == y) = true then x.2.2 else 0) := by simp only [costK]; rw [hx]; rfl
   have hr := HR.out k
   have hxr := HOR.out x (List.mem_of_getElem? hx)
   obtain ⟨x0, x1, x2⟩ := x
   simp only at c0 c1 c2 hs hxr
   have TXk := TX.out (k : Int)
   rw [hasI_any] at TXk
   have TXk := Lib.hid TXk
   obtain ⟨A, hA⟩ : ∃ A, A = pl.any fun y => (k : Int) == y := ⟨_, rfl⟩
   rw [← hA] at hs TXk
   obtain ⟨S, hS⟩ : ∃ S, S = costK os pl k := ⟨_, rfl⟩
   rw [← hS] at hs hr ⊢
   have hdk : (k : Int) < (NO : Int) := by omega
   have q1 : IntKind.i64.wrap (S + x2) = S + x2 := IntWalk.i64_in _ (by omega)
   cases A with
   | true =>
     rw [if_pos rfl] at hs
     have HS := Lib.hid hs
     clear hcs hx hs hA hS hlt
     go_wp2_with fail
     refine TXk.out.mono ?_
     rintro e w2 ⟨rfl, rfl⟩
     go_wp2
     go_round
     case rel => exact ⟨k + 1, by omega, by go_num, by rw [HS.out]⟩
     case measure => simp [intOf]; omega
   | false =>
     rw [if_neg (by decide), Int.add_zero] at hs
     have HS := Lib.hid hs
     clear hcs hx hs hA hS hlt
     go_wp2_with fail
     refine TXk.out.mono ?_
     rintro e w2 ⟨rfl, rfl⟩
     go_wp2
     go_round
     case rel => exact ⟨k + 1, by omega, by go_num, by rw [HS.out]⟩
     case measure => simp [intOf]; omega
  ·have hkN : k = NO := by omega
   subst hkN
   have e6 : ¬ (k : Int) < (k : Int) := by omega
   go_wp2
   go_ret
   exact ⟨rfl, rfl⟩
set_option maxRecDepth 100000 in
set_option maxHeartbeats 8000000 in
theorem SparesR_any (vo vp vd : Value) (os : List I3) (pl : List Int) (ds : List P2) (w : World) (hol : os.length ≤ 1000) (hpl : pl.length ≤ 1000) (hpp : ∀ x ∈ pl, 0 ≤ x) (hdl : ds.length ≤ 64) (hds : ∀ d ∈ ds, 1 ≤ d.2 ∧ d.2 ≤ 100) (ho : Rw 3 iV w vo os) (hp : Ints w vp pl) (hd : Prs w vd ds) :
 Calls Tryz.prog 39 #[vo, vp, vd] w fun r w' => r = .returned (.int .i64 (sprK os pl ds os.length)) ∧ Below w.heap.size w w' := by
 have HO := Lib.hid ho
 have HP := Lib.hid hp
 have HD := Lib.hid hd
 have HS := Lib.hid (fun (k : Nat) (x : I3) (hx : os[k]? = some x) => (show sprK os pl ds (k + 1) = mxI (sprK os pl ds k) (sumF (leF (k : Int)) pl - therS x.1 ds) by simp only [sprK]; rw [hx, used_le hpp]; rfl))
 have HR := Lib.hid (fun k => sprK_rng os pl ds hds hdl k)
 have HR2 := Lib.hid (fun k => spr_most os hpp ds hds hdl k)
 have HTR := Lib.hid (fun t k => therS_rng t hds hdl k)
 obtain ⟨oa, oc, rfl, -⟩ := ho.slice
 obtain ⟨pa, pc, hpe, -⟩ := id hp
 subst hpe
 obtain ⟨da, dc, rfl, -⟩ := hd.slice
 obtain ⟨NO, hNO⟩ : ∃ N, N = os.length := ⟨_, rfl⟩
 obtain ⟨NP, hNP⟩ : ∃ N, N = pl.length := ⟨_, rfl⟩
 obtain ⟨ND, hND⟩ : ∃ N, N = ds.length := ⟨_, rfl⟩
 rw [← hNO] at HO hol ⊢
 rw [← hNP] at HP HR2 hpl ⊢
 rw [← hND] at HD hdl ⊢
 have HNO := Lib.hid hNO
 have HNP := Lib.hid hNP
 have HND := Lib.hid hND
 clear ho hp hd hNO hNP hND hpp hds
 go_enter Tryz.func39, Tryz.ntmps39
 go_wp2_with fail
 go_loopw [7, 8] (fun s i wr => ∃ k : Nat, k ≤ NO ∧ i = .int .i64 k ∧ s = .int .i64 (sprK os pl ds k) ∧ Below w.heap.size w wr) (fun _ i _ => NO - (intOf i).toNat)
 case atStart => exact ⟨0, by omega, rfl, rfl, Below.refl _ _⟩
 case round =>
  obtain ⟨k, hk, rfl, rfl, hbel⟩ := hrel
  by_cases hlt : k < NO
  ·have hdk : (k : Int) < (NO : Int) := by omega
   obtain ⟨x, hx⟩ : ∃ x, os[k]? = some x := ⟨_, List.getElem?_eq_getElem (by rw [← HNO.out]; exact hlt)⟩
   have hs := HS.out k x hx
   have hr2 := HR2.out k
   have HX := Lib.hid hx
   obtain ⟨x0, x1, x2⟩ := x
   dsimp only at hs
   obtain ⟨M, hM⟩ : ∃ M, M = sprK os pl ds k := ⟨_, rfl⟩
   rw [← hM] at hs hr2 ⊢
   have hMr : 0 ≤ M ∧ M ≤ 1000 := by omega
   obtain ⟨W1, hW1⟩ : ∃ v, v = wr := ⟨_, rfl⟩
   rw [← hW1] at hbel ⊢
   have HB1 := Lib.hid hbel
   have HSS := Lib.hid hs
   clear hs hr2 hx hM hW1 hbel
   go_wp2_with fail
   go_loop [9, 11] (fun u i => ∃ j : Nat, j ≤ NP ∧ i = .int .i64 j ∧ u = .int .i64 (sumF (leF (k : Int)) (pl.take j))) (fun _ i => NP - (intOf i).toNat)
   case atStart => exact ⟨0, by omega, rfl, rfl⟩
   case round =>
    obtain ⟨j, hj, rfl, rfl⟩ := hrel
    by_cases hjlt : j < NP
    ·have hdj : (j : Int) < (NP : Int) := by omega
     obtain ⟨y, hy⟩ : ∃ d, pl[j]? = some d := ⟨_, List.getElem?_eq_getElem (by rw [← HNP.out]; exact hjlt)⟩
     obtain ⟨pb, po, pcap, hpe, hpcs⟩ := (Ints.below HP.out HB1.out).head (by rw [← HNP.out]; omega)
     simp only [Value.slice.injEq] at hpe
     obtain ⟨rfl, -, rfl⟩ := hpe
     have q0 := hpcs j (by rw [← HNP.out]; exact hjlt)
     rw [hy, Option.getD_some] at q0
     have ht := sumF_take (leF (k : Int)) pl j y hy
     have ht0 := leF_rng (pl.take j) (k : Int)
     rw [List.length_take, ← HNP.out] at ht0
     have hf : leF (k : Int) y = if y ≤ (k : Int) then 1 else 0 := rfl
     rw [hf] at ht
     obtain ⟨Z, hZ⟩ : ∃ Z, Z = sumF (leF (k : Int)) (pl.take j) := ⟨_, rfl⟩
     rw [← hZ] at ht ht0 ⊢
     have hz9 : 0 ≤ Z ∧ Z ≤ 1000 := by omega
     by_cases hle : y ≤ (k : Int)
     ·rw [if_pos hle] at ht
      have hr1 : IntKind.i64.wrap (Z + 1) = Z + 1 := IntWalk.i64_in _ (by omega)
      have HTT := Lib.hid ht
      have hb0 : decide (y ≤ (k : Int)) = true := decide_eq_true hle
      clear ht ht0 hZ hf hpcs hy hle
      go_wp2
      go_round
      case rel => exact ⟨j + 1, by omega, by go_num, by rw [HTT.out]⟩
      case measure => simp [intOf]; omega
     ·rw [if_neg hle, Int.add_zero] at ht
      have HTT := Lib.hid ht
      have hb0 : decide (y ≤ (k : Int)) = false := decide_eq_false hle
      clear ht ht0 hZ hf hpcs hy hle
      go_wp2
      go_round
      case rel => exact ⟨j + 1, by omega, by go_num, by rw [HTT.out]⟩
      case measure => simp [intOf]; omega
    ·obtain rfl : j = NP := by omega
     have hdj : ¬ (j : Int) < (j : Int) := by omega
     have e : pl.take j = pl := by rw [HNP.out, List.take_length]
     rw [e]
     have hur := leF_rng pl (k : Int)
     rw [← HNP.out] at hur
     obtain ⟨U, hU⟩ : ∃ U, U = sumF (leF (k : Int)) pl := ⟨_, rfl⟩
     have hss := HSS.out
     rw [← hU] at hss hur ⊢
     have HS2 := Lib.hid hss
     have hUr : 0 ≤ U ∧ U ≤ 1000 := by omega
     clear e hU hss hur HSS
     go_wp2_with fail
     go_loopw [10, 12] (fun u i wy => ∃ m : Nat, m ≤ ND ∧ i = .int .i64 m ∧ u = .int .i64 (sumF (therF x0) (ds.take m)) ∧ Below W1.heap.size W1 wy) (fun _ i _ => ND - (intOf i).toNat)
     case atStart => exact ⟨0, by omega, rfl, rfl, Below.refl _ _⟩
     case round =>
      obtain ⟨m, hm, rfl, rfl, hbi⟩ := hrel
      by_cases hmlt : m < ND
      ·have hdm : (m : Int) < (ND : Int) := by omega
       obtain ⟨d, hd⟩ : ∃ d, ds[m]? = some d := ⟨_, List.getElem?_eq_getElem (by rw [← HND.out]; exact hmlt)⟩
       obtain ⟨ub, uo, ucap, hue, hucs⟩ := (HD.out.carry (bthen HB1.out hbi)).head (by rw [← HND.out]; omega)
       simp only [Value.slice.injEq] at hue
       obtain ⟨rfl, -, rfl⟩ := hue
       obtain ⟨q0, q1⟩ := rw2 (hucs m d hd) (show pV d = [.int .i64 d.1, .int .i64 d.2] from rfl)
       obtain ⟨b, off, cc, he, hcs⟩ := (HO.out.carry (bthen HB1.out hbi)).head (by rw [← HNO.out]; omega)
       simp only [Value.slice.injEq] at he
       obtain ⟨rfl, -, rfl⟩ := he
       obtain ⟨c0, -, -⟩ := rw3 (hcs k _ HX.out) (show iV (x0, x1, x2) = [.int .i64 x0, .int .i64 x1, .int .i64 x2] from rfl)
       have ht := sumF_take (therF x0) ds m d hd
       have ht0 := HTR.out x0 m
       have ht1 := HTR.out x0 (m + 1)
       rw [ht] at ht1
       obtain ⟨d0, d1⟩ := d
       dsimp only at q0 q1
       have hf : therF x0 (d0, d1) = if d0 ≤ x0 then d1 else 0 := rfl
       rw [hf] at ht ht1
       obtain ⟨T, hT⟩ : ∃ T, T = sumF (therF x0) (ds.take m) := ⟨_, rfl⟩
       rw [← hT] at ht ht0 ht1 ⊢
       by_cases hle : d0 ≤ x0
       ·rw [if_pos hle] at ht ht1
        have hr1 : IntKind.i64.wrap (T + d1) = T + d1 := IntWalk.i64_in _ (by omega)
        have HTT := Lib.hid ht
        have hb0 : decide (d0 ≤ x0) = true := decide_eq_true hle
        have hTr : 0 ≤ T ∧ T ≤ 6400 := ht0
        have hTr1 : 0 ≤ T + d1 ∧ T + d1 ≤ 6400 := ht1
        clear ht ht0 ht1 hT hf hucs hcs hd hle
        go_upto_region 14 with fail
        refine wp_region_held_drew (S := (fun W => W.cell? ⟨ub, uo + m * 2, none⟩ = some (.int .i64 d0) ∧ W.cell? ⟨ub, uo + m * 2 + 1, none⟩ = some (.int .i64 d1) ∧ W.cell? ⟨b, off + k * 3, none⟩ = some (.int .i64 x0))) (by kernel_rfl) ⟨cellb q0 (Below.refl _ _).drew, cellb q1 (Below.refl _ _).drew, cellb c0 (Below.refl _ _).drew⟩ (fun hHeld0 => ?_)
        obtain ⟨wzd, hwz⟩ : ∃ v, v = wr.drew := ⟨_, rfl⟩
        rw [← hwz] at hHeld0 ⊢
        have hbzd : Below wr.heap.size wr wzd := by rw [hwz]; exact (Below.refl _ _).drew
        have hlzd : Below wr.heap.size wr wzd := by rw [hwz]; exact (Below.refl _ _).drew
        clear hwz hlzd
        refine zH 0 ⟨some 39, .move (.tmp 2), 50, "ref.go:638", #[], none⟩ rfl ?_
        simp only [Act.put, zS]
        refine zH 1 ⟨some 40, .move (.tmp 12), 3, "ref.go:638", #[], none⟩ rfl ?_
        simp only [Act.put, zS]
        refine zH 2 ⟨some 41, .indexAddr 50 (.tmp 39) (.tmp 40), 0, "ref.go:638", #[⟨0, .data⟩, ⟨1, .data⟩], none⟩ rfl ?_
        simp only [Act.put, zS]
        refine zH 3 ⟨some 42, .fieldAddr 90 (.tmp 41) 0, 0, "ref.go:638", #[⟨2, .data⟩], none⟩ rfl ?_
        simp only [Act.put, zS]
        refine zH 4 ⟨some 43, .load 3 (.tmp 42), 3, "ref.go:638", #[⟨3, .data⟩], none⟩ rfl ?_
        simp only [Act.put, zS]
        refine zH 5 ⟨some 44, .move (.tmp 0), 49, "ref.go:638", #[], none⟩ rfl ?_
        simp only [Act.put, zS]
        refine zH 6 ⟨some 45, .move (.tmp 8), 3, "ref.go:638", #[], none⟩ rfl ?_
        simp only [Act.put, zS]
        refine zH 7 ⟨some 46, .indexAddr 49 (.tmp 44) (.tmp 45), 0, "ref.go:638", #[⟨5, .data⟩, ⟨6, .data⟩], none⟩ rfl ?_
        simp only [Act.put, zS]
        refine zH 8 ⟨some 47, .fieldAddr 88 (.tmp 46) 0, 0, "ref.go:638", #[⟨7, .data⟩], none⟩ rfl ?_
        simp only [Act.put, zS]
        refine zH 9 ⟨some 48, .load 3 (.tmp 47), 3, "ref.go:638", #[⟨8, .data⟩], none⟩ rfl ?_
        simp only [Act.put, zS]
        refine zH 10 ⟨some 49, .binOp .leq 3 (.tmp 43) (.tmp 48) 3, 4, "ref.go:638", #[⟨4, .data⟩, ⟨9, .data⟩], none⟩ rfl ?_
        simp only [Act.put, zS]
        refine wpAnyH_done (by kernel_rfl) ?_ _
        clear hHeld0
        have hb2 := hbzd
        have q1 := cellb q1 hb2
        obtain ⟨W9, hW9⟩ : ∃ v, v = wzd := ⟨_, rfl⟩
        rw [← hW9] at hb2 q1 ⊢
        clear hW9
        have hbi2 := bthen hbi hb2
        clear q0 c0 hb2
        go_wp2
        go_roundw
        case rel => exact ⟨m + 1, by omega, by go_num, by rw [HTT.out], hbi2⟩
        case measure => simp [intOf]; omega
       ·rw [if_neg hle, Int.add_zero] at ht ht1
        have HTT := Lib.hid ht
        have hb0 : decide (d0 ≤ x0) = false := decide_eq_false hle
        clear ht ht0 ht1 hT hf hucs hcs hd hle
        go_upto_region 14 with fail
        refine wp_region_held_drew (S := (fun W => W.cell? ⟨ub, uo + m * 2, none⟩ = some (.int .i64 d0) ∧ W.cell? ⟨ub, uo + m * 2 + 1, none⟩ = some (.int .i64 d1) ∧ W.cell? ⟨b, off + k * 3, none⟩ = some (.int .i64 x0))) (by kernel_rfl) ⟨cellb q0 (Below.refl _ _).drew, cellb q1 (Below.refl _ _).drew, cellb c0 (Below.refl _ _).drew⟩ (fun hHeld0 => ?_)
        obtain ⟨wzd, hwz⟩ : ∃ v, v = wr.drew := ⟨_, rfl⟩
        rw [← hwz] at hHeld0 ⊢
        have hbzd : Below wr.heap.size wr wzd := by rw [hwz]; exact (Below.refl _ _).drew
        have hlzd : Below wr.heap.size wr wzd := by rw [hwz]; exact (Below.refl _ _).drew
        clear hwz hlzd
        refine zH 0 ⟨some 39, .move (.tmp 2), 50, "ref.go:638", #[], none⟩ rfl ?_
        simp only [Act.put, zS]
        refine zH 1 ⟨some 40, .move (.tmp 12), 3, "ref.go:638", #[], none⟩ rfl ?_
        simp only [Act.put, zS]
        refine zH 2 ⟨some 41, .indexAddr 50 (.tmp 39) (.tmp 40), 0, "ref.go:638", #[⟨0, .data⟩, ⟨1, .data⟩], none⟩ rfl ?_
        simp only [Act.put, zS]
        refine zH 3 ⟨some 42, .fieldAddr 90 (.tmp 41) 0, 0, "ref.go:638", #[⟨2, .data⟩], none⟩ rfl ?_
        simp only [Act.put, zS]
        refine zH 4 ⟨some 43, .load 3 (.tmp 42), 3, "ref.go:638", #[⟨3, .data⟩], none⟩ rfl ?_
        simp only [Act.put, zS]
        refine zH 5 ⟨some 44, .move (.tmp 0), 49, "ref.go:638", #[], none⟩ rfl ?_
        simp only [Act.put, zS]
        refine zH 6 ⟨some 45, .move (.tmp 8), 3, "ref.go:638", #[], none⟩ rfl ?_
        simp only [Act.put, zS]
        refine zH 7 ⟨some 46, .indexAddr 49 (.tmp 44) (.tmp 45), 0, "ref.go:638", #[⟨5, .data⟩, ⟨6, .data⟩], none⟩ rfl ?_
        simp only [Act.put, zS]
        refine zH 8 ⟨some 47, .fieldAddr 88 (.tmp 46) 0, 0, "ref.go:638", #[⟨7, .data⟩], none⟩ rfl ?_
        simp only [Act.put, zS]
        refine zH 9 ⟨some 48, .load 3 (.tmp 47), 3, "ref.go:638", #[⟨8, .data⟩], none⟩ rfl ?_
        simp only [Act.put, zS]
        refine zH 10 ⟨some 49, .binOp .leq 3 (.tmp 43) (.tmp 48) 3, 4, "ref.go:638", #[⟨4, .data⟩, ⟨9, .data⟩], none⟩ rfl ?_
        simp only [Act.put, zS]
        refine wpAnyH_done (by kernel_rfl) ?_ _
        clear hHeld0
        have hb2 := hbzd
        obtain ⟨W9, hW9⟩ : ∃ v, v = wzd := ⟨_, rfl⟩
        rw [← hW9] at hb2 ⊢
        clear hW9
        have hbi2 := bthen hbi hb2
        clear q0 q1 c0 hb2
        go_wp2
        go_roundw
        case rel => exact ⟨m + 1, by omega, by go_num, by rw [HTT.out], hbi2⟩
        case measure => simp [intOf]; omega
      ·obtain rfl : m = ND := by omega
       have hdm : ¬ (m : Int) < (m : Int) := by omega
       have hts : sumF (therF x0) (ds.take m) = therS x0 ds := by rw [HND.out, List.take_length]; rfl
       have htb := HTR.out x0 m
       rw [hts] at htb ⊢
       obtain ⟨T, hT⟩ : ∃ T, T = therS x0 ds := ⟨_, rfl⟩
       have hss := HS2.out
       rw [← hT] at htb hss ⊢
       have HS3 := Lib.hid hss
       have hr1 : IntKind.i64.wrap (U - T) = U - T := IntWalk.i64_in _ (by omega)
       have hb3 := bthen HB1.out hbi
       clear hts hT hss HS2 hbi
       go_wp2
       go_roundw
       case rel => exact ⟨k + 1, by omega, by go_num, by rw [HS3.out]; rfl, hb3⟩
       case measure => simp [intOf]; omega
  ·obtain rfl : k = NO := by omega
   have hdk : ¬ (k : Int) < (k : Int) := by omega
   obtain ⟨S, hS⟩ : ∃ S, S = sprK os pl ds k := ⟨_, rfl⟩
   rw [← hS]
   have HSX := Lib.hid hS
   clear hS
   go_wp2
   go_ret
   exact ⟨ret_int HSX.out, hbel⟩
end Go.Proofs.YtjcmohfpenfepaaGreatDoor

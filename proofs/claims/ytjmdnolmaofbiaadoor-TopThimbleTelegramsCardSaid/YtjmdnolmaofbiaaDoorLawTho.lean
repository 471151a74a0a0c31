/- The law TopThimbleTelegrams: what is left behind the first loop. -/
import Derived.Test.YtjmdnolmaofbiaaDoorLawThn
namespace Go.Proofs.YtjmdnolmaofbiaaDoor
set_option linter.unusedSimpArgs false
set_option linter.unusedVariables false
open Go.RowKit
set_option maxRecDepth 100000 in
set_option maxHeartbeats 80000000 in
theorem thRest (a : Option Addr) (cap m : Nat) (xs : List E3) (n0 n1 n2 wg fs : Int) (w : World) : (thSplit a cap m xs n0 n1 n2 wg fs w).1 := by
  delta thSplit splitP
  dsimp only
  intro hn0 hn1 hwg hfs TW HV H8 HM W1 W2 hm8 wz wy1 W3 hT i1 hB bd kk dd HBD HKK HDD HK16 HD255 F HF hWf Kc aK wr u6 u9 u10 u11 u13 u14 u15 u16 u17 u18 u19 u51 u52 u53 u54 u55 u56 u57 u58 u59 u60 u61 u62 u63 u64 u65 u66 u67 u68 u69 u70 u71 u72 u73 u74 u75 u76 u77 u78 u79 u80 u81 u82 u83 u84 u85 u86 u87 u88 u89 u90 u91 u92 u93 u94 u95 u96 u97 u98 u99 u100 u101 u102 u103 u104 u105 u106 u107 u108 u109 u110 u111 u112 u113 u114 u115 u116 u117 u118 u119 u120 u121 u122 u123 u124 u125 u126 k hk hbag hbel hlt
  obtain rfl : k = m := by omega
  have hbyt : Byt wr u10 (codeL F (2 * k)) := by
    have := hbag.oC
    exact Byt.of_own this
  have hFn : ∀ j, (F j).length = 16 := fun j => by rw [HF.out]; exact frX_len _ _ _ _
  have hFb : ∀ j, ByteL (F j) := fun j => by rw [HF.out]; exact frX_byte HK16.out HD255.out
  have htk : ∀ j, TgOk (teleF (phs xs) fs j) := teleF_ok (fun k => phE_sml _) _
  have hcl : (codeL F (2 * k)).length = 16 * (2 * k) := codeL_len hFn _
  have TR := Lib.hid (fun (u : Value) (W : World) (hu : Byt W u (codeL F (2 * k))) => by
    have := Received_any u (codeL F (2 * k)) (2 * k) W hcl (by omega) (codeL_byte _ hFb) hu
    rw [show rcTn (codeL F (2 * k)) (2 * k) = (cameN (fun i => !bd i) (2 * k)).map (teleF (phs xs) fs) by rw [HF.out]; exact rcT_code _ _ _ _ _ htk HK16.out HD255.out, show rcBn (codeL F (2 * k)) (2 * k) = badN bd (2 * k) by rw [HF.out]; exact rcB_code _ _ _ _ _ htk HK16.out HD255.out] at this
    exact this)
  have hsnt : RowsE wr u9 ((List.range k).map (phs xs)) := RowsE.of_own hbag.oS
  have hbadI : Ints wr u11 (badN bd (2 * k)) := Ints.of_own hbag.oN rfl
  have hB9 : Below w.heap.size w wr := hB.trans (hbel.mono hB.size)
  have hT9 := hT.carry hbel
  have hcl9 : (codeL F (2 * k)).length ≤ 100000 := by rw [hcl]; omega
  have HCL9 := Lib.hid hcl9
  have HBYT := Lib.hid hbyt
  have hlens := came_bad_len bd (2 * k)
  have hbadl := badN_le bd (2 * k)
  obtain ⟨cm, hcm⟩ : ∃ cm, cm = cameN (fun i => !bd i) (2 * k) := ⟨_, rfl⟩
  obtain ⟨bL, hbL⟩ : ∃ bL, bL = badN bd (2 * k) := ⟨_, rfl⟩
  rw [← hcm, ← hbL] at TR hlens
  rw [← hbL] at hbadI hbadl
  have HCM := Lib.hid hcm
  have HBL := Lib.hid hbL
  have HLN := Lib.hid hlens
  have HBDL := Lib.hid hbadl
  have hN2 : (0 : Int) ≤ 2 * (k : Int) ∧ 2 * (k : Int) ≤ 16 := by omega
  clear hbag hbel hB hT i1 hbyt hFn hFb htk hcl hcl9 hlens hbadl hcm hbL
  go_upto_region 25 with (at_builtin; refine wpList_cloneB rfl _ _ rfl _ _ rfl _ _ rfl (HBYT.out.carry (below_new _ _)) HCL9.out ?_; intro u130 w4 hu130 hb4; have hb49 := bthen (below_new _ _) hb4)
  refine (TR.out u130 w4 hu130).mono ?_
  rintro e w5 ⟨⟨u1, u2, H, rfl, h1, h2⟩, hb5⟩
  have hTg : Tgs w5 u1 (cm.map (teleF (phs xs) fs)) := Tgs.of_own h1
  have hBi : Ints w5 u2 bL := Ints.of_own h2 rfl
  have hb59 := bthen hb49 hb5
  replace hbadI : Ints w5 u11 bL := Ints.below hbadI hb59
  replace hsnt := hsnt.carry hb59
  replace hB9 := bthen hB9 hb59
  replace hT9 := hT9.carry hb59
  have TS := Lib.hid (fun (W : World) (h1 : Ints W u2 bL) (h2 : Ints W u11 bL) => SameInts_any u2 u11 bL bL W h1 h2 (by have := HBDL.out; omega))
  rw [show decide (bL = bL) = true by simp] at TS
  have THI := Lib.hid (fun (W : World) (n : Int) (h : Ints W u11 bL) => HasInt_any u11 bL n W (by have := HBDL.out; omega) h)
  have HTG := Lib.hid hTg
  have HSN := Lib.hid hsnt
  have HBI := Lib.hid hbadI
  obtain ⟨a1, c1, rfl, _, _⟩ := hTg
  obtain ⟨ab, cb, rfl, _, _⟩ := hbadI
  obtain ⟨asn, csn, rfl, _⟩ := hsnt
  have hsum := HLN.out
  rw [show ((List.range k).map (phs xs)).length = k by simp] at HSN ⊢
  rw [List.length_map] at HTG ⊢
  obtain ⟨NC, hNC⟩ : ∃ N, N = cm.length := ⟨_, rfl⟩
  obtain ⟨NB, hNB⟩ : ∃ N, N = bL.length := ⟨_, rfl⟩
  rw [← hNC, ← hNB] at hsum
  rw [← hNC] at HTG ⊢
  rw [← hNB] at HBI TS THI ⊢
  have hsum2 : ((NC : Int) + (NB : Int) != 2 * (k : Int)) = false := by rw [bne_eq_false_iff_eq]; omega
  have HNC := Lib.hid hNC
  have HNB := Lib.hid hNB
  have hNC16 : NC ≤ 16 := by omega
  have hNB16 : NB ≤ 16 := by omega
  clear hNC hNB hsum h1 h2 hb5 hb59 hb49 hu130 hb4
  go_wp2_with fail
  refine (TS.out w5 hBi HBI.out).mono ?_
  rintro e w6 ⟨rfl, hb6⟩
  have hB6 := bthen hB9 hb6
  replace hT9 := hT9.carry hb6
  have hbd6 := Ints.below HBI.out hb6
  have htg6 := HTG.out.carry hb6
  have hsn6 := HSN.out.carry hb6
  clear hBi hB9 hb6 HBI HTG HSN
  have HBI := Lib.hid hbd6
  have HTG := Lib.hid htg6
  have HSN := Lib.hid hsn6
  clear hbd6 htg6 hsn6
  obtain ⟨i0, hi, hz0, hz1, hz2⟩ := info_parts Tryd.infoI3
  go_wp2_with fail
  go_loopw [23, 157] (fun u23 i wx => ∃ j : Nat, j ≤ 2 * k ∧ i = .int .i64 j ∧ wx.ownsRow w6.heap.size 3 1 u23 (cameN (fun i => !bd i) j).length ((cameN (fun i => !bd i) j).map fun (i : Nat) => Value.int .i64 (i : Int)) ∧ Below w6.heap.size w6 wx) (fun _ i _ => 2 * k - (intOf i).toNat)
  case atStart => exact ⟨0, by omega, rfl, World.ownsRow_nil _ _ _ _, Below.refl _ _⟩
  case round =>
    obtain ⟨j, hj, rfl, hown, hbel⟩ := hrel
    by_cases hlt : j < 2 * k
    · have hH := hasI_badN bd (2 * k) j hlt
      have TH := Lib.hid (THI.out wr (j : Int) (Ints.below HBI.out hbel))
      rw [HBL.out, hH] at TH
      have hcs := came_succ (fun i => !bd i) j
      have hdj : (j : Int) < 2 * (k : Int) := by omega
      cases hbj : bd j with
      | true =>
        rw [hbj] at TH hcs
        have HCS := Lib.hid hcs
        clear hcs hH hbj
        go_wp2_with fail
        refine TH.out.mono ?_
        rintro e w7 ⟨rfl, rfl⟩
        go_wp2_with fail
        go_roundw
        case rel => exact ⟨j + 1, by omega, by go_num, by rw [HCS.out, if_neg (by decide)]; exact hown, hbel⟩
        case measure => simp [intOf]; omega
      | false =>
        rw [hbj] at TH hcs
        have HCS := Lib.hid hcs
        have hcl : (cameN (fun i => !bd i) j).length ≤ j := by have := came_bad_len bd j; omega
        have hhs := hbel.size
        obtain ⟨NJ, hNJ⟩ : ∃ N, N = (cameN (fun i => !bd i) j).length := ⟨_, rfl⟩
        rw [← hNJ] at hown hcl
        have HNJ := Lib.hid hNJ
        clear hcs hH hbj hNJ
        go_wp2_with fail
        refine TH.out.mono ?_
        rintro e w7 ⟨rfl, rfl⟩
        obtain ⟨ga, gc, rfl⟩ := own_slice hown
        go_wp2_with (at_builtin; refine wpList_append_own _ rfl (.tmp 164) (.tmp 166) 29 rfl w6.heap.size 3 i0 _ 1 8 Tryd.underlying29 hi hz0 hz1 hz2 rfl (by decide) (.slice ga NJ gc) NJ _ rfl (own_below hown (below_new _ _)) ⟨wr.heap.size, 0, none⟩ 1 1 [.int .i64 (j : Int)] rfl rfl (cell_one_new _ _ _) (by simp [Value.oneCell']) (by unfold maxLen; omega) (by omega) (by simp; omega) ?_; intro v7 w8 hown' hgrow _)
        have hbel8 : Below w6.heap.size w6 w8 := (bthen hbel (below_new wr (.cells #[.int .i64 (j : Int)] 3))).trans (below_grow (own_below hown (below_new _ _)) (by simp; omega) hgrow)
        have hown8 : w8.ownsRow w6.heap.size 3 1 v7 (cameN (fun i => !bd i) (j + 1)).length ((cameN (fun i => !bd i) (j + 1)).map fun (i : Nat) => Value.int .i64 (i : Int)) := by
          rw [HCS.out, if_pos (show (!false) = true from rfl), List.length_append, List.map_append, ← HNJ.out]; exact hown'
        clear hown hown' hgrow hbel
        go_wp2_with fail
        go_roundw
        case rel => exact ⟨j + 1, by omega, by go_num, hown8, hbel8⟩
        case measure => simp [intOf]; omega
    · have hje : j = 2 * k := by omega
      rw [hje] at hown
      have hdj : ¬ (j : Int) < 2 * (k : Int) := by omega
      clear hlt hj hje
      have hcI : Ints wr u23 (cm.map fun (i : Nat) => (i : Int)) := by
        rw [HCM.out]
        exact Ints.of_own (n := (cameN (fun i => !bd i) (2 * k)).length) (by rw [List.map_map]; exact hown) (by simp)
      have hB7 := hB6.trans (hbel.mono hB6.size)
      have hT7 := hT9.carry hbel
      have hbi7 := Ints.below HBI.out hbel
      have htg7 := HTG.out.carry hbel
      have hsn7 := HSN.out.carry hbel
      clear hown hbel hB6 hT9 HBI HTG HSN
      have HBI := Lib.hid hbi7
      have HTG := Lib.hid htg7
      have HSN := Lib.hid hsn7
      have HCI := Lib.hid hcI
      obtain ⟨Lb, hLb⟩ : ∃ Lb, Lb = (List.range (2 * k)).filter bd := ⟨_, rfl⟩
      have hbm : bL = Lb.map fun (i : Nat) => (i : Int) := by rw [HBL.out, hLb]; rfl
      have hLbl : Lb.length = NB := by rw [HNB.out, hbm, List.length_map]
      have hLbm : ∀ j b, Lb[j]? = some b → b < 2 * k := fun j b h => by
        have := List.mem_of_getElem? h
        rw [hLb, List.mem_filter, List.mem_range] at this
        exact this.1
      have HLB := Lib.hid hLb
      have HBM := Lib.hid hbm
      have HLBL := Lib.hid hLbl
      have HLBM := Lib.hid hLbm
      obtain ⟨ac, cc2, rfl, _, _⟩ := hcI
      rw [List.length_map, ← HNC.out] at HCI ⊢
      clear hbi7 htg7 hsn7 hLb hbm hLbl hLbm
      obtain ⟨W7, hW7⟩ : ∃ W, W = wr := ⟨_, rfl⟩
      rw [← hW7] at HCI HBI HTG HSN hB7 hT7 ⊢
      clear hW7
      go_wp2_with fail
      clear hdj
      go_loopw [12, 171] (fun u12 i wx => ∃ j : Nat, j ≤ NB ∧ i = .int .i64 j ∧ wx.ownsRow W7.heap.size 3 1 u12 (lostN cm (Lb.take j)).length ((lostN cm (Lb.take j)).map fun (i : Nat) => Value.int .i64 ((2 * fs + (i : Int)) % 65536)) ∧ Below W7.heap.size W7 wx) (fun _ i _ => NB - (intOf i).toNat)
      case atStart => exact ⟨0, by omega, rfl, World.ownsRow_nil _ _ _ _, Below.refl _ _⟩
      case round =>
        obtain ⟨j, hj, rfl, hown, hbel⟩ := hrel
        by_cases hlt : j < NB
        · obtain ⟨b, hb⟩ : ∃ b, Lb[j]? = some b := ⟨_, List.getElem?_eq_getElem (by rw [HLBL.out]; exact hlt)⟩
          have hbN := HLBM.out j b hb
          have hsn : lostN cm (Lb.take (j + 1)) = lostN cm (Lb.take j) ++ (if midB cm b = true then [b] else []) := by
            rw [List.take_add_one, hb]
            exact lostN_snoc _ _ _
          have HSNC := Lib.hid hsn
          have hbi := Ints.below HBI.out hbel
          obtain ⟨_, _, he, _, hcb0⟩ := hbi
          simp only [Value.slice.injEq] at he
          obtain ⟨rfl, -, rfl⟩ := he
          obtain ⟨bb, ob, rfl, hcb⟩ := hcb0 (by rw [← HNB.out]; omega)
          have c0 := hcb j (by rw [← HNB.out]; exact hlt)
          have hbv : bL[j]?.getD 0 = (b : Int) := by rw [HBM.out, List.getElem?_map, hb]; rfl
          obtain ⟨bi, hbi2⟩ : ∃ bi : Int, bi = (b : Int) := ⟨_, rfl⟩
          rw [hbv, ← hbi2] at c0
          have hbi9 : 0 ≤ bi ∧ bi ≤ 16 := by omega
          have HBI2 := Lib.hid hbi2
          have hdj : (j : Int) < (NB : Int) := by omega
          have hLl := lostN_le cm (Lb.take j)
          rw [List.length_take] at hLl
          have hLl2 : (lostN cm (Lb.take j)).length ≤ 16 := by omega
          obtain ⟨NL, hNL⟩ : ∃ N, N = (lostN cm (Lb.take j)).length := ⟨_, rfl⟩
          rw [← hNL] at hown hLl2
          have HNL := Lib.hid hNL
          have hhs := hbel.size
          have hci := Ints.below HCI.out hbel
          obtain ⟨_, _, he, _, hcc⟩ := hci
          simp only [Value.slice.injEq] at he
          obtain ⟨rfl, -, rfl⟩ := he
          have hcl : (cm.map fun (i : Nat) => (i : Int)).length = NC := by rw [List.length_map, HNC.out]
          rw [hcl] at hcc
          have HCC := Lib.hid hcc
          obtain ⟨ga, gc, rfl⟩ := own_slice hown
          clear hbi2 hb hsn hcb hcb0 hbv hLl hNL hcl hcc hlt
          rcases Nat.eq_zero_or_pos NC with h0 | h0
          · have hmid : midB cm b = false := by
              have : cm = [] := List.length_eq_zero_iff.1 (by rw [← HNC.out]; exact h0)
              rw [this]; rfl
            have HMID := Lib.hid hmid
            have hNC0 : decide ((0 : Int) < (NC : Int)) = false := by simp; omega
            clear hmid HCC
            go_wp2_with fail
            go_roundw
            case rel => exact ⟨j + 1, by omega, by go_num, by rw [HSNC.out, HMID.out, if_neg (by decide), List.append_nil, ← HNL.out]; exact hown, hbel⟩
            case measure => simp [intOf]; omega
          · obtain ⟨x, hx⟩ : ∃ x, cm.head? = some x := by
              cases hc : cm with
              | nil => rw [HNC.out, hc] at h0; simp at h0
              | cons a l => exact ⟨a, rfl⟩
            obtain ⟨y, hy⟩ : ∃ y, cm.getLast? = some y := ⟨_, List.getLast?_eq_some_getLast (by rintro rfl; cases hx)⟩
            have hmid : midB cm b = decide (x < b ∧ b < y) := by unfold midB; rw [hx, hy]
            obtain ⟨bc, oc, rfl, hcc⟩ := HCC.out h0
            have x0 := hcc 0 h0
            have y0 := hcc (NC - 1) (by omega)
            have hxv : (cm.map fun (i : Nat) => (i : Int))[0]?.getD 0 = (x : Int) := by
              rw [List.getElem?_map, ← List.head?_eq_getElem?, hx]; rfl
            have hyv : (cm.map fun (i : Nat) => (i : Int))[NC - 1]?.getD 0 = (y : Int) := by
              rw [List.getElem?_map, HNC.out, ← List.getLast?_eq_getElem?, hy]; rfl
            obtain ⟨xi, hxi⟩ : ∃ xi : Int, xi = (x : Int) := ⟨_, rfl⟩
            obtain ⟨yi, hyi⟩ : ∃ yi : Int, yi = (y : Int) := ⟨_, rfl⟩
            rw [hxv, Nat.add_zero, ← hxi] at x0
            rw [hyv, ← hyi] at y0
            have HXI := Lib.hid hxi
            have HYI := Lib.hid hyi
            have e1 : IntKind.i64.wrap ((NC : Int) - 1) = (NC : Int) - 1 := IntWalk.i64_in _ (by omega)
            have e2 : (1 : Int) ≤ (NC : Int) := by omega
            have e3 : ((NC : Int) - 1).toNat = NC - 1 := by omega
            have e4 : (NC : Int) - 1 < (NC : Int) := by omega
            have e5 : decide ((0 : Int) < (NC : Int)) = true := by simp; omega
            have HMID := Lib.hid hmid
            clear hxi hyi hx hy hmid hxv hyv hcc HCC
            by_cases g1 : xi < bi
            · have g1' : x < b := by have := HXI.out; have := HBI2.out; omega
              by_cases g2 : bi < yi
              · have g2' : b < y := by have := HYI.out; have := HBI2.out; omega
                have hm2 : midB cm b = true := by rw [HMID.out]; simp [g1', g2']
                have HM2 := Lib.hid hm2
                have q1 : IntKind.i64.wrap (2 * fs) = 2 * fs := IntWalk.i64_in _ (by omega)
                have q2 : IntKind.i64.wrap (2 * fs + bi) = 2 * fs + bi := IntWalk.i64_in _ (by omega)
                obtain ⟨X, hX⟩ : ∃ X, X = (2 * fs + bi) % 65536 := ⟨_, rfl⟩
                have q3 : (2 * fs + bi).tmod 65536 = X := by rw [hX]; exact Int.tmod_eq_emod_of_nonneg (by omega)
                have q4 := hX.symm
                have HX := Lib.hid hX
                clear hX g1' g2' hm2
                go_wp2_with (at_builtin; refine wpList_append_own _ rfl (.tmp 195) (.tmp 202) 29 rfl W7.heap.size 3 i0 _ 1 8 Tryd.underlying29 hi hz0 hz1 hz2 rfl (by decide) (.slice ga NL gc) NL _ rfl (own_below hown (below_new _ _)) ⟨wr.heap.size, 0, none⟩ 1 1 [.int .i64 X] rfl rfl (cell_one_new _ _ _) (by simp [Value.oneCell']) (by unfold maxLen; omega) (by omega) (by simp; omega) ?_; intro v7 w8 hown' hgrow _)
                have hbel8 : Below W7.heap.size W7 w8 := (bthen hbel (below_new wr (.cells #[.int .i64 X] 3))).trans (below_grow (own_below hown (below_new _ _)) (by simp; omega) hgrow)
                have hown8 : w8.ownsRow W7.heap.size 3 1 v7 (lostN cm (Lb.take (j + 1))).length ((lostN cm (Lb.take (j + 1))).map fun (i : Nat) => Value.int .i64 ((2 * fs + (i : Int)) % 65536)) := by
                  rw [HSNC.out, HM2.out, if_pos (show true = true from rfl), List.length_append, List.map_append, ← HNL.out, List.map_cons, List.map_nil, ← HBI2.out, ← HX.out]; exact hown'
                clear hown hown' hgrow hbel
                go_wp2_with fail
                go_roundw
                case rel => exact ⟨j + 1, by omega, by go_num, hown8, hbel8⟩
                case measure => simp [intOf]; omega
              · have g2' : ¬ b < y := by have := HYI.out; have := HBI2.out; omega
                have g2w : decide (bi < yi) = false := by simp; omega
                have hm2 : midB cm b = false := by rw [HMID.out]; simp; intro _; omega
                have HM2 := Lib.hid hm2
                clear g2 g1' g2' hm2
                go_wp2_with fail
                go_roundw
                case rel => exact ⟨j + 1, by omega, by go_num, by rw [HSNC.out, HM2.out, if_neg (by decide), List.append_nil, ← HNL.out]; exact hown, hbel⟩
                case measure => simp [intOf]; omega
            · have g1' : ¬ x < b := by have := HXI.out; have := HBI2.out; omega
              have g1w : decide (xi < bi) = false := by simp; omega
              have hm2 : midB cm b = false := by rw [HMID.out]; simp; intro h; omega
              have HM2 := Lib.hid hm2
              clear g1 g1' hm2
              go_wp2_with fail
              go_roundw
              case rel => exact ⟨j + 1, by omega, by go_num, by rw [HSNC.out, HM2.out, if_neg (by decide), List.append_nil, ← HNL.out]; exact hown, hbel⟩
              case measure => simp [intOf]; omega
        · obtain rfl : j = NB := by omega
          have hlI : Ints wr u12 ((lostN cm Lb).map fun (i : Nat) => (2 * fs + (i : Int)) % 65536) := by
            rw [List.take_of_length_le (by rw [HLBL.out]; exact Nat.le_refl _)] at hown
            exact Ints.of_own (n := (lostN cm Lb).length) (by rw [List.map_map]; exact hown) (by simp)
          have hB8 := hB7.trans (hbel.mono hB7.size)
          have hT8 := hT7.carry hbel
          have hci8 := Ints.below HCI.out hbel
          have hbi8 := Ints.below HBI.out hbel
          have htg8 := HTG.out.carry hbel
          have hsn8 := HSN.out.carry hbel
          have hLL : (lostN cm Lb).length ≤ 16 := by
            have := lostN_le cm Lb
            rw [HLBL.out] at this
            omega
          obtain ⟨LL, hLLe⟩ : ∃ LL, LL = (lostN cm Lb).map fun (i : Nat) => (2 * fs + (i : Int)) % 65536 := ⟨_, rfl⟩
          have hLLl : LL.length ≤ 1000 := by rw [hLLe, List.length_map]; omega
          rw [← hLLe] at hlI
          have hlenT : (cm.map (teleF (phs xs) fs)).length = NC := by rw [List.length_map, HNC.out]
          have TLo := Lib.hid (lostLaw (s := phs xs) (fun k => phE_sml _) fs bd (2 * k) (by omega) (cm.map (teleF (phs xs) fs)) (by rw [HCM.out]) LL (by rw [hLLe, HCM.out, HLB.out]) NC hlenT)
          have TSL := Lib.hid (fun (u : Value) (W : World) (h1 : Ints W u LL) (h2 : Ints W u12 LL) => SameInts_any u u12 LL LL W h1 h2 (by omega))
          rw [show decide (LL = LL) = true by simp] at TSL
          have HTG8 := Lib.hid htg8
          have HSN8 := Lib.hid hsn8
          have HBI8 := Lib.hid hbi8
          have HCI8 := Lib.hid hci8
          have HLI := Lib.hid hlI
          have HLT := Lib.hid hlenT
          clear hown hbel hB7 hT7 HCI HBI HTG HSN hci8 hbi8 htg8 hsn8 hLL hLLe hLLl hlI hlenT hj hlt
          obtain ⟨W8, hW8⟩ : ∃ W, W = wr := ⟨_, rfl⟩
          rw [← hW8] at HCI8 HBI8 HTG8 HSN8 HLI hB8 hT8 ⊢
          clear hW8
          go_upto_region 41 with (at_builtin; refine wpList_cloneT rfl _ _ rfl _ rfl _ _ rfl (HTG8.out.carry (below_new _ _)) (by rw [HLT.out]; omega) ?_; intro ad208 cp208 w9 hu208 hb9; have hb99 := bthen (below_new _ _) hb9; rw [HLT.out] at hu208 ⊢)
          refine (TLo.out ad208 cp208 w9 hu208).mono ?_
          rintro e w10 ⟨⟨u27, rfl, h27⟩, hb10⟩
          have hb11 := bthen hb99 hb10
          clear hb9 hu208 hb10 hb99
          go_wp2_with fail
          refine (TSL.out u27 w10 h27 (Ints.below HLI.out hb11)).mono ?_
          rintro e w11 ⟨rfl, hb12⟩
          have hb13 := bthen hb11 hb12
          have hB9 := bthen hB8 hb13
          have hT9 := hT8.carry hb13
          have hci9 := Ints.below HCI8.out hb13
          have hbi9 := Ints.below HBI8.out hb13
          have htg9 := HTG8.out.carry hb13
          have hsn9 := HSN8.out.carry hb13
          clear hb11 hb12 hb13 h27 hT8 hB8 HCI8 HBI8 HTG8 HSN8
          have HTG := Lib.hid htg9
          have HSN := Lib.hid hsn9
          have HBI := Lib.hid hbi9
          have HCI := Lib.hid hci9
          clear hci9 hbi9 htg9 hsn9
          go_wp2_with fail
          go_loopw [222] (fun i wx => ∃ r : Nat, r ≤ NC ∧ i = .int .i64 r ∧ Below w11.heap.size w11 wx) (fun i _ => NC - (intOf i).toNat)
          case atStart => exact ⟨0, by omega, rfl, Below.refl _ _⟩
          case round =>
            obtain ⟨r, hr, rfl, hbel⟩ := hrel
            by_cases hlt : r < NC
            · as_aux_lemma =>
                obtain ⟨i, hi0⟩ : ∃ i, cm[r]? = some i := ⟨_, List.getElem?_eq_getElem (by rw [← HNC.out]; exact hlt)⟩
                have him : i < 2 * k := by
                  have := List.mem_of_getElem? hi0
                  rw [HCM.out] at this
                  exact (came_mem.1 this).1
                obtain ⟨ii, hii⟩ : ∃ ii : Int, ii = (i : Int) := ⟨_, rfl⟩
                have hci := Ints.below HCI.out hbel
                obtain ⟨_, _, he, _, hcc0⟩ := hci
                simp only [Value.slice.injEq] at he
                obtain ⟨rfl, -, rfl⟩ := he
                obtain ⟨bc, oc, rfl, hcc⟩ := hcc0 (by rw [List.length_map, ← HNC.out]; omega)
                have c0 := hcc r (by rw [List.length_map, ← HNC.out]; exact hlt)
                rw [show (cm.map fun (i : Nat) => (i : Int))[r]?.getD 0 = ii by rw [List.getElem?_map, hi0, hii]; rfl] at c0
                have hdr : (r : Int) < (NC : Int) := by omega
                have hii9 : 0 ≤ ii ∧ ii ≤ 16 := by omega
                have hwi : IntKind.i64.wrap (ii + 1) = ii + 1 := IntWalk.i64_in _ (by omega)
                have HI0 := Lib.hid hi0
                have HII := Lib.hid hii
                by_cases hodd : i % 2 = 1
                · have o1 : ii.tmod 2 = 1 := by rw [Int.tmod_eq_emod_of_nonneg hii9.1, hii]; omega
                  have o2 : ii % 2 = 1 := by rw [hii]; omega
                  clear hcc0 hcc hi0 hii him hodd
                  go_wp2_with fail
                  go_roundw
                  case rel => exact ⟨r + 1, by omega, by go_num, hbel⟩
                  case measure => simp [intOf]; omega
                · have o1 : ii.tmod 2 = 0 := by rw [Int.tmod_eq_emod_of_nonneg hii9.1, hii]; omega
                  have o2 : ii % 2 = 0 := by rw [hii]; omega
                  have hi1 : i + 1 < 2 * k := by omega
                  have TH := Lib.hid (THI.out wr (ii + 1) (Ints.below HBI.out hbel))
                  rw [HBL.out, show ii + 1 = ((i + 1 : Nat) : Int) by rw [hii]; omega, hasI_badN bd (2 * k) (i + 1) hi1, show ((i + 1 : Nat) : Int) = ii + 1 by rw [hii]; omega] at TH
                  cases hb1 : bd (i + 1) with
                  | true =>
                    rw [hb1] at TH
                    clear hcc0 hcc hi0 hii him hodd hb1 hi1
                    go_wp2_with fail
                    refine TH.out.mono ?_
                    rintro e w12 ⟨rfl, rfl⟩
                    go_wp2_with fail
                    go_roundw
                    case rel => exact ⟨r + 1, by omega, by go_num, hbel⟩
                    case measure => simp [intOf]; omega
                  | false =>
                    rw [hb1] at TH
                    have hnx : cm[r + 1]? = some (i + 1) := by
                      rw [HCM.out] at hi0 ⊢
                      exact came_next _ hi0 hi1 (by rw [hb1]; rfl)
                    have hr1 : r + 1 < NC := by
                      have := (List.getElem?_eq_some_iff.1 hnx).1
                      rw [← HNC.out] at this
                      exact this
                    obtain ⟨ga, gb, hTa, gc, gd, hTb⟩ := tele_even (phs xs) fs i (by omega)
                    obtain ⟨y, hy⟩ : ∃ y, y = phs xs (i / 2) := ⟨_, rfl⟩
                    rw [← hy] at hTa hTb
                    have hys : SmlE 200 y := by
                      rw [hy]
                      obtain ⟨h0, h1, h2, h3, h4, h5⟩ := phE_sml (xs[i / 2]?.getD (0, 0, 0, 0, 0, 0))
                      unfold phs SmlE
                      omega
                    have TC := Lib.hid (fun W hT => Components_ok y W hT (by obtain ⟨h0, h1, h2, h3, h4, h5⟩ := hys; unfold SmlE; omega))
                    have TRe := Lib.hid (fun W hT => Restored_ok y W hT hys)
                    have htg := HTG.out.carry hbel
                    have hla : (cm.map (teleF (phs xs) fs))[r]? = some (ga, gb, y.1, y.2.1, y.2.2.1, y.2.2.2.1) := by rw [List.getElem?_map, hi0, Option.map_some, hTa]
                    have hlb : (cm.map (teleF (phs xs) fs))[r + 1]? = some (gc, gd, y.2.2.2.2.1, y.2.2.2.2.2, 0, 0) := by rw [List.getElem?_map, hnx, Option.map_some, hTb]
                    obtain ⟨_, _, he, _, ht0⟩ := htg
                    simp only [Value.slice.injEq] at he
                    obtain ⟨rfl, -, rfl⟩ := he
                    obtain ⟨bt, ot, rfl, htc⟩ := ht0 (by rw [HLT.out]; omega)
                    obtain ⟨_, _, t2, t3, t4, t5⟩ := htc r _ hla
                    obtain ⟨_, _, s2, s3, s4, s5⟩ := htc (r + 1) _ hlb
                    have hsn := HSN.out.carry hbel
                    have hle : ((List.range k).map (phs xs))[i / 2]? = some y := by
                      rw [List.getElem?_map, List.getElem?_range (by omega), Option.map_some, hy]
                    obtain ⟨_, _, he, hs0⟩ := hsn
                    simp only [Value.slice.injEq] at he
                    obtain ⟨rfl, -, rfl⟩ := he
                    obtain ⟨bs, os, rfl, hsc⟩ := hs0 (by simp; omega)
                    have hsx := hsc (i / 2) y hle
                    obtain ⟨y0, y1, y2, y3, y4, y5⟩ := y
                    simp only at t2 t3 t4 t5 s2 s3 s4 s5 hsx
                    obtain ⟨hh, hhe⟩ : ∃ hh : Nat, hh = i / 2 := ⟨_, rfl⟩
                    rw [← hhe] at hsx
                    have hdiv : ii.tdiv 2 = (hh : Int) := by rw [hii, hhe]; rfl
                    have hhk : (hh : Int) < (k : Int) := by omega
                    have hr1' : (r : Int) + 1 < (NC : Int) := by omega
                    have hr0 : (0 : Int) ≤ (r : Int) + 1 := by omega
                    have hh0 : (0 : Int) ≤ (hh : Int) := by omega
                    have hwh : IntKind.i64.wrap (hh : Int) = (hh : Int) := IntWalk.i64_in _ (by omega)
                    have hwr1 : IntKind.i64.wrap ((r : Int) + 1) = (r : Int) + 1 := IntWalk.i64_in _ (by omega)
                    obtain ⟨X, hX⟩ : ∃ X, X = cmp (y0, y1, y2, y3, y4, y5) := ⟨_, rfl⟩
                    rw [← hX] at TC TRe
                    obtain ⟨x0, x1, x2, x3, x4, x5⟩ := X
                    have HSX := Lib.hid hsx
                    clear hcc0 hcc hi0 hii him hodd hb1 hi1 hnx hTa hTb hy hys hla hlb ht0 htc hle hs0 hsc hhe hr1 hsx hX
                    go_wp2_with fail
                    refine TH.out.mono ?_
                    rintro e w12 ⟨rfl, rfl⟩
                    go_upto_region 49 with fail
                    have t3 : wr.cell? ⟨bt, ot + r * 6 + 2 + 1, none⟩ = some (.int .i64 y1) := t3
                    have t4 : wr.cell? ⟨bt, ot + r * 6 + 2 + 2, none⟩ = some (.int .i64 y2) := t4
                    have t5 : wr.cell? ⟨bt, ot + r * 6 + 2 + 3, none⟩ = some (.int .i64 y3) := t5
                    have s3 : wr.cell? ⟨bt, ot + (r + 1) * 6 + 2 + 1, none⟩ = some (.int .i64 y5) := s3
                    have s4 : wr.cell? ⟨bt, ot + (r + 1) * 6 + 2 + 2, none⟩ = some (.int .i64 0) := s4
                    have s5 : wr.cell? ⟨bt, ot + (r + 1) * 6 + 2 + 3, none⟩ = some (.int .i64 0) := s5
                    go_cut [31, 32] from 241 to 252 (fun v31 v32 wn => ∃ b31 b32 : Nat, v31 = .pointer (some ⟨b31, 0, none⟩) ∧ v32 = .pointer (some ⟨b32, 0, none⟩) ∧ BlkI wn b31 38 [y0, y1, y2, y3] ∧ BlkI wn b32 38 [y4, y5, 0, 0] ∧ Below wr.heap.size wr wn)
                    case first =>
                      refine wp_region_held_drew (S := (fun W => W.cell? ⟨bt, ot + r * 6 + 2, none⟩ = some (.int .i64 y0) ∧ W.cell? ⟨bt, ot + r * 6 + 2 + 1, none⟩ = some (.int .i64 y1) ∧ W.cell? ⟨bt, ot + r * 6 + 2 + 2, none⟩ = some (.int .i64 y2) ∧ W.cell? ⟨bt, ot + r * 6 + 2 + 3, none⟩ = some (.int .i64 y3) ∧ W.cell? ⟨bt, ot + (r + 1) * 6 + 2, none⟩ = some (.int .i64 y4) ∧ W.cell? ⟨bt, ot + (r + 1) * 6 + 2 + 1, none⟩ = some (.int .i64 y5) ∧ W.cell? ⟨bt, ot + (r + 1) * 6 + 2 + 2, none⟩ = some (.int .i64 0) ∧ W.cell? ⟨bt, ot + (r + 1) * 6 + 2 + 3, none⟩ = some (.int .i64 0))) (by kernel_rfl) ⟨cellb t2 (Below.refl _ _).drew, cellb t3 (Below.refl _ _).drew, cellb t4 (Below.refl _ _).drew, cellb t5 (Below.refl _ _).drew, cellb s2 (Below.refl _ _).drew, cellb s3 (Below.refl _ _).drew, cellb s4 (Below.refl _ _).drew, cellb s5 (Below.refl _ _).drew⟩ (fun hHeld0 => ?_)
                      obtain ⟨wzd, hwz⟩ : ∃ v, v = wr.drew := ⟨_, rfl⟩
                      rw [← hwz] at hHeld0 ⊢
                      have hbzd : Below wr.heap.size wr wzd := by rw [hwz]; exact (Below.refl _ _).drew
                      have hlzd : Below wr.heap.size wr wzd := by rw [hwz]; exact (Below.refl _ _).drew
                      clear hwz hlzd
                      refine wpAnyH_take (i := 0) (oi := { dst := some 241, op := Op.move (Operand.tmp 20), type := 47, pos := "top01_wt43d.go:78", after := #[], guard := none }) (v := ?_) rfl (by kernel_rfl) (by kernel_rfl) (by kernel_rfl) (fun _ _ _ h => h) (Or.inl ⟨by rfl, ?_⟩) (by assumption) ?_
                      rotate_left
                      · (intro w hSw; (try dsimp only at hSw); go_simp); (try with_reducible rfl)
                      try simp only [Act.put, List.setIfInBounds_toArray, List.set_cons_zero, List.set_cons_succ]
                      refine wpAnyH_take (i := 1) (oi := { dst := some 242, op := Op.move (Operand.tmp 29), type := 3, pos := "top01_wt43d.go:78", after := #[], guard := none }) (v := ?_) rfl (by kernel_rfl) (by kernel_rfl) (by kernel_rfl) (fun _ _ _ h => h) (Or.inl ⟨by rfl, ?_⟩) (by assumption) ?_
                      rotate_left
                      · (intro w hSw; (try dsimp only at hSw); go_simp); (try with_reducible rfl)
                      try simp only [Act.put, List.setIfInBounds_toArray, List.set_cons_zero, List.set_cons_succ]
                      refine wpAnyH_take (i := 2) (oi := { dst := some 243, op := Op.indexAddr 47 (Operand.tmp 241) (Operand.tmp 242), type := 0, pos := "top01_wt43d.go:78", after := #[{ on := 0, ground := Ground.data }, { on := 1, ground := Ground.data }], guard := none }) (v := ?_) rfl (by kernel_rfl) (by kernel_rfl) (by kernel_rfl) (fun _ _ _ h => h) (Or.inl ⟨by rfl, ?_⟩) (by assumption) ?_
                      rotate_left
                      · (intro w hSw; (try dsimp only at hSw); go_simp); (try with_reducible rfl)
                      try simp only [Act.put, List.setIfInBounds_toArray, List.set_cons_zero, List.set_cons_succ]
                      refine wpAnyH_take (i := 3) (oi := { dst := some 244, op := Op.fieldAddr 40 (Operand.tmp 243) 2, type := 0, pos := "top01_wt43d.go:78", after := #[{ on := 2, ground := Ground.data }], guard := none }) (v := ?_) rfl (by kernel_rfl) (by kernel_rfl) (by kernel_rfl) (fun _ _ _ h => h) (Or.inl ⟨by rfl, ?_⟩) (by assumption) ?_
                      rotate_left
                      · (intro w hSw; (try dsimp only at hSw); go_simp); (try with_reducible rfl)
                      try simp only [Act.put, List.setIfInBounds_toArray, List.set_cons_zero, List.set_cons_succ]
                      refine wpAnyH_take (i := 4) (oi := { dst := some 245, op := Op.load 38 (Operand.tmp 244), type := 38, pos := "top01_wt43d.go:78", after := #[{ on := 3, ground := Ground.data }], guard := none }) (v := ?_) rfl (by kernel_rfl) (by kernel_rfl) (by kernel_rfl) (fun _ _ _ h => h) (Or.inl ⟨by rfl, ?_⟩) (by assumption) ?_
                      rotate_left
                      · (intro w hSw; (try dsimp only at hSw); go_simp); (try with_reducible rfl)
                      try simp only [Act.put, List.setIfInBounds_toArray, List.set_cons_zero, List.set_cons_succ]
                      refine wpAnyH_take (i := 5) (oi := { dst := some 246, op := Op.move (Operand.tmp 20), type := 47, pos := "top01_wt43d.go:78", after := #[{ on := 13, ground := Ground.gcOnly Departure.lateStores }], guard := none }) (v := ?_) rfl (by kernel_rfl) (by kernel_rfl) (by kernel_rfl) (fun _ _ _ h => h) (Or.inl ⟨by rfl, ?_⟩) (by assumption) ?_
                      rotate_left
                      · (intro w hSw; (try dsimp only at hSw); go_simp); (try with_reducible rfl)
                      try simp only [Act.put, List.setIfInBounds_toArray, List.set_cons_zero, List.set_cons_succ]
                      refine wpAnyH_take (i := 6) (oi := { dst := some 247, op := Op.move (Operand.tmp 29), type := 3, pos := "top01_wt43d.go:78", after := #[{ on := 13, ground := Ground.gcOnly Departure.lateStores }], guard := none }) (v := ?_) rfl (by kernel_rfl) (by kernel_rfl) (by kernel_rfl) (fun _ _ _ h => h) (Or.inl ⟨by rfl, ?_⟩) (by assumption) ?_
                      rotate_left
                      · (intro w hSw; (try dsimp only at hSw); go_simp); (try with_reducible rfl)
                      try simp only [Act.put, List.setIfInBounds_toArray, List.set_cons_zero, List.set_cons_succ]
                      refine wpAnyH_take (i := 7) (oi := { dst := some 248, op := Op.binOp BinOp.add 3 (Operand.tmp 247) (Operand.const (Value.int IntKind.i64 1)) 3, type := 3, pos := "top01_wt43d.go:78", after := #[{ on := 6, ground := Ground.data }, { on := 13, ground := Ground.gcOnly Departure.lateStores }], guard := none }) (v := ?_) rfl (by kernel_rfl) (by kernel_rfl) (by kernel_rfl) (fun _ _ _ h => h) (Or.inl ⟨by rfl, ?_⟩) (by assumption) ?_
                      rotate_left
                      · (intro w hSw; (try dsimp only at hSw); go_simp); (try with_reducible rfl)
                      try simp only [Act.put, List.setIfInBounds_toArray, List.set_cons_zero, List.set_cons_succ]
                      refine wpAnyH_take (i := 8) (oi := { dst := some 249, op := Op.indexAddr 47 (Operand.tmp 246) (Operand.tmp 248), type := 0, pos := "top01_wt43d.go:78", after := #[{ on := 5, ground := Ground.data }, { on := 7, ground := Ground.data }, { on := 13, ground := Ground.gcOnly Departure.lateStores }], guard := none }) (v := ?_) rfl (by kernel_rfl) (by kernel_rfl) (by kernel_rfl) (fun _ _ _ h => h) (Or.inl ⟨by rfl, ?_⟩) (by assumption) ?_
                      rotate_left
                      · (intro w hSw; (try dsimp only at hSw); go_simp); (try with_reducible rfl)
                      try simp only [Act.put, List.setIfInBounds_toArray, List.set_cons_zero, List.set_cons_succ]
                      refine wpAnyH_take (i := 9) (oi := { dst := some 250, op := Op.fieldAddr 40 (Operand.tmp 249) 2, type := 0, pos := "top01_wt43d.go:78", after := #[{ on := 8, ground := Ground.data }, { on := 13, ground := Ground.gcOnly Departure.lateStores }], guard := none }) (v := ?_) rfl (by kernel_rfl) (by kernel_rfl) (by kernel_rfl) (fun _ _ _ h => h) (Or.inl ⟨by rfl, ?_⟩) (by assumption) ?_
                      rotate_left
                      · (intro w hSw; (try dsimp only at hSw); go_simp); (try with_reducible rfl)
                      try simp only [Act.put, List.setIfInBounds_toArray, List.set_cons_zero, List.set_cons_succ]
                      refine wpAnyH_take (i := 10) (oi := { dst := some 251, op := Op.load 38 (Operand.tmp 250), type := 38, pos := "top01_wt43d.go:78", after := #[{ on := 9, ground := Ground.data }, { on := 13, ground := Ground.gcOnly Departure.lateStores }], guard := none }) (v := ?_) rfl (by kernel_rfl) (by kernel_rfl) (by kernel_rfl) (fun _ _ _ h => h) (Or.inl ⟨by rfl, ?_⟩) (by assumption) ?_
                      rotate_left
                      · (intro w hSw; (try dsimp only at hSw); go_simp); (try with_reducible rfl)
                      try simp only [Act.put, List.setIfInBounds_toArray, List.set_cons_zero, List.set_cons_succ]
                      refine wpAnyH_ready (rs := [11, 12]) (by kernel_rfl) (by simp) ?_
                      refine (AllReadyH.cons (o := { dst := some 31, op := Op.alloc 38, type := 0, pos := "top01_wt43d.go:78", after := #[], guard := none }) rfl (fun K hK => ?_) (AllReadyH.cons (o := { dst := some 32, op := Op.alloc 38, type := 0, pos := "top01_wt43d.go:78", after := #[], guard := none }) rfl (fun K hK => ?_) AllReadyH.nil))
                      · go_simp
                        obtain ⟨wz11, hwz⟩ : ∃ v, v = wzd.alloc (Obj.cells #[.int .i64 0, .int .i64 0, .int .i64 0, .int .i64 0] 38) := ⟨_, rfl⟩
                        rw [← hwz]
                        have hl : Below wzd.heap.size wzd wz11 := by rw [hwz]; exact below_new _ _
                        have hbz11 := bthen hbzd hl
                        obtain ⟨G11, hG⟩ : ∃ G, G = wzd.heap.size := ⟨_, rfl⟩
                        have i11_ : BlkI wz11 G11 38 [0, 0, 0, 0] := by rw [hwz, hG]; exact Blk.new _ _ _
                        have g11 : wr.heap.size ≤ G11 := by rw [hG]; exact (hbzd).size
                        try (have q1211 : G12 < G11 := by rw [hG]; exact Blk.lt i12_)
                        rw [← hG]
                        clear hG
                        clear hwz
                        clear hl
                        refine hK.out _ _ ⟨cellb t2 hbz11, cellb t3 hbz11, cellb t4 hbz11, cellb t5 hbz11, cellb s2 hbz11, cellb s3 hbz11, cellb s4 hbz11, cellb s5 hbz11⟩ (fun hHeld1 => ?_)
                        clear hK K hHeld0
                        try simp only [Act.put, List.setIfInBounds_toArray, List.set_cons_zero, List.set_cons_succ]
                        refine wpAnyH_ready (rs := [12]) (by kernel_rfl) (by simp) ?_
                        refine (AllReadyH.cons (o := { dst := some 32, op := Op.alloc 38, type := 0, pos := "top01_wt43d.go:78", after := #[], guard := none }) rfl (fun K hK => ?_) AllReadyH.nil)
                        go_simp
                        obtain ⟨wz12, hwz⟩ : ∃ v, v = wz11.alloc (Obj.cells #[.int .i64 0, .int .i64 0, .int .i64 0, .int .i64 0] 38) := ⟨_, rfl⟩
                        rw [← hwz]
                        have hl : Below wz11.heap.size wz11 wz12 := by rw [hwz]; exact below_new _ _
                        have hbz12 := bthen hbz11 hl
                        obtain ⟨G12, hG⟩ : ∃ G, G = wz11.heap.size := ⟨_, rfl⟩
                        have i12_ : BlkI wz12 G12 38 [0, 0, 0, 0] := by rw [hwz, hG]; exact Blk.new _ _ _
                        have g12 : wr.heap.size ≤ G12 := by rw [hG]; exact (hbz11).size
                        try (have q1112 : G11 < G12 := by rw [hG]; exact Blk.lt i11_)
                        rw [← hG]
                        clear hG
                        clear hwz
                        have i11_ := i11_.carry hl
                        clear hl
                        refine hK.out _ _ ⟨cellb t2 hbz12, cellb t3 hbz12, cellb t4 hbz12, cellb t5 hbz12, cellb s2 hbz12, cellb s3 hbz12, cellb s4 hbz12, cellb s5 hbz12⟩ (fun hHeld2 => ?_)
                        clear hK K hHeld1
                        try simp only [Act.put, List.setIfInBounds_toArray, List.set_cons_zero, List.set_cons_succ]
                        refine wpAnyH_ready (rs := [13]) (by kernel_rfl) (by simp) ?_
                        refine (AllReadyH.cons (o := { dst := none, op := Op.store 38 (Operand.tmp 31) (Operand.tmp 245), type := 0, pos := "top01_wt43d.go:78", after := #[{ on := 11, ground := Ground.data }, { on := 4, ground := Ground.data }, { on := 0, ground := Ground.phase }, { on := 1, ground := Ground.phase }, { on := 2, ground := Ground.phase }, { on := 3, ground := Ground.phase }, { on := 4, ground := Ground.phase }, { on := 5, ground := Ground.textOnly Departure.lateStores }, { on := 6, ground := Ground.textOnly Departure.lateStores }, { on := 7, ground := Ground.textOnly Departure.lateStores }, { on := 8, ground := Ground.textOnly Departure.lateStores }, { on := 9, ground := Ground.textOnly Departure.lateStores }, { on := 10, ground := Ground.textOnly Departure.lateStores }, { on := 11, ground := Ground.phase }, { on := 12, ground := Ground.phase }], guard := none }) rfl (fun K hK => ?_) AllReadyH.nil)
                        refine wp_storeA _ _ _ rfl G11 [y0, y1, y2, y3] [0, 0, 0, 0] rfl rfl i11_ rfl Tryd.sizeA4 ?_
                        obtain ⟨wz13, hwz⟩ : ∃ v, v = World.setRow wz12 G11 (ia [y0, y1, y2, y3]) := ⟨_, rfl⟩
                        rw [← hwz]
                        have hbz13 : Below wr.heap.size wr wz13 := by rw [hwz]; exact below_rowA hbz12 g11 _
                        replace i11_ := BlkI.setRowA i11_ [y0, y1, y2, y3]
                        rw [← hwz] at i11_
                        replace i12_ := BlkI.setRowO i12_ (B' := G11) (by omega) (ia [y0, y1, y2, y3])
                        rw [← hwz] at i12_
                        clear hwz
                        refine hK.out _ _ ⟨cellb t2 hbz13, cellb t3 hbz13, cellb t4 hbz13, cellb t5 hbz13, cellb s2 hbz13, cellb s3 hbz13, cellb s4 hbz13, cellb s5 hbz13⟩ (fun hHeld3 => ?_)
                        clear hK K hHeld2
                        try simp only [Act.put, List.setIfInBounds_toArray, List.set_cons_zero, List.set_cons_succ]
                        refine wpAnyH_ready (rs := [14]) (by kernel_rfl) (by simp) ?_
                        refine (AllReadyH.cons (o := { dst := none, op := Op.store 38 (Operand.tmp 32) (Operand.tmp 251), type := 0, pos := "top01_wt43d.go:78", after := #[{ on := 12, ground := Ground.data }, { on := 10, ground := Ground.data }, { on := 13, ground := Ground.chain }, { on := 0, ground := Ground.phase }, { on := 1, ground := Ground.phase }, { on := 2, ground := Ground.phase }, { on := 3, ground := Ground.phase }, { on := 4, ground := Ground.phase }, { on := 5, ground := Ground.phase }, { on := 6, ground := Ground.phase }, { on := 7, ground := Ground.phase }, { on := 8, ground := Ground.phase }, { on := 9, ground := Ground.phase }, { on := 10, ground := Ground.phase }, { on := 11, ground := Ground.phase }, { on := 12, ground := Ground.phase }, { on := 13, ground := Ground.phase }], guard := none }) rfl (fun K hK => ?_) AllReadyH.nil)
                        refine wp_storeA _ _ _ rfl G12 [y4, y5, 0, 0] [0, 0, 0, 0] rfl rfl i12_ rfl Tryd.sizeA4 ?_
                        obtain ⟨wz14, hwz⟩ : ∃ v, v = World.setRow wz13 G12 (ia [y4, y5, 0, 0]) := ⟨_, rfl⟩
                        rw [← hwz]
                        have hbz14 : Below wr.heap.size wr wz14 := by rw [hwz]; exact below_rowA hbz13 g12 _
                        replace i12_ := BlkI.setRowA i12_ [y4, y5, 0, 0]
                        rw [← hwz] at i12_
                        replace i11_ := BlkI.setRowO i11_ (B' := G12) (by omega) (ia [y4, y5, 0, 0])
                        rw [← hwz] at i11_
                        clear hwz
                        refine hK.out _ _ ⟨cellb t2 hbz14, cellb t3 hbz14, cellb t4 hbz14, cellb t5 hbz14, cellb s2 hbz14, cellb s3 hbz14, cellb s4 hbz14, cellb s5 hbz14⟩ (fun hHeld4 => ?_)
                        clear hK K hHeld3
                        try simp only [Act.put, List.setIfInBounds_toArray, List.set_cons_zero, List.set_cons_succ]
                        refine wpAnyH_done (by kernel_rfl) ?_ _
                        clear hHeld4
                        go_wp2_with fail
                        go_meet
                        exact ⟨G11, G12, rfl, rfl, i11_, i12_, hbz14⟩
                      · go_simp
                        obtain ⟨wz12, hwz⟩ : ∃ v, v = wzd.alloc (Obj.cells #[.int .i64 0, .int .i64 0, .int .i64 0, .int .i64 0] 38) := ⟨_, rfl⟩
                        rw [← hwz]
                        have hl : Below wzd.heap.size wzd wz12 := by rw [hwz]; exact below_new _ _
                        have hbz12 := bthen hbzd hl
                        obtain ⟨G12, hG⟩ : ∃ G, G = wzd.heap.size := ⟨_, rfl⟩
                        have i12_ : BlkI wz12 G12 38 [0, 0, 0, 0] := by rw [hwz, hG]; exact Blk.new _ _ _
                        have g12 : wr.heap.size ≤ G12 := by rw [hG]; exact (hbzd).size
                        try (have q1112 : G11 < G12 := by rw [hG]; exact Blk.lt i11_)
                        rw [← hG]
                        clear hG
                        clear hwz
                        clear hl
                        refine hK.out _ _ ⟨cellb t2 hbz12, cellb t3 hbz12, cellb t4 hbz12, cellb t5 hbz12, cellb s2 hbz12, cellb s3 hbz12, cellb s4 hbz12, cellb s5 hbz12⟩ (fun hHeld1 => ?_)
                        clear hK K hHeld0
                        try simp only [Act.put, List.setIfInBounds_toArray, List.set_cons_zero, List.set_cons_succ]
                        refine wpAnyH_ready (rs := [11]) (by kernel_rfl) (by simp) ?_
                        refine (AllReadyH.cons (o := { dst := some 31, op := Op.alloc 38, type := 0, pos := "top01_wt43d.go:78", after := #[], guard := none }) rfl (fun K hK => ?_) AllReadyH.nil)
                        go_simp
                        obtain ⟨wz11, hwz⟩ : ∃ v, v = wz12.alloc (Obj.cells #[.int .i64 0, .int .i64 0, .int .i64 0, .int .i64 0] 38) := ⟨_, rfl⟩
                        rw [← hwz]
                        have hl : Below wz12.heap.size wz12 wz11 := by rw [hwz]; exact below_new _ _
                        have hbz11 := bthen hbz12 hl
                        obtain ⟨G11, hG⟩ : ∃ G, G = wz12.heap.size := ⟨_, rfl⟩
                        have i11_ : BlkI wz11 G11 38 [0, 0, 0, 0] := by rw [hwz, hG]; exact Blk.new _ _ _
                        have g11 : wr.heap.size ≤ G11 := by rw [hG]; exact (hbz12).size
                        try (have q1211 : G12 < G11 := by rw [hG]; exact Blk.lt i12_)
                        rw [← hG]
                        clear hG
                        clear hwz
                        have i12_ := i12_.carry hl
                        clear hl
                        refine hK.out _ _ ⟨cellb t2 hbz11, cellb t3 hbz11, cellb t4 hbz11, cellb t5 hbz11, cellb s2 hbz11, cellb s3 hbz11, cellb s4 hbz11, cellb s5 hbz11⟩ (fun hHeld2 => ?_)
                        clear hK K hHeld1
                        try simp only [Act.put, List.setIfInBounds_toArray, List.set_cons_zero, List.set_cons_succ]
                        refine wpAnyH_ready (rs := [13]) (by kernel_rfl) (by simp) ?_
                        refine (AllReadyH.cons (o := { dst := none, op := Op.store 38 (Operand.tmp 31) (Operand.tmp 245), type := 0, pos := "top01_wt43d.go:78", after := #[{ on := 11, ground := Ground.data }, { on := 4, ground := Ground.data }, { on := 0, ground := Ground.phase }, { on := 1, ground := Ground.phase }, { on := 2, ground := Ground.phase }, { on := 3, ground := Ground.phase }, { on := 4, ground := Ground.phase }, { on := 5, ground := Ground.textOnly Departure.lateStores }, { on := 6, ground := Ground.textOnly Departure.lateStores }, { on := 7, ground := Ground.textOnly Departure.lateStores }, { on := 8, ground := Ground.textOnly Departure.lateStores }, { on := 9, ground := Ground.textOnly Departure.lateStores }, { on := 10, ground := Ground.textOnly Departure.lateStores }, { on := 11, ground := Ground.phase }, { on := 12, ground := Ground.phase }], guard := none }) rfl (fun K hK => ?_) AllReadyH.nil)
                        refine wp_storeA _ _ _ rfl G11 [y0, y1, y2, y3] [0, 0, 0, 0] rfl rfl i11_ rfl Tryd.sizeA4 ?_
                        obtain ⟨wz13, hwz⟩ : ∃ v, v = World.setRow wz11 G11 (ia [y0, y1, y2, y3]) := ⟨_, rfl⟩
                        rw [← hwz]
                        have hbz13 : Below wr.heap.size wr wz13 := by rw [hwz]; exact below_rowA hbz11 g11 _
                        replace i11_ := BlkI.setRowA i11_ [y0, y1, y2, y3]
                        rw [← hwz] at i11_
                        replace i12_ := BlkI.setRowO i12_ (B' := G11) (by omega) (ia [y0, y1, y2, y3])
                        rw [← hwz] at i12_
                        clear hwz
                        refine hK.out _ _ ⟨cellb t2 hbz13, cellb t3 hbz13, cellb t4 hbz13, cellb t5 hbz13, cellb s2 hbz13, cellb s3 hbz13, cellb s4 hbz13, cellb s5 hbz13⟩ (fun hHeld3 => ?_)
                        clear hK K hHeld2
                        try simp only [Act.put, List.setIfInBounds_toArray, List.set_cons_zero, List.set_cons_succ]
                        refine wpAnyH_ready (rs := [14]) (by kernel_rfl) (by simp) ?_
                        refine (AllReadyH.cons (o := { dst := none, op := Op.store 38 (Operand.tmp 32) (Operand.tmp 251), type := 0, pos := "top01_wt43d.go:78", after := #[{ on := 12, ground := Ground.data }, { on := 10, ground := Ground.data }, { on := 13, ground := Ground.chain }, { on := 0, ground := Ground.phase }, { on := 1, ground := Ground.phase }, { on := 2, ground := Ground.phase }, { on := 3, ground := Ground.phase }, { on := 4, ground := Ground.phase }, { on := 5, ground := Ground.phase }, { on := 6, ground := Ground.phase }, { on := 7, ground := Ground.phase }, { on := 8, ground := Ground.phase }, { on := 9, ground := Ground.phase }, { on := 10, ground := Ground.phase }, { on := 11, ground := Ground.phase }, { on := 12, ground := Ground.phase }, { on := 13, ground := Ground.phase }], guard := none }) rfl (fun K hK => ?_) AllReadyH.nil)
                        refine wp_storeA _ _ _ rfl G12 [y4, y5, 0, 0] [0, 0, 0, 0] rfl rfl i12_ rfl Tryd.sizeA4 ?_
                        obtain ⟨wz14, hwz⟩ : ∃ v, v = World.setRow wz13 G12 (ia [y4, y5, 0, 0]) := ⟨_, rfl⟩
                        rw [← hwz]
                        have hbz14 : Below wr.heap.size wr wz14 := by rw [hwz]; exact below_rowA hbz13 g12 _
                        replace i12_ := BlkI.setRowA i12_ [y4, y5, 0, 0]
                        rw [← hwz] at i12_
                        replace i11_ := BlkI.setRowO i11_ (B' := G12) (by omega) (ia [y4, y5, 0, 0])
                        rw [← hwz] at i11_
                        clear hwz
                        refine hK.out _ _ ⟨cellb t2 hbz14, cellb t3 hbz14, cellb t4 hbz14, cellb t5 hbz14, cellb s2 hbz14, cellb s3 hbz14, cellb s4 hbz14, cellb s5 hbz14⟩ (fun hHeld4 => ?_)
                        clear hK K hHeld3
                        try simp only [Act.put, List.setIfInBounds_toArray, List.set_cons_zero, List.set_cons_succ]
                        refine wpAnyH_done (by kernel_rfl) ?_ _
                        clear hHeld4
                        go_wp2_with fail
                        go_meet
                        exact ⟨G11, G12, rfl, rfl, i11_, i12_, hbz14⟩
                    case rest =>
                      obtain ⟨b31, b32, rfl, rfl, j31, j32, hbn⟩ := hcut
                      replace hbel := bthen hbel hbn
                      have hsx := HSX.out
                      obtain ⟨z0, z1, z2, z3, z4, z5⟩ := hsx
                      have z0 := cellb z0 hbn
                      have z1 := cellb z1 hbn
                      have z2 := cellb z2 hbn
                      have z3 := cellb z3 hbn
                      have z4 := cellb z4 hbn
                      have z5 := cellb z5 hbn
                      have HZ := Lib.hid (And.intro z0 (And.intro z1 (And.intro z2 (And.intro z3 (And.intro z4 z5)))))
                      clear t2 t3 t4 t5 s2 s3 s4 s5 hbn z0 z1 z2 z3 z4 z5 HSX
                      have e0 : wc.cell? ⟨b31, 0, none⟩ = some (.int .i64 y0) := BlkI.cell j31 (j := 0) (by simp)
                      have e1 : wc.cell? ⟨b31, 1, none⟩ = some (.int .i64 y1) := BlkI.cell j31 (j := 1) (by simp)
                      have e2 : wc.cell? ⟨b31, 2, none⟩ = some (.int .i64 y2) := BlkI.cell j31 (j := 2) (by simp)
                      have e3 : wc.cell? ⟨b31, 3, none⟩ = some (.int .i64 y3) := BlkI.cell j31 (j := 3) (by simp)
                      have f0 : wc.cell? ⟨b32, 0, none⟩ = some (.int .i64 y4) := BlkI.cell j32 (j := 0) (by simp)
                      have f1 : wc.cell? ⟨b32, 1, none⟩ = some (.int .i64 y5) := BlkI.cell j32 (j := 1) (by simp)
                      clear j31 j32
                      have hTc := hT9.carry hbel
                      go_upto_region 51 with fail
                      obtain ⟨V1, hV1⟩ : ∃ v, v = World.alloc wc (Obj.cells #[.int .i64 y0, .int .i64 y1, .int .i64 y2, .int .i64 y3, .int .i64 y4, .int .i64 y5] 37) := ⟨_, rfl⟩
                      have kV1 : Below wc.heap.size wc V1 := by rw [hV1]; exact below_new _ _
                      have iV1 : Blk V1 (wc.heap.size) 37 [.int .i64 y0, .int .i64 y1, .int .i64 y2, .int .i64 y3, .int .i64 y4, .int .i64 y5] := by rw [hV1]; exact Blk.new _ _ _
                      have sV1 : V1.heap.size = wc.heap.size + 1 := by rw [hV1]; simp
                      rw [← hV1]
                      clear hV1
                      have iP := iV1
                      replace hbel := bthen hbel kV1
                      replace hTc := hTc.carry kV1
                      have HZ := Lib.hid (And.intro (cellb HZ.out.1 kV1) (And.intro (cellb HZ.out.2.1 kV1) (And.intro (cellb HZ.out.2.2.1 kV1) (And.intro (cellb HZ.out.2.2.2.1 kV1) (And.intro (cellb HZ.out.2.2.2.2.1 kV1) (cellb HZ.out.2.2.2.2.2 kV1))))))
                      clear e0 e1 e2 e3 f0 f1 iV1 kV1 sV1
                      have p0 : V1.cell? ⟨wc.heap.size, 0, none⟩ = some (.int .i64 y0) := iP.cell (j := 0) (v := .int .i64 y0) rfl
                      have p1 : V1.cell? ⟨wc.heap.size, 1, none⟩ = some (.int .i64 y1) := iP.cell (j := 1) (v := .int .i64 y1) rfl
                      have p2 : V1.cell? ⟨wc.heap.size, 2, none⟩ = some (.int .i64 y2) := iP.cell (j := 2) (v := .int .i64 y2) rfl
                      have p3 : V1.cell? ⟨wc.heap.size, 3, none⟩ = some (.int .i64 y3) := iP.cell (j := 3) (v := .int .i64 y3) rfl
                      have p4 : V1.cell? ⟨wc.heap.size, 4, none⟩ = some (.int .i64 y4) := iP.cell (j := 4) (v := .int .i64 y4) rfl
                      have p5 : V1.cell? ⟨wc.heap.size, 5, none⟩ = some (.int .i64 y5) := iP.cell (j := 5) (v := .int .i64 y5) rfl
                      go_wp2_with fail
                      refine (TC.out V1 hTc).mono ?_
                      rintro e v2 ⟨he, hb2⟩
                      replace he : e = .returned (.tuple #[.agg #[.int .i64 x0, .int .i64 x1, .int .i64 x2, .int .i64 x3, .int .i64 x4, .int .i64 x5], .int .i64 0]) := he
                      subst he
                      replace hbel := bthen hbel hb2
                      replace hTc := hTc.carry hb2
                      replace iP := Blk.carry iP hb2
                      have HZ := Lib.hid (And.intro (cellb HZ.out.1 hb2) (And.intro (cellb HZ.out.2.1 hb2) (And.intro (cellb HZ.out.2.2.1 hb2) (And.intro (cellb HZ.out.2.2.2.1 hb2) (And.intro (cellb HZ.out.2.2.2.2.1 hb2) (cellb HZ.out.2.2.2.2.2 hb2))))))
                      clear p0 p1 p2 p3 p4 p5 hb2
                      go_upto_region 52 with fail
                      obtain ⟨V3, hV3⟩ : ∃ v, v = World.alloc v2 (Obj.cells #[.int .i64 x0, .int .i64 x1, .int .i64 x2, .int .i64 x3, .int .i64 x4, .int .i64 x5] 36) := ⟨_, rfl⟩
                      have kV3 : Below v2.heap.size v2 V3 := by rw [hV3]; exact below_new _ _
                      have iV3 : Blk V3 (v2.heap.size) 36 [.int .i64 x0, .int .i64 x1, .int .i64 x2, .int .i64 x3, .int .i64 x4, .int .i64 x5] := by rw [hV3]; exact Blk.new _ _ _
                      have sV3 : V3.heap.size = v2.heap.size + 1 := by rw [hV3]; simp
                      rw [← hV3]
                      clear hV3
                      have iC := iV3
                      replace hbel := bthen hbel kV3
                      replace hTc := hTc.carry kV3
                      replace iP := Blk.carry iP kV3
                      have HZ := Lib.hid (And.intro (cellb HZ.out.1 kV3) (And.intro (cellb HZ.out.2.1 kV3) (And.intro (cellb HZ.out.2.2.1 kV3) (And.intro (cellb HZ.out.2.2.2.1 kV3) (And.intro (cellb HZ.out.2.2.2.2.1 kV3) (cellb HZ.out.2.2.2.2.2 kV3))))))
                      clear iV3 kV3 sV3
                      obtain ⟨z0, z1, z2, z3, z4, z5⟩ := HZ.out
                      go_wp2_with fail
                      refine (TC.out V3 hTc).mono ?_
                      rintro e v4 ⟨he, hb4⟩
                      replace he : e = .returned (.tuple #[.agg #[.int .i64 x0, .int .i64 x1, .int .i64 x2, .int .i64 x3, .int .i64 x4, .int .i64 x5], .int .i64 0]) := he
                      subst he
                      replace hbel := bthen hbel hb4
                      replace hTc := hTc.carry hb4
                      replace iP := Blk.carry iP hb4
                      replace iC := Blk.carry iC hb4
                      have HZ := Lib.hid (And.intro (cellb HZ.out.1 hb4) (And.intro (cellb HZ.out.2.1 hb4) (And.intro (cellb HZ.out.2.2.1 hb4) (And.intro (cellb HZ.out.2.2.2.1 hb4) (And.intro (cellb HZ.out.2.2.2.2.1 hb4) (cellb HZ.out.2.2.2.2.2 hb4))))))
                      clear z0 z1 z2 z3 z4 z5 hb4
                      go_upto_region 53 with fail
                      obtain ⟨V5, hV5⟩ : ∃ v, v = World.alloc v4 (Obj.cells #[.int .i64 x0, .int .i64 x1, .int .i64 x2, .int .i64 x3, .int .i64 x4, .int .i64 x5] 36) := ⟨_, rfl⟩
                      have kV5 : Below v4.heap.size v4 V5 := by rw [hV5]; exact below_new _ _
                      have iV5 : Blk V5 (v4.heap.size) 36 [.int .i64 x0, .int .i64 x1, .int .i64 x2, .int .i64 x3, .int .i64 x4, .int .i64 x5] := by rw [hV5]; exact Blk.new _ _ _
                      have sV5 : V5.heap.size = v4.heap.size + 1 := by rw [hV5]; simp
                      rw [← hV5]
                      clear hV5
                      have iD := iV5
                      replace hbel := bthen hbel kV5
                      replace hTc := hTc.carry kV5
                      replace iP := Blk.carry iP kV5
                      replace iC := Blk.carry iC kV5
                      have HZ := Lib.hid (And.intro (cellb HZ.out.1 kV5) (And.intro (cellb HZ.out.2.1 kV5) (And.intro (cellb HZ.out.2.2.1 kV5) (And.intro (cellb HZ.out.2.2.2.1 kV5) (And.intro (cellb HZ.out.2.2.2.2.1 kV5) (cellb HZ.out.2.2.2.2.2 kV5))))))
                      clear iV5 kV5 sV5
                      have c0 : V5.cell? ⟨v2.heap.size, 0, none⟩ = some (.int .i64 x0) := iC.cell (j := 0) (v := .int .i64 x0) rfl
                      have c1 : V5.cell? ⟨v2.heap.size, 1, none⟩ = some (.int .i64 x1) := iC.cell (j := 1) (v := .int .i64 x1) rfl
                      have c2 : V5.cell? ⟨v2.heap.size, 2, none⟩ = some (.int .i64 x2) := iC.cell (j := 2) (v := .int .i64 x2) rfl
                      have c3 : V5.cell? ⟨v2.heap.size, 3, none⟩ = some (.int .i64 x3) := iC.cell (j := 3) (v := .int .i64 x3) rfl
                      have c4 : V5.cell? ⟨v2.heap.size, 4, none⟩ = some (.int .i64 x4) := iC.cell (j := 4) (v := .int .i64 x4) rfl
                      have c5 : V5.cell? ⟨v2.heap.size, 5, none⟩ = some (.int .i64 x5) := iC.cell (j := 5) (v := .int .i64 x5) rfl
                      go_wp2_with fail
                      refine (TRe.out V5 hTc).mono ?_
                      rintro e v6 ⟨he, hb6⟩
                      replace he : e = .returned (.tuple #[.agg #[.int .i64 y0, .int .i64 y1, .int .i64 y2, .int .i64 y3, .int .i64 y4, .int .i64 y5], .int .i64 0]) := he
                      subst he
                      replace hbel := bthen hbel hb6
                      replace hTc := hTc.carry hb6
                      replace iP := Blk.carry iP hb6
                      replace iC := Blk.carry iC hb6
                      replace iD := Blk.carry iD hb6
                      have HZ := Lib.hid (And.intro (cellb HZ.out.1 hb6) (And.intro (cellb HZ.out.2.1 hb6) (And.intro (cellb HZ.out.2.2.1 hb6) (And.intro (cellb HZ.out.2.2.2.1 hb6) (And.intro (cellb HZ.out.2.2.2.2.1 hb6) (cellb HZ.out.2.2.2.2.2 hb6))))))
                      clear c0 c1 c2 c3 c4 c5 hb6
                      go_upto_region 54 with fail
                      obtain ⟨V7, hV7⟩ : ∃ v, v = World.alloc v6 (Obj.cells #[.int .i64 y0, .int .i64 y1, .int .i64 y2, .int .i64 y3, .int .i64 y4, .int .i64 y5] 37) := ⟨_, rfl⟩
                      have kV7 : Below v6.heap.size v6 V7 := by rw [hV7]; exact below_new _ _
                      have iV7 : Blk V7 (v6.heap.size) 37 [.int .i64 y0, .int .i64 y1, .int .i64 y2, .int .i64 y3, .int .i64 y4, .int .i64 y5] := by rw [hV7]; exact Blk.new _ _ _
                      have sV7 : V7.heap.size = v6.heap.size + 1 := by rw [hV7]; simp
                      rw [← hV7]
                      clear hV7
                      have iR := iV7
                      replace hbel := bthen hbel kV7
                      replace hTc := hTc.carry kV7
                      replace iP := Blk.carry iP kV7
                      replace iC := Blk.carry iC kV7
                      replace iD := Blk.carry iD kV7
                      have HZ := Lib.hid (And.intro (cellb HZ.out.1 kV7) (And.intro (cellb HZ.out.2.1 kV7) (And.intro (cellb HZ.out.2.2.1 kV7) (And.intro (cellb HZ.out.2.2.2.1 kV7) (And.intro (cellb HZ.out.2.2.2.2.1 kV7) (cellb HZ.out.2.2.2.2.2 kV7))))))
                      clear iV7 kV7 sV7
                      have p0 : V7.cell? ⟨wc.heap.size, 0, none⟩ = some (.int .i64 y0) := iP.cell (j := 0) (v := .int .i64 y0) rfl
                      have p1 : V7.cell? ⟨wc.heap.size, 1, none⟩ = some (.int .i64 y1) := iP.cell (j := 1) (v := .int .i64 y1) rfl
                      have p2 : V7.cell? ⟨wc.heap.size, 2, none⟩ = some (.int .i64 y2) := iP.cell (j := 2) (v := .int .i64 y2) rfl
                      have p3 : V7.cell? ⟨wc.heap.size, 3, none⟩ = some (.int .i64 y3) := iP.cell (j := 3) (v := .int .i64 y3) rfl
                      have p4 : V7.cell? ⟨wc.heap.size, 4, none⟩ = some (.int .i64 y4) := iP.cell (j := 4) (v := .int .i64 y4) rfl
                      have p5 : V7.cell? ⟨wc.heap.size, 5, none⟩ = some (.int .i64 y5) := iP.cell (j := 5) (v := .int .i64 y5) rfl
                      have c0 : V7.cell? ⟨v2.heap.size, 0, none⟩ = some (.int .i64 x0) := iC.cell (j := 0) (v := .int .i64 x0) rfl
                      have c1 : V7.cell? ⟨v2.heap.size, 1, none⟩ = some (.int .i64 x1) := iC.cell (j := 1) (v := .int .i64 x1) rfl
                      have c2 : V7.cell? ⟨v2.heap.size, 2, none⟩ = some (.int .i64 x2) := iC.cell (j := 2) (v := .int .i64 x2) rfl
                      have c3 : V7.cell? ⟨v2.heap.size, 3, none⟩ = some (.int .i64 x3) := iC.cell (j := 3) (v := .int .i64 x3) rfl
                      have c4 : V7.cell? ⟨v2.heap.size, 4, none⟩ = some (.int .i64 x4) := iC.cell (j := 4) (v := .int .i64 x4) rfl
                      have c5 : V7.cell? ⟨v2.heap.size, 5, none⟩ = some (.int .i64 x5) := iC.cell (j := 5) (v := .int .i64 x5) rfl
                      have d0 : V7.cell? ⟨v4.heap.size, 0, none⟩ = some (.int .i64 x0) := iD.cell (j := 0) (v := .int .i64 x0) rfl
                      have d1 : V7.cell? ⟨v4.heap.size, 1, none⟩ = some (.int .i64 x1) := iD.cell (j := 1) (v := .int .i64 x1) rfl
                      have d2 : V7.cell? ⟨v4.heap.size, 2, none⟩ = some (.int .i64 x2) := iD.cell (j := 2) (v := .int .i64 x2) rfl
                      have d3 : V7.cell? ⟨v4.heap.size, 3, none⟩ = some (.int .i64 x3) := iD.cell (j := 3) (v := .int .i64 x3) rfl
                      have d4 : V7.cell? ⟨v4.heap.size, 4, none⟩ = some (.int .i64 x4) := iD.cell (j := 4) (v := .int .i64 x4) rfl
                      have d5 : V7.cell? ⟨v4.heap.size, 5, none⟩ = some (.int .i64 x5) := iD.cell (j := 5) (v := .int .i64 x5) rfl
                      have r0 : V7.cell? ⟨v6.heap.size, 0, none⟩ = some (.int .i64 y0) := iR.cell (j := 0) (v := .int .i64 y0) rfl
                      have r1 : V7.cell? ⟨v6.heap.size, 1, none⟩ = some (.int .i64 y1) := iR.cell (j := 1) (v := .int .i64 y1) rfl
                      have r2 : V7.cell? ⟨v6.heap.size, 2, none⟩ = some (.int .i64 y2) := iR.cell (j := 2) (v := .int .i64 y2) rfl
                      have r3 : V7.cell? ⟨v6.heap.size, 3, none⟩ = some (.int .i64 y3) := iR.cell (j := 3) (v := .int .i64 y3) rfl
                      have r4 : V7.cell? ⟨v6.heap.size, 4, none⟩ = some (.int .i64 y4) := iR.cell (j := 4) (v := .int .i64 y4) rfl
                      have r5 : V7.cell? ⟨v6.heap.size, 5, none⟩ = some (.int .i64 y5) := iR.cell (j := 5) (v := .int .i64 y5) rfl
                      obtain ⟨z0, z1, z2, z3, z4, z5⟩ := HZ.out
                      have nq1 := fun W => neqE3 37 Tryd.undPh3 y0 y1 y2 y3 y4 y5 W
                      have nq2 := fun W => neqE3 36 Tryd.undE3 x0 x1 x2 x3 x4 x5 W
                      clear iP iC iD iR HZ hTc
                      refine wp_region_E 99 (by kernel_rfl) ?_
                      obtain ⟨wz, hwz⟩ : ∃ v, v = V7.drew := ⟨_, rfl⟩
                      rw [← hwz]
                      have hlz : Below V7.heap.size V7 wz := by rw [hwz]; exact (Below.refl _ _).drew
                      have hbz := bthen hbel hlz
                      have p0 := cellb p0 hlz
                      have p1 := cellb p1 hlz
                      have p2 := cellb p2 hlz
                      have p3 := cellb p3 hlz
                      have p4 := cellb p4 hlz
                      have p5 := cellb p5 hlz
                      have c0 := cellb c0 hlz
                      have c1 := cellb c1 hlz
                      have c2 := cellb c2 hlz
                      have c3 := cellb c3 hlz
                      have c4 := cellb c4 hlz
                      have c5 := cellb c5 hlz
                      have d0 := cellb d0 hlz
                      have d1 := cellb d1 hlz
                      have d2 := cellb d2 hlz
                      have d3 := cellb d3 hlz
                      have d4 := cellb d4 hlz
                      have d5 := cellb d5 hlz
                      have r0 := cellb r0 hlz
                      have r1 := cellb r1 hlz
                      have r2 := cellb r2 hlz
                      have r3 := cellb r3 hlz
                      have r4 := cellb r4 hlz
                      have r5 := cellb r5 hlz
                      have z0 := cellb z0 hlz
                      have z1 := cellb z1 hlz
                      have z2 := cellb z2 hlz
                      have z3 := cellb z3 hlz
                      have z4 := cellb z4 hlz
                      have z5 := cellb z5 hlz
                      clear hwz hlz
                      refine wpAnyE_take (i := 0) (oi := { dst := some 287, op := Op.move (Operand.tmp 35), type := 44, pos := "top01_wt43d.go:83", after := #[], guard := none }) (v := ?_) rfl (by kernel_rfl) (by kernel_rfl) (by kernel_rfl) (by kernel_rfl) (fun _ _ _ h => h) (Or.inl ⟨by rfl, ?_⟩) ?_
                      rotate_left
                      · (intro w hE; have p0 := cellb p0 hE; have p1 := cellb p1 hE; have p2 := cellb p2 hE; have p3 := cellb p3 hE; have p4 := cellb p4 hE; have p5 := cellb p5 hE; have c0 := cellb c0 hE; have c1 := cellb c1 hE; have c2 := cellb c2 hE; have c3 := cellb c3 hE; have c4 := cellb c4 hE; have c5 := cellb c5 hE; have d0 := cellb d0 hE; have d1 := cellb d1 hE; have d2 := cellb d2 hE; have d3 := cellb d3 hE; have d4 := cellb d4 hE; have d5 := cellb d5 hE; have r0 := cellb r0 hE; have r1 := cellb r1 hE; have r2 := cellb r2 hE; have r3 := cellb r3 hE; have r4 := cellb r4 hE; have r5 := cellb r5 hE; have z0 := cellb z0 hE; have z1 := cellb z1 hE; have z2 := cellb z2 hE; have z3 := cellb z3 hE; have z4 := cellb z4 hE; have z5 := cellb z5 hE; (try dsimp only); go_simp); (try with_reducible rfl)
                      try simp only [Act.put, List.setIfInBounds_toArray, List.set_cons_zero, List.set_cons_succ]
                      refine wpAnyE_take (i := 1) (oi := { dst := some 288, op := Op.binOp BinOp.neq 44 (Operand.tmp 287) (Operand.const (Value.int IntKind.i64 0)) 44, type := 4, pos := "top01_wt43d.go:83", after := #[{ on := 0, ground := Ground.data }], guard := none }) (v := ?_) rfl (by kernel_rfl) (by kernel_rfl) (by kernel_rfl) (by kernel_rfl) (fun _ _ _ h => h) (Or.inl ⟨by rfl, ?_⟩) ?_
                      rotate_left
                      · (intro w hE; have p0 := cellb p0 hE; have p1 := cellb p1 hE; have p2 := cellb p2 hE; have p3 := cellb p3 hE; have p4 := cellb p4 hE; have p5 := cellb p5 hE; have c0 := cellb c0 hE; have c1 := cellb c1 hE; have c2 := cellb c2 hE; have c3 := cellb c3 hE; have c4 := cellb c4 hE; have c5 := cellb c5 hE; have d0 := cellb d0 hE; have d1 := cellb d1 hE; have d2 := cellb d2 hE; have d3 := cellb d3 hE; have d4 := cellb d4 hE; have d5 := cellb d5 hE; have r0 := cellb r0 hE; have r1 := cellb r1 hE; have r2 := cellb r2 hE; have r3 := cellb r3 hE; have r4 := cellb r4 hE; have r5 := cellb r5 hE; have z0 := cellb z0 hE; have z1 := cellb z1 hE; have z2 := cellb z2 hE; have z3 := cellb z3 hE; have z4 := cellb z4 hE; have z5 := cellb z5 hE; (try dsimp only); go_simp); (try with_reducible rfl)
                      try simp only [Act.put, List.setIfInBounds_toArray, List.set_cons_zero, List.set_cons_succ]
                      refine wpAnyE_take (i := 2) (oi := { dst := some 289, op := Op.move (Operand.tmp 288), type := 4, pos := "top01_wt43d.go:83", after := #[{ on := 1, ground := Ground.data }], guard := none }) (v := ?_) rfl (by kernel_rfl) (by kernel_rfl) (by kernel_rfl) (by kernel_rfl) (fun _ _ _ h => h) (Or.inl ⟨by rfl, ?_⟩) ?_
                      rotate_left
                      · (intro w hE; have p0 := cellb p0 hE; have p1 := cellb p1 hE; have p2 := cellb p2 hE; have p3 := cellb p3 hE; have p4 := cellb p4 hE; have p5 := cellb p5 hE; have c0 := cellb c0 hE; have c1 := cellb c1 hE; have c2 := cellb c2 hE; have c3 := cellb c3 hE; have c4 := cellb c4 hE; have c5 := cellb c5 hE; have d0 := cellb d0 hE; have d1 := cellb d1 hE; have d2 := cellb d2 hE; have d3 := cellb d3 hE; have d4 := cellb d4 hE; have d5 := cellb d5 hE; have r0 := cellb r0 hE; have r1 := cellb r1 hE; have r2 := cellb r2 hE; have r3 := cellb r3 hE; have r4 := cellb r4 hE; have r5 := cellb r5 hE; have z0 := cellb z0 hE; have z1 := cellb z1 hE; have z2 := cellb z2 hE; have z3 := cellb z3 hE; have z4 := cellb z4 hE; have z5 := cellb z5 hE; (try dsimp only); go_simp); (try with_reducible rfl)
                      try simp only [Act.put, List.setIfInBounds_toArray, List.set_cons_zero, List.set_cons_succ]
                      refine wpAnyE_take (i := 3) (oi := { dst := some 290, op := Op.move (Operand.tmp 37), type := 44, pos := "top01_wt43d.go:83", after := #[{ on := 2, ground := Ground.guard }], guard := some (2, false) }) (v := ?_) rfl (by kernel_rfl) (by kernel_rfl) (by kernel_rfl) (by kernel_rfl) (fun _ _ _ h => h) (Or.inl ⟨by rfl, ?_⟩) ?_
                      rotate_left
                      · (intro w hE; have p0 := cellb p0 hE; have p1 := cellb p1 hE; have p2 := cellb p2 hE; have p3 := cellb p3 hE; have p4 := cellb p4 hE; have p5 := cellb p5 hE; have c0 := cellb c0 hE; have c1 := cellb c1 hE; have c2 := cellb c2 hE; have c3 := cellb c3 hE; have c4 := cellb c4 hE; have c5 := cellb c5 hE; have d0 := cellb d0 hE; have d1 := cellb d1 hE; have d2 := cellb d2 hE; have d3 := cellb d3 hE; have d4 := cellb d4 hE; have d5 := cellb d5 hE; have r0 := cellb r0 hE; have r1 := cellb r1 hE; have r2 := cellb r2 hE; have r3 := cellb r3 hE; have r4 := cellb r4 hE; have r5 := cellb r5 hE; have z0 := cellb z0 hE; have z1 := cellb z1 hE; have z2 := cellb z2 hE; have z3 := cellb z3 hE; have z4 := cellb z4 hE; have z5 := cellb z5 hE; (try dsimp only); go_simp); (try with_reducible rfl)
                      try simp only [Act.put, List.setIfInBounds_toArray, List.set_cons_zero, List.set_cons_succ]
                      refine wpAnyE_take (i := 4) (oi := { dst := some 291, op := Op.binOp BinOp.neq 44 (Operand.tmp 290) (Operand.const (Value.int IntKind.i64 0)) 44, type := 4, pos := "top01_wt43d.go:83", after := #[{ on := 3, ground := Ground.data }, { on := 2, ground := Ground.guard }], guard := some (2, false) }) (v := ?_) rfl (by kernel_rfl) (by kernel_rfl) (by kernel_rfl) (by kernel_rfl) (fun _ _ _ h => h) (Or.inl ⟨by rfl, ?_⟩) ?_
                      rotate_left
                      · (intro w hE; have p0 := cellb p0 hE; have p1 := cellb p1 hE; have p2 := cellb p2 hE; have p3 := cellb p3 hE; have p4 := cellb p4 hE; have p5 := cellb p5 hE; have c0 := cellb c0 hE; have c1 := cellb c1 hE; have c2 := cellb c2 hE; have c3 := cellb c3 hE; have c4 := cellb c4 hE; have c5 := cellb c5 hE; have d0 := cellb d0 hE; have d1 := cellb d1 hE; have d2 := cellb d2 hE; have d3 := cellb d3 hE; have d4 := cellb d4 hE; have d5 := cellb d5 hE; have r0 := cellb r0 hE; have r1 := cellb r1 hE; have r2 := cellb r2 hE; have r3 := cellb r3 hE; have r4 := cellb r4 hE; have r5 := cellb r5 hE; have z0 := cellb z0 hE; have z1 := cellb z1 hE; have z2 := cellb z2 hE; have z3 := cellb z3 hE; have z4 := cellb z4 hE; have z5 := cellb z5 hE; (try dsimp only); go_simp); (try with_reducible rfl)
                      try simp only [Act.put, List.setIfInBounds_toArray, List.set_cons_zero, List.set_cons_succ]
                      refine wpAnyE_take (i := 5) (oi := { dst := some 292, op := Op.pick (Operand.tmp 289) (Operand.const (Value.bool true)) (Operand.tmp 291), type := 4, pos := "top01_wt43d.go:83", after := #[{ on := 2, ground := Ground.data }, { on := 4, ground := Ground.data }], guard := none }) (v := ?_) rfl (by kernel_rfl) (by kernel_rfl) (by kernel_rfl) (by kernel_rfl) (fun _ _ _ h => h) (Or.inl ⟨by rfl, ?_⟩) ?_
                      rotate_left
                      · (intro w hE; have p0 := cellb p0 hE; have p1 := cellb p1 hE; have p2 := cellb p2 hE; have p3 := cellb p3 hE; have p4 := cellb p4 hE; have p5 := cellb p5 hE; have c0 := cellb c0 hE; have c1 := cellb c1 hE; have c2 := cellb c2 hE; have c3 := cellb c3 hE; have c4 := cellb c4 hE; have c5 := cellb c5 hE; have d0 := cellb d0 hE; have d1 := cellb d1 hE; have d2 := cellb d2 hE; have d3 := cellb d3 hE; have d4 := cellb d4 hE; have d5 := cellb d5 hE; have r0 := cellb r0 hE; have r1 := cellb r1 hE; have r2 := cellb r2 hE; have r3 := cellb r3 hE; have r4 := cellb r4 hE; have r5 := cellb r5 hE; have z0 := cellb z0 hE; have z1 := cellb z1 hE; have z2 := cellb z2 hE; have z3 := cellb z3 hE; have z4 := cellb z4 hE; have z5 := cellb z5 hE; (try dsimp only); go_simp); (try with_reducible rfl)
                      try simp only [Act.put, List.setIfInBounds_toArray, List.set_cons_zero, List.set_cons_succ]
                      refine wpAnyE_take (i := 6) (oi := { dst := some 293, op := Op.move (Operand.tmp 292), type := 4, pos := "top01_wt43d.go:83", after := #[{ on := 5, ground := Ground.data }, { on := 2, ground := Ground.chain }], guard := none }) (v := ?_) rfl (by kernel_rfl) (by kernel_rfl) (by kernel_rfl) (by kernel_rfl) (fun _ _ _ h => h) (Or.inl ⟨by rfl, ?_⟩) ?_
                      rotate_left
                      · (intro w hE; have p0 := cellb p0 hE; have p1 := cellb p1 hE; have p2 := cellb p2 hE; have p3 := cellb p3 hE; have p4 := cellb p4 hE; have p5 := cellb p5 hE; have c0 := cellb c0 hE; have c1 := cellb c1 hE; have c2 := cellb c2 hE; have c3 := cellb c3 hE; have c4 := cellb c4 hE; have c5 := cellb c5 hE; have d0 := cellb d0 hE; have d1 := cellb d1 hE; have d2 := cellb d2 hE; have d3 := cellb d3 hE; have d4 := cellb d4 hE; have d5 := cellb d5 hE; have r0 := cellb r0 hE; have r1 := cellb r1 hE; have r2 := cellb r2 hE; have r3 := cellb r3 hE; have r4 := cellb r4 hE; have r5 := cellb r5 hE; have z0 := cellb z0 hE; have z1 := cellb z1 hE; have z2 := cellb z2 hE; have z3 := cellb z3 hE; have z4 := cellb z4 hE; have z5 := cellb z5 hE; (try dsimp only); go_simp); (try with_reducible rfl)
                      try simp only [Act.put, List.setIfInBounds_toArray, List.set_cons_zero, List.set_cons_succ]
                      refine wpAnyE_take (i := 7) (oi := { dst := some 294, op := Op.move (Operand.tmp 39), type := 44, pos := "top01_wt43d.go:83", after := #[{ on := 6, ground := Ground.guard }], guard := some (6, false) }) (v := ?_) rfl (by kernel_rfl) (by kernel_rfl) (by kernel_rfl) (by kernel_rfl) (fun _ _ _ h => h) (Or.inl ⟨by rfl, ?_⟩) ?_
                      rotate_left
                      · (intro w hE; have p0 := cellb p0 hE; have p1 := cellb p1 hE; have p2 := cellb p2 hE; have p3 := cellb p3 hE; have p4 := cellb p4 hE; have p5 := cellb p5 hE; have c0 := cellb c0 hE; have c1 := cellb c1 hE; have c2 := cellb c2 hE; have c3 := cellb c3 hE; have c4 := cellb c4 hE; have c5 := cellb c5 hE; have d0 := cellb d0 hE; have d1 := cellb d1 hE; have d2 := cellb d2 hE; have d3 := cellb d3 hE; have d4 := cellb d4 hE; have d5 := cellb d5 hE; have r0 := cellb r0 hE; have r1 := cellb r1 hE; have r2 := cellb r2 hE; have r3 := cellb r3 hE; have r4 := cellb r4 hE; have r5 := cellb r5 hE; have z0 := cellb z0 hE; have z1 := cellb z1 hE; have z2 := cellb z2 hE; have z3 := cellb z3 hE; have z4 := cellb z4 hE; have z5 := cellb z5 hE; (try dsimp only); go_simp); (try with_reducible rfl)
                      try simp only [Act.put, List.setIfInBounds_toArray, List.set_cons_zero, List.set_cons_succ]
                      refine wpAnyE_take (i := 8) (oi := { dst := some 295, op := Op.binOp BinOp.neq 44 (Operand.tmp 294) (Operand.const (Value.int IntKind.i64 0)) 44, type := 4, pos := "top01_wt43d.go:83", after := #[{ on := 7, ground := Ground.data }, { on := 6, ground := Ground.guard }], guard := some (6, false) }) (v := ?_) rfl (by kernel_rfl) (by kernel_rfl) (by kernel_rfl) (by kernel_rfl) (fun _ _ _ h => h) (Or.inl ⟨by rfl, ?_⟩) ?_
                      rotate_left
                      · (intro w hE; have p0 := cellb p0 hE; have p1 := cellb p1 hE; have p2 := cellb p2 hE; have p3 := cellb p3 hE; have p4 := cellb p4 hE; have p5 := cellb p5 hE; have c0 := cellb c0 hE; have c1 := cellb c1 hE; have c2 := cellb c2 hE; have c3 := cellb c3 hE; have c4 := cellb c4 hE; have c5 := cellb c5 hE; have d0 := cellb d0 hE; have d1 := cellb d1 hE; have d2 := cellb d2 hE; have d3 := cellb d3 hE; have d4 := cellb d4 hE; have d5 := cellb d5 hE; have r0 := cellb r0 hE; have r1 := cellb r1 hE; have r2 := cellb r2 hE; have r3 := cellb r3 hE; have r4 := cellb r4 hE; have r5 := cellb r5 hE; have z0 := cellb z0 hE; have z1 := cellb z1 hE; have z2 := cellb z2 hE; have z3 := cellb z3 hE; have z4 := cellb z4 hE; have z5 := cellb z5 hE; (try dsimp only); go_simp); (try with_reducible rfl)
                      try simp only [Act.put, List.setIfInBounds_toArray, List.set_cons_zero, List.set_cons_succ]
                      refine wpAnyE_take (i := 9) (oi := { dst := some 296, op := Op.pick (Operand.tmp 293) (Operand.const (Value.bool true)) (Operand.tmp 295), type := 4, pos := "top01_wt43d.go:83", after := #[{ on := 6, ground := Ground.data }, { on := 8, ground := Ground.data }], guard := none }) (v := ?_) rfl (by kernel_rfl) (by kernel_rfl) (by kernel_rfl) (by kernel_rfl) (fun _ _ _ h => h) (Or.inl ⟨by rfl, ?_⟩) ?_
                      rotate_left
                      · (intro w hE; have p0 := cellb p0 hE; have p1 := cellb p1 hE; have p2 := cellb p2 hE; have p3 := cellb p3 hE; have p4 := cellb p4 hE; have p5 := cellb p5 hE; have c0 := cellb c0 hE; have c1 := cellb c1 hE; have c2 := cellb c2 hE; have c3 := cellb c3 hE; have c4 := cellb c4 hE; have c5 := cellb c5 hE; have d0 := cellb d0 hE; have d1 := cellb d1 hE; have d2 := cellb d2 hE; have d3 := cellb d3 hE; have d4 := cellb d4 hE; have d5 := cellb d5 hE; have r0 := cellb r0 hE; have r1 := cellb r1 hE; have r2 := cellb r2 hE; have r3 := cellb r3 hE; have r4 := cellb r4 hE; have r5 := cellb r5 hE; have z0 := cellb z0 hE; have z1 := cellb z1 hE; have z2 := cellb z2 hE; have z3 := cellb z3 hE; have z4 := cellb z4 hE; have z5 := cellb z5 hE; (try dsimp only); go_simp); (try with_reducible rfl)
                      try simp only [Act.put, List.setIfInBounds_toArray, List.set_cons_zero, List.set_cons_succ]
                      refine wpAnyE_take (i := 10) (oi := { dst := some 297, op := Op.move (Operand.tmp 296), type := 4, pos := "top01_wt43d.go:83", after := #[{ on := 9, ground := Ground.data }, { on := 6, ground := Ground.chain }], guard := none }) (v := ?_) rfl (by kernel_rfl) (by kernel_rfl) (by kernel_rfl) (by kernel_rfl) (fun _ _ _ h => h) (Or.inl ⟨by rfl, ?_⟩) ?_
                      rotate_left
                      · (intro w hE; have p0 := cellb p0 hE; have p1 := cellb p1 hE; have p2 := cellb p2 hE; have p3 := cellb p3 hE; have p4 := cellb p4 hE; have p5 := cellb p5 hE; have c0 := cellb c0 hE; have c1 := cellb c1 hE; have c2 := cellb c2 hE; have c3 := cellb c3 hE; have c4 := cellb c4 hE; have c5 := cellb c5 hE; have d0 := cellb d0 hE; have d1 := cellb d1 hE; have d2 := cellb d2 hE; have d3 := cellb d3 hE; have d4 := cellb d4 hE; have d5 := cellb d5 hE; have r0 := cellb r0 hE; have r1 := cellb r1 hE; have r2 := cellb r2 hE; have r3 := cellb r3 hE; have r4 := cellb r4 hE; have r5 := cellb r5 hE; have z0 := cellb z0 hE; have z1 := cellb z1 hE; have z2 := cellb z2 hE; have z3 := cellb z3 hE; have z4 := cellb z4 hE; have z5 := cellb z5 hE; (try dsimp only); go_simp); (try with_reducible rfl)
                      try simp only [Act.put, List.setIfInBounds_toArray, List.set_cons_zero, List.set_cons_succ]
                      refine wpAnyE_take (i := 11) (oi := { dst := some 298, op := Op.load 37 (Operand.tmp 33), type := 37, pos := "top01_wt43d.go:83", after := #[{ on := 10, ground := Ground.guard }], guard := some (10, false) }) (v := ?_) rfl (by kernel_rfl) (by kernel_rfl) (by kernel_rfl) (by kernel_rfl) (fun _ _ _ h => h) (Or.inl ⟨by rfl, ?_⟩) ?_
                      rotate_left
                      · (intro w hE; have p0 := cellb p0 hE; have p1 := cellb p1 hE; have p2 := cellb p2 hE; have p3 := cellb p3 hE; have p4 := cellb p4 hE; have p5 := cellb p5 hE; have c0 := cellb c0 hE; have c1 := cellb c1 hE; have c2 := cellb c2 hE; have c3 := cellb c3 hE; have c4 := cellb c4 hE; have c5 := cellb c5 hE; have d0 := cellb d0 hE; have d1 := cellb d1 hE; have d2 := cellb d2 hE; have d3 := cellb d3 hE; have d4 := cellb d4 hE; have d5 := cellb d5 hE; have r0 := cellb r0 hE; have r1 := cellb r1 hE; have r2 := cellb r2 hE; have r3 := cellb r3 hE; have r4 := cellb r4 hE; have r5 := cellb r5 hE; have z0 := cellb z0 hE; have z1 := cellb z1 hE; have z2 := cellb z2 hE; have z3 := cellb z3 hE; have z4 := cellb z4 hE; have z5 := cellb z5 hE; (try dsimp only); go_simp); (try with_reducible rfl)
                      try simp only [Act.put, List.setIfInBounds_toArray, List.set_cons_zero, List.set_cons_succ]
                      refine wpAnyE_take (i := 12) (oi := { dst := some 299, op := Op.move (Operand.tmp 9), type := 27, pos := "top01_wt43d.go:83", after := #[{ on := 10, ground := Ground.guard }], guard := some (10, false) }) (v := ?_) rfl (by kernel_rfl) (by kernel_rfl) (by kernel_rfl) (by kernel_rfl) (fun _ _ _ h => h) (Or.inl ⟨by rfl, ?_⟩) ?_
                      rotate_left
                      · (intro w hE; have p0 := cellb p0 hE; have p1 := cellb p1 hE; have p2 := cellb p2 hE; have p3 := cellb p3 hE; have p4 := cellb p4 hE; have p5 := cellb p5 hE; have c0 := cellb c0 hE; have c1 := cellb c1 hE; have c2 := cellb c2 hE; have c3 := cellb c3 hE; have c4 := cellb c4 hE; have c5 := cellb c5 hE; have d0 := cellb d0 hE; have d1 := cellb d1 hE; have d2 := cellb d2 hE; have d3 := cellb d3 hE; have d4 := cellb d4 hE; have d5 := cellb d5 hE; have r0 := cellb r0 hE; have r1 := cellb r1 hE; have r2 := cellb r2 hE; have r3 := cellb r3 hE; have r4 := cellb r4 hE; have r5 := cellb r5 hE; have z0 := cellb z0 hE; have z1 := cellb z1 hE; have z2 := cellb z2 hE; have z3 := cellb z3 hE; have z4 := cellb z4 hE; have z5 := cellb z5 hE; (try dsimp only); go_simp); (try with_reducible rfl)
                      try simp only [Act.put, List.setIfInBounds_toArray, List.set_cons_zero, List.set_cons_succ]
                      refine wpAnyE_take (i := 13) (oi := { dst := some 300, op := Op.move (Operand.tmp 30), type := 3, pos := "top01_wt43d.go:83", after := #[{ on := 10, ground := Ground.guard }], guard := some (10, false) }) (v := ?_) rfl (by kernel_rfl) (by kernel_rfl) (by kernel_rfl) (by kernel_rfl) (fun _ _ _ h => h) (Or.inl ⟨by rfl, ?_⟩) ?_
                      rotate_left
                      · (intro w hE; have p0 := cellb p0 hE; have p1 := cellb p1 hE; have p2 := cellb p2 hE; have p3 := cellb p3 hE; have p4 := cellb p4 hE; have p5 := cellb p5 hE; have c0 := cellb c0 hE; have c1 := cellb c1 hE; have c2 := cellb c2 hE; have c3 := cellb c3 hE; have c4 := cellb c4 hE; have c5 := cellb c5 hE; have d0 := cellb d0 hE; have d1 := cellb d1 hE; have d2 := cellb d2 hE; have d3 := cellb d3 hE; have d4 := cellb d4 hE; have d5 := cellb d5 hE; have r0 := cellb r0 hE; have r1 := cellb r1 hE; have r2 := cellb r2 hE; have r3 := cellb r3 hE; have r4 := cellb r4 hE; have r5 := cellb r5 hE; have z0 := cellb z0 hE; have z1 := cellb z1 hE; have z2 := cellb z2 hE; have z3 := cellb z3 hE; have z4 := cellb z4 hE; have z5 := cellb z5 hE; (try dsimp only); go_simp); (try with_reducible rfl)
                      try simp only [Act.put, List.setIfInBounds_toArray, List.set_cons_zero, List.set_cons_succ]
                      refine wpAnyE_take (i := 14) (oi := { dst := some 301, op := Op.binOp BinOp.quo 3 (Operand.tmp 300) (Operand.const (Value.int IntKind.i64 2)) 3, type := 3, pos := "top01_wt43d.go:83", after := #[{ on := 13, ground := Ground.data }, { on := 10, ground := Ground.guard }], guard := some (10, false) }) (v := ?_) rfl (by kernel_rfl) (by kernel_rfl) (by kernel_rfl) (by kernel_rfl) (fun _ _ _ h => h) (Or.inl ⟨by rfl, ?_⟩) ?_
                      rotate_left
                      · (intro w hE; have p0 := cellb p0 hE; have p1 := cellb p1 hE; have p2 := cellb p2 hE; have p3 := cellb p3 hE; have p4 := cellb p4 hE; have p5 := cellb p5 hE; have c0 := cellb c0 hE; have c1 := cellb c1 hE; have c2 := cellb c2 hE; have c3 := cellb c3 hE; have c4 := cellb c4 hE; have c5 := cellb c5 hE; have d0 := cellb d0 hE; have d1 := cellb d1 hE; have d2 := cellb d2 hE; have d3 := cellb d3 hE; have d4 := cellb d4 hE; have d5 := cellb d5 hE; have r0 := cellb r0 hE; have r1 := cellb r1 hE; have r2 := cellb r2 hE; have r3 := cellb r3 hE; have r4 := cellb r4 hE; have r5 := cellb r5 hE; have z0 := cellb z0 hE; have z1 := cellb z1 hE; have z2 := cellb z2 hE; have z3 := cellb z3 hE; have z4 := cellb z4 hE; have z5 := cellb z5 hE; (try dsimp only); go_simp); (try with_reducible rfl)
                      try simp only [Act.put, List.setIfInBounds_toArray, List.set_cons_zero, List.set_cons_succ]
                      refine wpAnyE_take (i := 15) (oi := { dst := some 302, op := Op.indexAddr 27 (Operand.tmp 299) (Operand.tmp 301), type := 0, pos := "top01_wt43d.go:83", after := #[{ on := 12, ground := Ground.data }, { on := 14, ground := Ground.data }, { on := 10, ground := Ground.guard }], guard := some (10, false) }) (v := ?_) rfl (by kernel_rfl) (by kernel_rfl) (by kernel_rfl) (by kernel_rfl) (fun _ _ _ h => h) (Or.inl ⟨by rfl, ?_⟩) ?_
                      rotate_left
                      · (intro w hE; have p0 := cellb p0 hE; have p1 := cellb p1 hE; have p2 := cellb p2 hE; have p3 := cellb p3 hE; have p4 := cellb p4 hE; have p5 := cellb p5 hE; have c0 := cellb c0 hE; have c1 := cellb c1 hE; have c2 := cellb c2 hE; have c3 := cellb c3 hE; have c4 := cellb c4 hE; have c5 := cellb c5 hE; have d0 := cellb d0 hE; have d1 := cellb d1 hE; have d2 := cellb d2 hE; have d3 := cellb d3 hE; have d4 := cellb d4 hE; have d5 := cellb d5 hE; have r0 := cellb r0 hE; have r1 := cellb r1 hE; have r2 := cellb r2 hE; have r3 := cellb r3 hE; have r4 := cellb r4 hE; have r5 := cellb r5 hE; have z0 := cellb z0 hE; have z1 := cellb z1 hE; have z2 := cellb z2 hE; have z3 := cellb z3 hE; have z4 := cellb z4 hE; have z5 := cellb z5 hE; (try dsimp only); go_simp); (try with_reducible rfl)
                      try simp only [Act.put, List.setIfInBounds_toArray, List.set_cons_zero, List.set_cons_succ]
                      refine wpAnyE_take (i := 16) (oi := { dst := some 303, op := Op.load 37 (Operand.tmp 302), type := 37, pos := "top01_wt43d.go:83", after := #[{ on := 15, ground := Ground.data }, { on := 10, ground := Ground.guard }], guard := some (10, false) }) (v := ?_) rfl (by kernel_rfl) (by kernel_rfl) (by kernel_rfl) (by kernel_rfl) (fun _ _ _ h => h) (Or.inl ⟨by rfl, ?_⟩) ?_
                      rotate_left
                      · (intro w hE; have p0 := cellb p0 hE; have p1 := cellb p1 hE; have p2 := cellb p2 hE; have p3 := cellb p3 hE; have p4 := cellb p4 hE; have p5 := cellb p5 hE; have c0 := cellb c0 hE; have c1 := cellb c1 hE; have c2 := cellb c2 hE; have c3 := cellb c3 hE; have c4 := cellb c4 hE; have c5 := cellb c5 hE; have d0 := cellb d0 hE; have d1 := cellb d1 hE; have d2 := cellb d2 hE; have d3 := cellb d3 hE; have d4 := cellb d4 hE; have d5 := cellb d5 hE; have r0 := cellb r0 hE; have r1 := cellb r1 hE; have r2 := cellb r2 hE; have r3 := cellb r3 hE; have r4 := cellb r4 hE; have r5 := cellb r5 hE; have z0 := cellb z0 hE; have z1 := cellb z1 hE; have z2 := cellb z2 hE; have z3 := cellb z3 hE; have z4 := cellb z4 hE; have z5 := cellb z5 hE; (try dsimp only); go_simp); (try with_reducible rfl)
                      try simp only [Act.put, List.setIfInBounds_toArray, List.set_cons_zero, List.set_cons_succ]
                      refine wpAnyE_take (i := 17) (oi := { dst := some 304, op := Op.binOp BinOp.neq 37 (Operand.tmp 298) (Operand.tmp 303) 37, type := 4, pos := "top01_wt43d.go:83", after := #[{ on := 11, ground := Ground.data }, { on := 16, ground := Ground.data }, { on := 10, ground := Ground.guard }], guard := some (10, false) }) (v := ?_) rfl (by kernel_rfl) (by kernel_rfl) (by kernel_rfl) (by kernel_rfl) (fun _ _ _ h => h) (Or.inl ⟨by rfl, ?_⟩) ?_
                      rotate_left
                      · (intro w hE; have p0 := cellb p0 hE; have p1 := cellb p1 hE; have p2 := cellb p2 hE; have p3 := cellb p3 hE; have p4 := cellb p4 hE; have p5 := cellb p5 hE; have c0 := cellb c0 hE; have c1 := cellb c1 hE; have c2 := cellb c2 hE; have c3 := cellb c3 hE; have c4 := cellb c4 hE; have c5 := cellb c5 hE; have d0 := cellb d0 hE; have d1 := cellb d1 hE; have d2 := cellb d2 hE; have d3 := cellb d3 hE; have d4 := cellb d4 hE; have d5 := cellb d5 hE; have r0 := cellb r0 hE; have r1 := cellb r1 hE; have r2 := cellb r2 hE; have r3 := cellb r3 hE; have r4 := cellb r4 hE; have r5 := cellb r5 hE; have z0 := cellb z0 hE; have z1 := cellb z1 hE; have z2 := cellb z2 hE; have z3 := cellb z3 hE; have z4 := cellb z4 hE; have z5 := cellb z5 hE; (try dsimp only); go_simp); (try with_reducible rfl)
                      try simp only [Act.put, List.setIfInBounds_toArray, List.set_cons_zero, List.set_cons_succ]
                      refine wpAnyE_take (i := 18) (oi := { dst := some 305, op := Op.pick (Operand.tmp 297) (Operand.const (Value.bool true)) (Operand.tmp 304), type := 4, pos := "top01_wt43d.go:83", after := #[{ on := 10, ground := Ground.data }, { on := 17, ground := Ground.data }], guard := none }) (v := ?_) rfl (by kernel_rfl) (by kernel_rfl) (by kernel_rfl) (by kernel_rfl) (fun _ _ _ h => h) (Or.inl ⟨by rfl, ?_⟩) ?_
                      rotate_left
                      · (intro w hE; have p0 := cellb p0 hE; have p1 := cellb p1 hE; have p2 := cellb p2 hE; have p3 := cellb p3 hE; have p4 := cellb p4 hE; have p5 := cellb p5 hE; have c0 := cellb c0 hE; have c1 := cellb c1 hE; have c2 := cellb c2 hE; have c3 := cellb c3 hE; have c4 := cellb c4 hE; have c5 := cellb c5 hE; have d0 := cellb d0 hE; have d1 := cellb d1 hE; have d2 := cellb d2 hE; have d3 := cellb d3 hE; have d4 := cellb d4 hE; have d5 := cellb d5 hE; have r0 := cellb r0 hE; have r1 := cellb r1 hE; have r2 := cellb r2 hE; have r3 := cellb r3 hE; have r4 := cellb r4 hE; have r5 := cellb r5 hE; have z0 := cellb z0 hE; have z1 := cellb z1 hE; have z2 := cellb z2 hE; have z3 := cellb z3 hE; have z4 := cellb z4 hE; have z5 := cellb z5 hE; (try dsimp only); go_simp); (try with_reducible rfl)
                      try simp only [Act.put, List.setIfInBounds_toArray, List.set_cons_zero, List.set_cons_succ]
                      refine wpAnyE_take (i := 19) (oi := { dst := some 306, op := Op.move (Operand.tmp 305), type := 4, pos := "top01_wt43d.go:83", after := #[{ on := 18, ground := Ground.data }, { on := 10, ground := Ground.chain }], guard := none }) (v := ?_) rfl (by kernel_rfl) (by kernel_rfl) (by kernel_rfl) (by kernel_rfl) (fun _ _ _ h => h) (Or.inl ⟨by rfl, ?_⟩) ?_
                      rotate_left
                      · (intro w hE; have p0 := cellb p0 hE; have p1 := cellb p1 hE; have p2 := cellb p2 hE; have p3 := cellb p3 hE; have p4 := cellb p4 hE; have p5 := cellb p5 hE; have c0 := cellb c0 hE; have c1 := cellb c1 hE; have c2 := cellb c2 hE; have c3 := cellb c3 hE; have c4 := cellb c4 hE; have c5 := cellb c5 hE; have d0 := cellb d0 hE; have d1 := cellb d1 hE; have d2 := cellb d2 hE; have d3 := cellb d3 hE; have d4 := cellb d4 hE; have d5 := cellb d5 hE; have r0 := cellb r0 hE; have r1 := cellb r1 hE; have r2 := cellb r2 hE; have r3 := cellb r3 hE; have r4 := cellb r4 hE; have r5 := cellb r5 hE; have z0 := cellb z0 hE; have z1 := cellb z1 hE; have z2 := cellb z2 hE; have z3 := cellb z3 hE; have z4 := cellb z4 hE; have z5 := cellb z5 hE; (try dsimp only); go_simp); (try with_reducible rfl)
                      try simp only [Act.put, List.setIfInBounds_toArray, List.set_cons_zero, List.set_cons_succ]
                      refine wpAnyE_take (i := 20) (oi := { dst := some 307, op := Op.load 36 (Operand.tmp 34), type := 36, pos := "top01_wt43d.go:83", after := #[{ on := 19, ground := Ground.guard }], guard := some (19, false) }) (v := ?_) rfl (by kernel_rfl) (by kernel_rfl) (by kernel_rfl) (by kernel_rfl) (fun _ _ _ h => h) (Or.inl ⟨by rfl, ?_⟩) ?_
                      rotate_left
                      · (intro w hE; have p0 := cellb p0 hE; have p1 := cellb p1 hE; have p2 := cellb p2 hE; have p3 := cellb p3 hE; have p4 := cellb p4 hE; have p5 := cellb p5 hE; have c0 := cellb c0 hE; have c1 := cellb c1 hE; have c2 := cellb c2 hE; have c3 := cellb c3 hE; have c4 := cellb c4 hE; have c5 := cellb c5 hE; have d0 := cellb d0 hE; have d1 := cellb d1 hE; have d2 := cellb d2 hE; have d3 := cellb d3 hE; have d4 := cellb d4 hE; have d5 := cellb d5 hE; have r0 := cellb r0 hE; have r1 := cellb r1 hE; have r2 := cellb r2 hE; have r3 := cellb r3 hE; have r4 := cellb r4 hE; have r5 := cellb r5 hE; have z0 := cellb z0 hE; have z1 := cellb z1 hE; have z2 := cellb z2 hE; have z3 := cellb z3 hE; have z4 := cellb z4 hE; have z5 := cellb z5 hE; (try dsimp only); go_simp); (try with_reducible rfl)
                      try simp only [Act.put, List.setIfInBounds_toArray, List.set_cons_zero, List.set_cons_succ]
                      refine wpAnyE_take (i := 21) (oi := { dst := some 308, op := Op.load 36 (Operand.tmp 36), type := 36, pos := "top01_wt43d.go:83", after := #[{ on := 19, ground := Ground.guard }], guard := some (19, false) }) (v := ?_) rfl (by kernel_rfl) (by kernel_rfl) (by kernel_rfl) (by kernel_rfl) (fun _ _ _ h => h) (Or.inl ⟨by rfl, ?_⟩) ?_
                      rotate_left
                      · (intro w hE; have p0 := cellb p0 hE; have p1 := cellb p1 hE; have p2 := cellb p2 hE; have p3 := cellb p3 hE; have p4 := cellb p4 hE; have p5 := cellb p5 hE; have c0 := cellb c0 hE; have c1 := cellb c1 hE; have c2 := cellb c2 hE; have c3 := cellb c3 hE; have c4 := cellb c4 hE; have c5 := cellb c5 hE; have d0 := cellb d0 hE; have d1 := cellb d1 hE; have d2 := cellb d2 hE; have d3 := cellb d3 hE; have d4 := cellb d4 hE; have d5 := cellb d5 hE; have r0 := cellb r0 hE; have r1 := cellb r1 hE; have r2 := cellb r2 hE; have r3 := cellb r3 hE; have r4 := cellb r4 hE; have r5 := cellb r5 hE; have z0 := cellb z0 hE; have z1 := cellb z1 hE; have z2 := cellb z2 hE; have z3 := cellb z3 hE; have z4 := cellb z4 hE; have z5 := cellb z5 hE; (try dsimp only); go_simp); (try with_reducible rfl)
                      try simp only [Act.put, List.setIfInBounds_toArray, List.set_cons_zero, List.set_cons_succ]
                      refine wpAnyE_take (i := 22) (oi := { dst := some 309, op := Op.binOp BinOp.neq 36 (Operand.tmp 307) (Operand.tmp 308) 36, type := 4, pos := "top01_wt43d.go:83", after := #[{ on := 20, ground := Ground.data }, { on := 21, ground := Ground.data }, { on := 19, ground := Ground.guard }], guard := some (19, false) }) (v := ?_) rfl (by kernel_rfl) (by kernel_rfl) (by kernel_rfl) (by kernel_rfl) (fun _ _ _ h => h) (Or.inl ⟨by rfl, ?_⟩) ?_
                      rotate_left
                      · (intro w hE; have p0 := cellb p0 hE; have p1 := cellb p1 hE; have p2 := cellb p2 hE; have p3 := cellb p3 hE; have p4 := cellb p4 hE; have p5 := cellb p5 hE; have c0 := cellb c0 hE; have c1 := cellb c1 hE; have c2 := cellb c2 hE; have c3 := cellb c3 hE; have c4 := cellb c4 hE; have c5 := cellb c5 hE; have d0 := cellb d0 hE; have d1 := cellb d1 hE; have d2 := cellb d2 hE; have d3 := cellb d3 hE; have d4 := cellb d4 hE; have d5 := cellb d5 hE; have r0 := cellb r0 hE; have r1 := cellb r1 hE; have r2 := cellb r2 hE; have r3 := cellb r3 hE; have r4 := cellb r4 hE; have r5 := cellb r5 hE; have z0 := cellb z0 hE; have z1 := cellb z1 hE; have z2 := cellb z2 hE; have z3 := cellb z3 hE; have z4 := cellb z4 hE; have z5 := cellb z5 hE; (try dsimp only); go_simp); (try with_reducible rfl)
                      try simp only [Act.put, List.setIfInBounds_toArray, List.set_cons_zero, List.set_cons_succ]
                      refine wpAnyE_take (i := 23) (oi := { dst := some 310, op := Op.pick (Operand.tmp 306) (Operand.const (Value.bool true)) (Operand.tmp 309), type := 4, pos := "top01_wt43d.go:83", after := #[{ on := 19, ground := Ground.data }, { on := 22, ground := Ground.data }], guard := none }) (v := ?_) rfl (by kernel_rfl) (by kernel_rfl) (by kernel_rfl) (by kernel_rfl) (fun _ _ _ h => h) (Or.inl ⟨by rfl, ?_⟩) ?_
                      rotate_left
                      · (intro w hE; have p0 := cellb p0 hE; have p1 := cellb p1 hE; have p2 := cellb p2 hE; have p3 := cellb p3 hE; have p4 := cellb p4 hE; have p5 := cellb p5 hE; have c0 := cellb c0 hE; have c1 := cellb c1 hE; have c2 := cellb c2 hE; have c3 := cellb c3 hE; have c4 := cellb c4 hE; have c5 := cellb c5 hE; have d0 := cellb d0 hE; have d1 := cellb d1 hE; have d2 := cellb d2 hE; have d3 := cellb d3 hE; have d4 := cellb d4 hE; have d5 := cellb d5 hE; have r0 := cellb r0 hE; have r1 := cellb r1 hE; have r2 := cellb r2 hE; have r3 := cellb r3 hE; have r4 := cellb r4 hE; have r5 := cellb r5 hE; have z0 := cellb z0 hE; have z1 := cellb z1 hE; have z2 := cellb z2 hE; have z3 := cellb z3 hE; have z4 := cellb z4 hE; have z5 := cellb z5 hE; (try dsimp only); go_simp); (try with_reducible rfl)
                      try simp only [Act.put, List.setIfInBounds_toArray, List.set_cons_zero, List.set_cons_succ]
                      refine wpAnyE_take (i := 24) (oi := { dst := some 311, op := Op.move (Operand.tmp 310), type := 4, pos := "top01_wt43d.go:83", after := #[{ on := 23, ground := Ground.data }, { on := 19, ground := Ground.chain }], guard := none }) (v := ?_) rfl (by kernel_rfl) (by kernel_rfl) (by kernel_rfl) (by kernel_rfl) (fun _ _ _ h => h) (Or.inl ⟨by rfl, ?_⟩) ?_
                      rotate_left
                      · (intro w hE; have p0 := cellb p0 hE; have p1 := cellb p1 hE; have p2 := cellb p2 hE; have p3 := cellb p3 hE; have p4 := cellb p4 hE; have p5 := cellb p5 hE; have c0 := cellb c0 hE; have c1 := cellb c1 hE; have c2 := cellb c2 hE; have c3 := cellb c3 hE; have c4 := cellb c4 hE; have c5 := cellb c5 hE; have d0 := cellb d0 hE; have d1 := cellb d1 hE; have d2 := cellb d2 hE; have d3 := cellb d3 hE; have d4 := cellb d4 hE; have d5 := cellb d5 hE; have r0 := cellb r0 hE; have r1 := cellb r1 hE; have r2 := cellb r2 hE; have r3 := cellb r3 hE; have r4 := cellb r4 hE; have r5 := cellb r5 hE; have z0 := cellb z0 hE; have z1 := cellb z1 hE; have z2 := cellb z2 hE; have z3 := cellb z3 hE; have z4 := cellb z4 hE; have z5 := cellb z5 hE; (try dsimp only); go_simp); (try with_reducible rfl)
                      try simp only [Act.put, List.setIfInBounds_toArray, List.set_cons_zero, List.set_cons_succ]
                      refine wpAnyE_take (i := 25) (oi := { dst := some 312, op := Op.load 37 (Operand.tmp 38), type := 37, pos := "top01_wt43d.go:83", after := #[{ on := 24, ground := Ground.guard }], guard := some (24, false) }) (v := ?_) rfl (by kernel_rfl) (by kernel_rfl) (by kernel_rfl) (by kernel_rfl) (fun _ _ _ h => h) (Or.inl ⟨by rfl, ?_⟩) ?_
                      rotate_left
                      · (intro w hE; have p0 := cellb p0 hE; have p1 := cellb p1 hE; have p2 := cellb p2 hE; have p3 := cellb p3 hE; have p4 := cellb p4 hE; have p5 := cellb p5 hE; have c0 := cellb c0 hE; have c1 := cellb c1 hE; have c2 := cellb c2 hE; have c3 := cellb c3 hE; have c4 := cellb c4 hE; have c5 := cellb c5 hE; have d0 := cellb d0 hE; have d1 := cellb d1 hE; have d2 := cellb d2 hE; have d3 := cellb d3 hE; have d4 := cellb d4 hE; have d5 := cellb d5 hE; have r0 := cellb r0 hE; have r1 := cellb r1 hE; have r2 := cellb r2 hE; have r3 := cellb r3 hE; have r4 := cellb r4 hE; have r5 := cellb r5 hE; have z0 := cellb z0 hE; have z1 := cellb z1 hE; have z2 := cellb z2 hE; have z3 := cellb z3 hE; have z4 := cellb z4 hE; have z5 := cellb z5 hE; (try dsimp only); go_simp); (try with_reducible rfl)
                      try simp only [Act.put, List.setIfInBounds_toArray, List.set_cons_zero, List.set_cons_succ]
                      refine wpAnyE_take (i := 26) (oi := { dst := some 313, op := Op.move (Operand.tmp 9), type := 27, pos := "top01_wt43d.go:83", after := #[{ on := 24, ground := Ground.guard }], guard := some (24, false) }) (v := ?_) rfl (by kernel_rfl) (by kernel_rfl) (by kernel_rfl) (by kernel_rfl) (fun _ _ _ h => h) (Or.inl ⟨by rfl, ?_⟩) ?_
                      rotate_left
                      · (intro w hE; have p0 := cellb p0 hE; have p1 := cellb p1 hE; have p2 := cellb p2 hE; have p3 := cellb p3 hE; have p4 := cellb p4 hE; have p5 := cellb p5 hE; have c0 := cellb c0 hE; have c1 := cellb c1 hE; have c2 := cellb c2 hE; have c3 := cellb c3 hE; have c4 := cellb c4 hE; have c5 := cellb c5 hE; have d0 := cellb d0 hE; have d1 := cellb d1 hE; have d2 := cellb d2 hE; have d3 := cellb d3 hE; have d4 := cellb d4 hE; have d5 := cellb d5 hE; have r0 := cellb r0 hE; have r1 := cellb r1 hE; have r2 := cellb r2 hE; have r3 := cellb r3 hE; have r4 := cellb r4 hE; have r5 := cellb r5 hE; have z0 := cellb z0 hE; have z1 := cellb z1 hE; have z2 := cellb z2 hE; have z3 := cellb z3 hE; have z4 := cellb z4 hE; have z5 := cellb z5 hE; (try dsimp only); go_simp); (try with_reducible rfl)
                      try simp only [Act.put, List.setIfInBounds_toArray, List.set_cons_zero, List.set_cons_succ]
                      refine wpAnyE_take (i := 27) (oi := { dst := some 314, op := Op.move (Operand.tmp 30), type := 3, pos := "top01_wt43d.go:83", after := #[{ on := 24, ground := Ground.guard }], guard := some (24, false) }) (v := ?_) rfl (by kernel_rfl) (by kernel_rfl) (by kernel_rfl) (by kernel_rfl) (fun _ _ _ h => h) (Or.inl ⟨by rfl, ?_⟩) ?_
                      rotate_left
                      · (intro w hE; have p0 := cellb p0 hE; have p1 := cellb p1 hE; have p2 := cellb p2 hE; have p3 := cellb p3 hE; have p4 := cellb p4 hE; have p5 := cellb p5 hE; have c0 := cellb c0 hE; have c1 := cellb c1 hE; have c2 := cellb c2 hE; have c3 := cellb c3 hE; have c4 := cellb c4 hE; have c5 := cellb c5 hE; have d0 := cellb d0 hE; have d1 := cellb d1 hE; have d2 := cellb d2 hE; have d3 := cellb d3 hE; have d4 := cellb d4 hE; have d5 := cellb d5 hE; have r0 := cellb r0 hE; have r1 := cellb r1 hE; have r2 := cellb r2 hE; have r3 := cellb r3 hE; have r4 := cellb r4 hE; have r5 := cellb r5 hE; have z0 := cellb z0 hE; have z1 := cellb z1 hE; have z2 := cellb z2 hE; have z3 := cellb z3 hE; have z4 := cellb z4 hE; have z5 := cellb z5 hE; (try dsimp only); go_simp); (try with_reducible rfl)
                      try simp only [Act.put, List.setIfInBounds_toArray, List.set_cons_zero, List.set_cons_succ]
                      refine wpAnyE_take (i := 28) (oi := { dst := some 315, op := Op.binOp BinOp.quo 3 (Operand.tmp 314) (Operand.const (Value.int IntKind.i64 2)) 3, type := 3, pos := "top01_wt43d.go:83", after := #[{ on := 27, ground := Ground.data }, { on := 24, ground := Ground.guard }], guard := some (24, false) }) (v := ?_) rfl (by kernel_rfl) (by kernel_rfl) (by kernel_rfl) (by kernel_rfl) (fun _ _ _ h => h) (Or.inl ⟨by rfl, ?_⟩) ?_
                      rotate_left
                      · (intro w hE; have p0 := cellb p0 hE; have p1 := cellb p1 hE; have p2 := cellb p2 hE; have p3 := cellb p3 hE; have p4 := cellb p4 hE; have p5 := cellb p5 hE; have c0 := cellb c0 hE; have c1 := cellb c1 hE; have c2 := cellb c2 hE; have c3 := cellb c3 hE; have c4 := cellb c4 hE; have c5 := cellb c5 hE; have d0 := cellb d0 hE; have d1 := cellb d1 hE; have d2 := cellb d2 hE; have d3 := cellb d3 hE; have d4 := cellb d4 hE; have d5 := cellb d5 hE; have r0 := cellb r0 hE; have r1 := cellb r1 hE; have r2 := cellb r2 hE; have r3 := cellb r3 hE; have r4 := cellb r4 hE; have r5 := cellb r5 hE; have z0 := cellb z0 hE; have z1 := cellb z1 hE; have z2 := cellb z2 hE; have z3 := cellb z3 hE; have z4 := cellb z4 hE; have z5 := cellb z5 hE; (try dsimp only); go_simp); (try with_reducible rfl)
                      try simp only [Act.put, List.setIfInBounds_toArray, List.set_cons_zero, List.set_cons_succ]
                      refine wpAnyE_take (i := 29) (oi := { dst := some 316, op := Op.indexAddr 27 (Operand.tmp 313) (Operand.tmp 315), type := 0, pos := "top01_wt43d.go:83", after := #[{ on := 26, ground := Ground.data }, { on := 28, ground := Ground.data }, { on := 24, ground := Ground.guard }], guard := some (24, false) }) (v := ?_) rfl (by kernel_rfl) (by kernel_rfl) (by kernel_rfl) (by kernel_rfl) (fun _ _ _ h => h) (Or.inl ⟨by rfl, ?_⟩) ?_
                      rotate_left
                      · (intro w hE; have p0 := cellb p0 hE; have p1 := cellb p1 hE; have p2 := cellb p2 hE; have p3 := cellb p3 hE; have p4 := cellb p4 hE; have p5 := cellb p5 hE; have c0 := cellb c0 hE; have c1 := cellb c1 hE; have c2 := cellb c2 hE; have c3 := cellb c3 hE; have c4 := cellb c4 hE; have c5 := cellb c5 hE; have d0 := cellb d0 hE; have d1 := cellb d1 hE; have d2 := cellb d2 hE; have d3 := cellb d3 hE; have d4 := cellb d4 hE; have d5 := cellb d5 hE; have r0 := cellb r0 hE; have r1 := cellb r1 hE; have r2 := cellb r2 hE; have r3 := cellb r3 hE; have r4 := cellb r4 hE; have r5 := cellb r5 hE; have z0 := cellb z0 hE; have z1 := cellb z1 hE; have z2 := cellb z2 hE; have z3 := cellb z3 hE; have z4 := cellb z4 hE; have z5 := cellb z5 hE; (try dsimp only); go_simp); (try with_reducible rfl)
                      try simp only [Act.put, List.setIfInBounds_toArray, List.set_cons_zero, List.set_cons_succ]
                      refine wpAnyE_take (i := 30) (oi := { dst := some 317, op := Op.load 37 (Operand.tmp 316), type := 37, pos := "top01_wt43d.go:83", after := #[{ on := 29, ground := Ground.data }, { on := 24, ground := Ground.guard }], guard := some (24, false) }) (v := ?_) rfl (by kernel_rfl) (by kernel_rfl) (by kernel_rfl) (by kernel_rfl) (fun _ _ _ h => h) (Or.inl ⟨by rfl, ?_⟩) ?_
                      rotate_left
                      · (intro w hE; have p0 := cellb p0 hE; have p1 := cellb p1 hE; have p2 := cellb p2 hE; have p3 := cellb p3 hE; have p4 := cellb p4 hE; have p5 := cellb p5 hE; have c0 := cellb c0 hE; have c1 := cellb c1 hE; have c2 := cellb c2 hE; have c3 := cellb c3 hE; have c4 := cellb c4 hE; have c5 := cellb c5 hE; have d0 := cellb d0 hE; have d1 := cellb d1 hE; have d2 := cellb d2 hE; have d3 := cellb d3 hE; have d4 := cellb d4 hE; have d5 := cellb d5 hE; have r0 := cellb r0 hE; have r1 := cellb r1 hE; have r2 := cellb r2 hE; have r3 := cellb r3 hE; have r4 := cellb r4 hE; have r5 := cellb r5 hE; have z0 := cellb z0 hE; have z1 := cellb z1 hE; have z2 := cellb z2 hE; have z3 := cellb z3 hE; have z4 := cellb z4 hE; have z5 := cellb z5 hE; (try dsimp only); go_simp); (try with_reducible rfl)
                      try simp only [Act.put, List.setIfInBounds_toArray, List.set_cons_zero, List.set_cons_succ]
                      refine wpAnyE_take (i := 31) (oi := { dst := some 318, op := Op.binOp BinOp.neq 37 (Operand.tmp 312) (Operand.tmp 317) 37, type := 4, pos := "top01_wt43d.go:83", after := #[{ on := 25, ground := Ground.data }, { on := 30, ground := Ground.data }, { on := 24, ground := Ground.guard }], guard := some (24, false) }) (v := ?_) rfl (by kernel_rfl) (by kernel_rfl) (by kernel_rfl) (by kernel_rfl) (fun _ _ _ h => h) (Or.inl ⟨by rfl, ?_⟩) ?_
                      rotate_left
                      · (intro w hE; have p0 := cellb p0 hE; have p1 := cellb p1 hE; have p2 := cellb p2 hE; have p3 := cellb p3 hE; have p4 := cellb p4 hE; have p5 := cellb p5 hE; have c0 := cellb c0 hE; have c1 := cellb c1 hE; have c2 := cellb c2 hE; have c3 := cellb c3 hE; have c4 := cellb c4 hE; have c5 := cellb c5 hE; have d0 := cellb d0 hE; have d1 := cellb d1 hE; have d2 := cellb d2 hE; have d3 := cellb d3 hE; have d4 := cellb d4 hE; have d5 := cellb d5 hE; have r0 := cellb r0 hE; have r1 := cellb r1 hE; have r2 := cellb r2 hE; have r3 := cellb r3 hE; have r4 := cellb r4 hE; have r5 := cellb r5 hE; have z0 := cellb z0 hE; have z1 := cellb z1 hE; have z2 := cellb z2 hE; have z3 := cellb z3 hE; have z4 := cellb z4 hE; have z5 := cellb z5 hE; (try dsimp only); go_simp); (try with_reducible rfl)
                      try simp only [Act.put, List.setIfInBounds_toArray, List.set_cons_zero, List.set_cons_succ]
                      refine wpAnyE_take (i := 32) (oi := { dst := some 319, op := Op.pick (Operand.tmp 311) (Operand.const (Value.bool true)) (Operand.tmp 318), type := 4, pos := "top01_wt43d.go:83", after := #[{ on := 24, ground := Ground.data }, { on := 31, ground := Ground.data }], guard := none }) (v := ?_) rfl (by kernel_rfl) (by kernel_rfl) (by kernel_rfl) (by kernel_rfl) (fun _ _ _ h => h) (Or.inl ⟨by rfl, ?_⟩) ?_
                      rotate_left
                      · (intro w hE; have p0 := cellb p0 hE; have p1 := cellb p1 hE; have p2 := cellb p2 hE; have p3 := cellb p3 hE; have p4 := cellb p4 hE; have p5 := cellb p5 hE; have c0 := cellb c0 hE; have c1 := cellb c1 hE; have c2 := cellb c2 hE; have c3 := cellb c3 hE; have c4 := cellb c4 hE; have c5 := cellb c5 hE; have d0 := cellb d0 hE; have d1 := cellb d1 hE; have d2 := cellb d2 hE; have d3 := cellb d3 hE; have d4 := cellb d4 hE; have d5 := cellb d5 hE; have r0 := cellb r0 hE; have r1 := cellb r1 hE; have r2 := cellb r2 hE; have r3 := cellb r3 hE; have r4 := cellb r4 hE; have r5 := cellb r5 hE; have z0 := cellb z0 hE; have z1 := cellb z1 hE; have z2 := cellb z2 hE; have z3 := cellb z3 hE; have z4 := cellb z4 hE; have z5 := cellb z5 hE; (try dsimp only); go_simp); (try with_reducible rfl)
                      try simp only [Act.put, List.setIfInBounds_toArray, List.set_cons_zero, List.set_cons_succ]
                      refine wpAnyE_done (by kernel_rfl) (fun wy1 hE => ?_) _
                      have hbz1 := bthen hbz hE
                      have p0 := cellb p0 hE
                      have p1 := cellb p1 hE
                      have p2 := cellb p2 hE
                      have p3 := cellb p3 hE
                      have p4 := cellb p4 hE
                      have p5 := cellb p5 hE
                      have c0 := cellb c0 hE
                      have c1 := cellb c1 hE
                      have c2 := cellb c2 hE
                      have c3 := cellb c3 hE
                      have c4 := cellb c4 hE
                      have c5 := cellb c5 hE
                      have d0 := cellb d0 hE
                      have d1 := cellb d1 hE
                      have d2 := cellb d2 hE
                      have d3 := cellb d3 hE
                      have d4 := cellb d4 hE
                      have d5 := cellb d5 hE
                      have r0 := cellb r0 hE
                      have r1 := cellb r1 hE
                      have r2 := cellb r2 hE
                      have r3 := cellb r3 hE
                      have r4 := cellb r4 hE
                      have r5 := cellb r5 hE
                      have z0 := cellb z0 hE
                      have z1 := cellb z1 hE
                      have z2 := cellb z2 hE
                      have z3 := cellb z3 hE
                      have z4 := cellb z4 hE
                      have z5 := cellb z5 hE
                      clear hE
                      have hbel := hbz1
                      obtain ⟨W99, hW99⟩ : ∃ v, v = wy1 := ⟨_, rfl⟩
                      rw [← hW99] at hbel ⊢
                      clear hW99
                      clear p0 p1 p2 p3 p4 p5 c0 c1 c2 c3 c4 c5 d0 d1 d2 d3 d4 d5 r0 r1 r2 r3 r4 r5 z0 z1 z2 z3 z4 z5 nq1 nq2
                      go_wp2_with fail
                      go_roundw
                      case rel => exact ⟨r + 1, by omega, by go_num, hbel⟩
                      case measure => simp [intOf]; omega
            · obtain rfl : r = NC := by omega
              have hT10 := hT9.carry hbel
              go_wp2_with fail
              refine (TW.out _ hT10).mono ?_
              rintro e w12 ⟨rfl, hb12⟩
              go_wp2
              go_ret
              exact ⟨rfl, bthen (hB9.trans (hbel.mono hB9.size)) hb12⟩

set_option maxRecDepth 100000 in
set_option maxHeartbeats 4000000 in
theorem thimble_any (v : Value) (xs : List E3) (n0 n1 n2 wg fs : Int) (w : World) (hT : Thirds w) (hv : Rows8 w v xs) (h8 : ∀ x ∈ xs, E8 x) (hn0 : 0 ≤ n0 ∧ n0 ≤ 255) (hn1 : 0 ≤ n1 ∧ n1 ≤ 255) (hwg : 0 ≤ wg ∧ wg ≤ 65535) (hfs : 0 ≤ fs ∧ fs ≤ 65535) :
    Calls Tryd.prog 3 #[v, .agg #[.int .u8 n0, .int .u8 n1, .int .u8 n2], .agg #[.int .u16 wg, .int .u16 fs]] w fun e w' => e = .returned (.bool true) ∧ Below w.heap.size w w' := by
  have hv0 := hv
  obtain ⟨a, cap, rfl, _⟩ := hv
  obtain ⟨m, hm⟩ : ∃ m, m = xs.length := ⟨_, rfl⟩
  rw [← hm] at hv0 ⊢
  exact (thSplit a cap m xs n0 n1 n2 wg fs w).2 (thRest a cap m xs n0 n1 n2 wg fs w) hT hv0 hm h8 hn0 hn1 hwg hfs
end Go.Proofs.YtjmdnolmaofbiaaDoor

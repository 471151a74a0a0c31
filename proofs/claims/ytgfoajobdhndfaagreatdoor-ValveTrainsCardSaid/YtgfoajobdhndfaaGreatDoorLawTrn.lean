/- The law ValveTrains. -/
import Derived.Test.YtgfoajobdhndfaaGreatDoorVcN
import Derived.Test.YtgfoajobdhndfaaGreatDoorVdE
namespace Go.Proofs.YtgfoajobdhndfaaGreatDoor
set_option linter.unusedSimpArgs false
set_option linter.unusedVariables false
open Go.RowKit

theorem eqI12 (l : List Int) (hl : l.length = 12) (W : World) : Sem.run Tryz.prog (Op.equalIn 10000 31 (.agg (ia l)) (.agg (ia l))) W = .ok true W := by
  obtain ⟨i0, hi, hz0, hz1, hz2⟩ := info_parts Tryz.infZint
  have hc : Tryz.prog.cellsOf 3 = 1 := by kernel_rfl
  rw [run_equalIn_array W 9999 (t := 31) (e := 3) (n := 12) _ _ Tryz.undA12 hi, hc, eqItemsI l l W _ (fun i hi => by rw [hl]; exact ⟨List.mem_range.1 hi, List.mem_range.1 hi⟩), allRange_eq l l 12 hl hl]
  simp
theorem same_self (va vb : Value) (l : List Int) (W : World) (ha : Ints W va l) (hb : Ints W vb l) (hl : l.length ≤ 1000000000) :
    Calls Tryz.prog 18 #[va, vb] W fun e w' => e = .returned (.bool true) ∧ Below W.heap.size W w' := by
  have := SameInts_any va vb l l W ha hb hl
  rw [decide_eq_true rfl] at this
  exact this
theorem same_train (va vb : Value) (l : List P2) (W : World) (ha : Prs W va l) (hb : Prs W vb l) (hl : l.length ≤ 1000000000) :
    Calls Tryz.prog 19 #[va, vb] W fun e w' => e = .returned (.bool true) ∧ Below W.heap.size W w' := by
  have := SameTrain_any va vb l l W ha hb hl
  rw [decide_eq_true rfl] at this
  exact this
theorem own_setRow {w : World} {base e size n B : Nat} {cs : Array Value} {v : Value} {xs : List Value} (h : w.ownsRow base e size v n xs) (hB : B < base) : (w.setRow B cs).ownsRow base e size v n xs := by
  refine ⟨h.1, ?_⟩
  rcases h.2 with h1 | ⟨g, cap, cur, hv, hg, hh, hr⟩
  · exact .inl h1
  · exact .inr ⟨g, cap, cur, hv, hg, (setRow_other _ _ _ _ (show g ≠ B by omega)).trans hh, hr⟩
theorem own_mono {w : World} {base base' e size n : Nat} {v : Value} {xs : List Value} (h : w.ownsRow base e size v n xs) (hb : base' ≤ base) : w.ownsRow base' e size v n xs := by
  refine ⟨h.1, ?_⟩
  rcases h.2 with h1 | ⟨g, cap, cur, hv, hg, hh, hr⟩
  · exact .inl h1
  · exact .inr ⟨g, cap, cur, hv, Nat.le_trans hb hg, hh, hr⟩
theorem short_le {n : Nat} (h : shortB n = true) : n ≤ 257 := by
  unfold shortB at h
  simp at h; omega
theorem bumpsR_len (l : List P2) (lim : Int) : (bumpsR l lim).length ≤ l.length := by
  unfold bumpsR bumpsL
  split
  · have := bumpK_len l lim (l.length - 1); omega
  · simp
theorem bypR_len (l : List P2) (m : Int) : (bypR l m).length ≤ l.length := by
  unfold bypR chgL
  split
  · rw [List.length_map]; exact Nat.le_refl _
  · simp
set_option maxRecDepth 100000 in
set_option maxHeartbeats 8000000 in
theorem trn_law (TA : ∀ W, Pows W → Heads W → Calls Tryz.prog 4 #[] W fun e w' => e = .returned (.bool true) ∧ Below W.heap.size W w')
    (v : Value) (lim m : Int) (l : List P2) (w : World) (hp : Pows w) (hh : Heads w) (hv : Prs w v l) :
    Calls Tryz.prog 3 #[v, .int .i64 lim, .int .i64 m] w fun e w' => e = .returned (.bool true) ∧ Below w.heap.size w w' := by
  have TA := Lib.hid TA
  obtain ⟨a, cp, hve, -⟩ := hv.slice
  obtain ⟨N, hN⟩ : ∃ N, N = l.length := ⟨_, rfl⟩
  rw [← hN] at hve
  subst hve
  have TS := Lib.hid (fun W => Short_any a N cp W)
  have HP := Lib.hid hp
  have HH := Lib.hid hh
  have HV := Lib.hid hv
  have HN := Lib.hid hN
  have HS := Lib.hid (fun h : shortB N = true => short_le h)
  obtain ⟨sb, hsb⟩ : ∃ b, b = shortB N := ⟨_, rfl⟩
  rw [← hsb] at TS HS
  clear hp hh hv hN hsb
  cases sb with
  | false =>
    go_enter Tryz.func3, Tryz.ntmps3
    go_wp2_with fail
    refine (TA.out w HP.out HH.out).mono ?_
    rintro e w1 ⟨rfl, hb1⟩
    go_wp2_with fail
    refine (TS.out w1).mono ?_
    rintro e w2 ⟨rfl, rfl⟩
    go_wp2_with fail
    refine (TA.out w1 (HP.out.carry hb1) (HH.out.carry hb1)).mono ?_
    rintro e w2 ⟨rfl, hb2⟩
    go_wp2
    go_ret
    exact ⟨rfl, bthen hb1 hb2⟩
  | true =>
    have hle := HS.out rfl
    clear HS
    have T0 := Lib.hid (fun W (h : Prs W (.slice a N cp) l) => pulses_any (.slice a N cp) l W (by rw [← HN.out]; omega) h)
    have TB := Lib.hid (fun u W (h : Prs W u l) => Bumps_any u l lim W (by rw [← HN.out]; omega) h)
    have TW := Lib.hid (fun u W (h : Prs W u l) => Switchings_any u l W (by rw [← HN.out]; omega) h)
    have TY := Lib.hid (fun u W (h : Prs W u l) => Bypassed_any u l m W (by rw [← HN.out]; omega) h)
    have TC := Lib.hid (fun W (h : Prs W (.slice a N cp) l) => CheckTrainR_any (.slice a N cp) l W (by rw [← HN.out]; omega) h)
    have TC2 := Lib.hid (fun u W (h : Prs W u l) => CheckTrain_any u l W (by rw [← HN.out]; omega) h)
    have TR := Lib.hid (fun W => CheckRange_any lim 0 12 W)
    have TM := Lib.hid (fun W => CheckSetR_any m W)
    have RB := Lib.hid (fun W (hok : TrOk l) (h : Prs W (.slice a N cp) l) => BumpsR_any (.slice a N cp) l lim W (by rw [← HN.out]; omega) hok h)
    have RW := Lib.hid (fun W (hok : TrOk l) (h : Prs W (.slice a N cp) l) => SwitchingsR_any (.slice a N cp) l W (by rw [← HN.out]; omega) hok h)
    have RY := Lib.hid (fun W (hok : TrOk l) (hm : 0 ≤ m ∧ m ≤ 4095) (h : Prs W (.slice a N cp) l) => BypassedR_any (.slice a N cp) l m W (by rw [← HN.out]; omega) hok hm h)
    have hb9 := bumpsR_len l lim
    have hy9 := bypR_len l m
    have hbE : bumpsE l lim = firstE [trainE l, withinE lim 0 12] := rfl
    have hyE : bypE l m = firstE [trainE l, withinE m 0 4095] := rfl
    have hok : trainE l = 0 → TrOk l := trainE_ok
    have hs0 : trainE l = 0 → swOr l = swL l := fun h => by unfold swOr; rw [if_pos h]
    have hs1 : trainE l ≠ 0 → swOr l = List.replicate 12 0 := fun h => by unfold swOr; rw [if_neg h]
    have hb0 : bumpsE l lim = 0 → bumpsR l lim = bumpsL l lim ∧ trainE l = 0 := fun h => ⟨by unfold bumpsR; rw [if_pos h], by rw [hbE] at h; exact (firstE_cons0.1 h).1⟩
    have hb1 : bumpsE l lim ≠ 0 → bumpsR l lim = [] := fun h => by unfold bumpsR; rw [if_neg h]
    have hy0 : bypE l m = 0 → bypR l m = chgL l (bypV m) ∧ trainE l = 0 ∧ (0 ≤ m ∧ m ≤ 4095) := fun h => ⟨by unfold bypR; rw [if_pos h], by rw [hyE] at h; exact (firstE_cons0.1 h).1, by rw [hyE] at h; exact withinE_zero.1 (firstE_cons0.1 (firstE_cons0.1 h).2).1⟩
    have hy1 : bypE l m ≠ 0 → bypR l m = [] := fun h => by unfold bypR; rw [if_neg h]
    have hsl : (swOr l).length = 12 := by unfold swOr; split <;> simp [swL_len]
    obtain ⟨SB, hSB⟩ : ∃ x, x = swOr l := ⟨_, rfl⟩
    obtain ⟨BR, hBR⟩ : ∃ x, x = bumpsR l lim := ⟨_, rfl⟩
    obtain ⟨YR, hYR⟩ : ∃ x, x = bypR l m := ⟨_, rfl⟩
    obtain ⟨E, hE⟩ : ∃ x, x = trainE l := ⟨_, rfl⟩
    obtain ⟨E1, hE1⟩ : ∃ x, x = withinE lim 0 12 := ⟨_, rfl⟩
    obtain ⟨E2, hE2⟩ : ∃ x, x = withinE m 0 4095 := ⟨_, rfl⟩
    obtain ⟨EB, hEB⟩ : ∃ x, x = bumpsE l lim := ⟨_, rfl⟩
    obtain ⟨EY, hEY⟩ : ∃ x, x = bypE l m := ⟨_, rfl⟩
    have F1 := Lib.hid (fun u W (h : Ints W u [E, E1]) => firstL7_any u [E, E1] W (by simp) h)
    have F2 := Lib.hid (fun u W (h : Ints W u [E, E2]) => firstL7_any u [E, E2] W (by simp) h)
    rw [hE, hE1, ← hbE, ← hEB, ← hE, ← hE1] at F1
    rw [hE, hE2, ← hyE, ← hEY, ← hE, ← hE2] at F2
    rw [← hSB, ← hE] at TW hs0 hs1
    rw [← hSB] at hsl
    rw [← hBR, ← hEB] at TB hb1
    rw [← hBR, ← hEB, ← hE] at hb0
    rw [← hYR, ← hEY] at TY hy1
    rw [← hYR, ← hEY, ← hE] at hy0
    rw [← hBR, ← HN.out] at hb9
    rw [← hYR, ← HN.out] at hy9
    rw [← hE] at TC TC2 hok
    rw [← hE1] at TR
    rw [← hE2] at TM
    have HB0 := Lib.hid hb0
    have HB1 := Lib.hid hb1
    have HY0 := Lib.hid hy0
    have HY1 := Lib.hid hy1
    have HS0 := Lib.hid hs0
    have HS1 := Lib.hid hs1
    have HOK := Lib.hid hok
    have HSL := Lib.hid hsl
    have HEQ := Lib.hid (fun W => eqI12 SB hsl W)
    clear hb0 hb1 hy0 hy1 hs0 hs1 hok hsl hbE hyE hSB hBR hYR hE hE1 hE2 hEB hEY
    go_enter Tryz.func3, Tryz.ntmps3
    go_wp2_with fail
    refine (TA.out w HP.out HH.out).mono ?_
    rintro e w1 ⟨rfl, hb⟩
    clear TA HP HH
    go_wp2_with fail
    refine (TS.out w1).mono ?_
    rintro e w2 ⟨rfl, rfl⟩
    clear TS
    go_wp2_with fail
    refine (T0.out w1 (HV.out.carry hb)).mono ?_
    rintro e w2 ⟨⟨u, rfl, hu⟩, hl⟩
    replace hb := bthen hb hl
    clear hl
    go_wp2_with fail
    refine (TB.out u w2 (hu.rw pV_len)).mono ?_
    rintro e w3 ⟨⟨u7, rfl, h7⟩, hl⟩
    replace hb := bthen hb hl
    clear hu hl TB
    go_wp2_with fail
    refine (T0.out w3 (HV.out.carry hb)).mono ?_
    rintro e w4 ⟨⟨u, rfl, hu⟩, hl⟩
    replace hb := bthen hb hl
    replace h7 := h7.carry hl
    clear hl
    go_wp2_with fail
    refine (TW.out u w4 (hu.rw pV_len)).mono ?_
    rintro e w5 ⟨rfl, hl⟩
    replace hb := bthen hb hl
    replace h7 := h7.carry hl
    clear hu hl TW
    go_upto_region 5 with (refine wpList_storeA rfl _ _ _ rfl w5.heap.size SB (List.replicate 12 0) rfl rfl (BlkI.new w5 31 (List.replicate 12 0)) (by rw [HSL.out]; rfl) (by rw [HSL.out]; exact Tryz.infoA12) ?_)
    obtain ⟨W6, hW6⟩ : ∃ v, v = World.setRow (World.alloc w5 (Obj.cells #[.int .i64 0, .int .i64 0, .int .i64 0, .int .i64 0, .int .i64 0, .int .i64 0, .int .i64 0, .int .i64 0, .int .i64 0, .int .i64 0, .int .i64 0, .int .i64 0] 31)) w5.heap.size (ia (SB)) := ⟨_, rfl⟩
    have kW6 : Below w5.heap.size w5 W6 := by rw [hW6]; exact zrow_below _ _ _ _
    have iW6 : BlkI W6 w5.heap.size 31 (SB) := by rw [hW6]; exact zrow_blk w5 _ (List.replicate 12 0) _
    rw [← hW6]
    clear hW6
    replace hb := bthen hb kW6
    replace h7 := h7.carry kW6
    obtain ⟨G9, hG9⟩ : ∃ g, g = w5.heap.size := ⟨_, rfl⟩
    rw [← hG9] at iW6 ⊢
    have i9 := iW6
    clear iW6 kW6 hG9
    go_wp2_with fail
    refine (T0.out W6 (HV.out.carry hb)).mono ?_
    rintro e w7 ⟨⟨u, rfl, hu⟩, hl⟩
    replace hb := bthen hb hl
    replace h7 := h7.carry hl
    replace i9 := i9.carry hl
    clear hl
    go_wp2_with fail
    refine (TY.out u w7 (hu.rw pV_len)).mono ?_
    rintro e w8 ⟨⟨u11, rfl, h11⟩, hl⟩
    replace hb := bthen hb hl
    replace h7 := h7.carry hl
    replace i9 := i9.carry hl
    clear hu hl TY
    go_wp2_with fail
    refine (TC.out w8 (HV.out.carry hb)).mono ?_
    rintro e w9 ⟨rfl, hl⟩
    replace hb := bthen hb hl
    replace h7 := h7.carry hl
    replace i9 := i9.carry hl
    replace h11 := h11.carry hl
    clear hl TC
    go_wp2_with fail
    refine (TR.out w9).mono ?_
    rintro e w10 ⟨rfl, rfl⟩
    go_wp2_with fail
    obtain ⟨W10, hW10⟩ : ∃ v, v = World.alloc w9 (Obj.cells #[.int .i64 E, .int .i64 E1] 3) := ⟨_, rfl⟩
    have kW10 : Below w9.heap.size w9 W10 := by rw [hW10]; exact below_new _ _
    have iW10 : Blk W10 (w9.heap.size) 3 [.int .i64 E, .int .i64 E1] := by rw [hW10]; exact Blk.new _ _ _
    have sW10 : W10.heap.size = w9.heap.size + 1 := by rw [hW10]; simp
    rw [← hW10]
    clear hW10
    refine (F1.out _ W10 (BlkI.ints (l := [E, E1]) iW10 rfl)).mono ?_
    rintro e w11 ⟨rfl, rfl⟩
    replace hb := bthen hb kW10
    replace h7 := h7.carry kW10
    replace i9 := i9.carry kW10
    replace h11 := h11.carry kW10
    clear kW10 iW10 sW10 F1 TR
    go_wp2_with fail
    refine (TM.out W10).mono ?_
    rintro e w11 ⟨rfl, rfl⟩
    go_wp2_with fail
    obtain ⟨W11, hW11⟩ : ∃ v, v = World.alloc W10 (Obj.cells #[.int .i64 E, .int .i64 E2] 3) := ⟨_, rfl⟩
    have kW11 : Below W10.heap.size W10 W11 := by rw [hW11]; exact below_new _ _
    have iW11 : Blk W11 (W10.heap.size) 3 [.int .i64 E, .int .i64 E2] := by rw [hW11]; exact Blk.new _ _ _
    have sW11 : W11.heap.size = W10.heap.size + 1 := by rw [hW11]; simp
    rw [← hW11]
    clear hW11
    refine (F2.out _ W11 (BlkI.ints (l := [E, E2]) iW11 rfl)).mono ?_
    rintro e w12 ⟨rfl, rfl⟩
    replace hb := bthen hb kW11
    replace h7 := h7.carry kW11
    replace i9 := i9.carry kW11
    replace h11 := h11.carry kW11
    clear kW11 iW11 sW11 F2 TM
    go_upto_if 60 with fail
    obtain ⟨W12, hW12⟩ : ∃ v, v = World.alloc W11 (Obj.cells #[.int .i64 0, .int .i64 0, .int .i64 0, .int .i64 0, .int .i64 0, .int .i64 0, .int .i64 0, .int .i64 0, .int .i64 0, .int .i64 0, .int .i64 0, .int .i64 0] 31) := ⟨_, rfl⟩
    have kW12 : Below W11.heap.size W11 W12 := by rw [hW12]; exact below_new _ _
    have iW12 : BlkI W12 (W11.heap.size) 31 (List.replicate 12 0) := by rw [hW12]; exact BlkI.new W11 31 (List.replicate 12 0)
    have sW12 : W12.heap.size = W11.heap.size + 1 := by rw [hW12]; simp
    rw [← hW12]
    clear hW12
    have hbN : Below W11.heap.size W11 W12 := kW12
    obtain ⟨G17, hG17⟩ : ∃ g, g = W11.heap.size := ⟨_, rfl⟩
    rw [← hG17] at iW12 ⊢
    have i17 := iW12
    have hsz : G17 + 1 ≤ W12.heap.size := by have := Blk.lt i17; omega
    have HG := Lib.hid hG17
    have H7 := Lib.hid h7
    have H9 := Lib.hid i9
    have H11 := Lib.hid h11
    have HB := Lib.hid hb
    clear iW12 kW12 sW12 hG17 h7 i9 h11 hb
    go_cut [16] from 61 to 63 (fun u16 wn => wn.ownsRow (G17 + 1) 3 1 u16 BR.length (BR.map (Value.int .i64)) ∧ BlkI wn G17 31 (List.replicate 12 0) ∧ Below W11.heap.size W11 wn)
    case first =>
      by_cases h1 : EB = 0
      · subst h1
        have hx := HB0.out rfl
        have RB2 := RB.out W12 (HOK.out hx.2) (HV.out.carry (bthen HB.out hbN))
        rw [← hx.1] at RB2
        have RB3 := Lib.hid RB2
        clear hx RB2 RB
        go_wp2_with fail
        refine RB3.out.mono ?_
        rintro e Wf ⟨⟨u16, rfl, h16⟩, hl⟩
        go_wp2_with fail
        go_meet
        exact ⟨own_mono h16 hsz, i17.carry hl, bthen hbN hl⟩
      · have z : (EB == 0) = false := by rw [beq_eq_false_iff_ne]; exact h1
        have hx := Lib.hid (HB1.out h1)
        clear h1
        go_wp2_with fail
        go_meet
        exact ⟨by rw [hx.out]; exact World.ownsRow_nil _ _ _ _, i17, hbN⟩
    case rest =>
      clear i17 hbN hsz
      obtain ⟨h16, i17, hbN⟩ := hcut
      go_upto_if 65 with fail
      go_cut [] from 66 to 67 (fun wn => wn.ownsRow (G17 + 1) 3 1 u16 BR.length (BR.map (Value.int .i64)) ∧ BlkI wn G17 31 SB ∧ Below W11.heap.size W11 wn)
      case first =>
        by_cases h1 : E = 0
        · subst h1
          have RW2 := RW.out wc (HOK.out (by trivial)) (HV.out.carry (bthen HB.out hbN))
          rw [← HS0.out (by trivial)] at RW2
          have RW3 := Lib.hid RW2
          clear RW2 RW
          go_wp2_with fail
          refine RW3.out.mono ?_
          rintro e Wf ⟨rfl, hl⟩
          replace i17 := i17.carry hl
          replace hbN := bthen hbN hl
          replace h16 := own_below h16 hl
          go_wp2_with (refine wpList_storeA rfl _ _ _ rfl G17 SB (List.replicate 12 0) rfl rfl i17 (by rw [HSL.out]; rfl) (by rw [HSL.out]; exact Tryz.infoA12) ?_)
          go_meet
          exact ⟨own_setRow h16 (by omega), BlkI.setRowA i17 SB, below_rowA hbN (by rw [HG.out]; exact Nat.le_refl _) _⟩
        · have z : (E == 0) = false := by rw [beq_eq_false_iff_ne]; exact h1
          have hx := HS1.out h1
          rw [← hx] at i17
          clear h1 hx
          go_wp2_with fail
          go_meet
          exact ⟨h16, i17, hbN⟩
      case rest =>
        clear i17 hbN h16
        obtain ⟨h16, i17, hbN⟩ := hcut
        go_upto_if 69 with fail
        go_cut [18] from 70 to 72 (fun u18 wn => Prs wn u18 YR ∧ Ints wn u16 BR ∧ BlkI wn G17 31 SB ∧ Below W11.heap.size W11 wn)
        case first =>
          replace h16 : Ints wc u16 BR := Ints.of_own h16 rfl
          by_cases h1 : EY = 0
          · subst h1
            have hx := HY0.out rfl
            have RY2 := RY.out wc (HOK.out hx.2.1) hx.2.2 (HV.out.carry (bthen HB.out hbN))
            rw [← hx.1] at RY2
            have RY3 := Lib.hid RY2
            clear hx RY2 RY
            go_wp2_with fail
            refine RY3.out.mono ?_
            rintro e Wf ⟨⟨u18, rfl, h18⟩, hl⟩
            replace h18 : Prs _ _ _ := h18.rw pV_len
            go_wp2_with fail
            go_meet
            exact ⟨h18, h16.carry hl, i17.carry hl, bthen hbN hl⟩
          · have z : (EY == 0) = false := by rw [beq_eq_false_iff_ne]; exact h1
            have hx := Lib.hid (HY1.out h1)
            clear h1
            go_wp2_with fail
            go_meet
            exact ⟨by rw [hx.out]; exact Rw.nil 2 pV _ none 0, h16, i17, hbN⟩
        case rest =>
          clear i17 hbN h16
          obtain ⟨h18, h16, i17, hbN⟩ := hcut
          go_wp2_with fail
          refine (T0.out wc (HV.out.carry (bthen HB.out hbN))).mono ?_
          rintro e w21 ⟨⟨u, rfl, hu⟩, hl⟩
          replace h18 := h18.carry hl
          replace h16 := h16.carry hl
          replace i17 := i17.carry hl
          replace hbN := bthen hbN hl
          clear hl
          go_wp2_with fail
          refine (TC2.out u w21 (hu.rw pV_len)).mono ?_
          rintro e w22 ⟨rfl, hl⟩
          replace h18 := h18.carry hl
          replace h16 := h16.carry hl
          replace i17 := i17.carry hl
          replace hbN := bthen hbN hl
          clear hl hu
          go_wp2_with fail
          refine (same_self _ _ BR w22 (H7.out.carry hbN) h16 (by omega)).mono ?_
          rintro e w23 ⟨rfl, hl⟩
          replace h18 := h18.carry hl
          replace i17 := i17.carry hl
          replace hbN := bthen hbN hl
          clear hl h16
          have lI := load12 HSL.out (H9.out.carry hbN)
          have lJ := load12 HSL.out i17
          have nq := HEQ.out w23
          go_wp2_with (first | refine wpList_loadG (by rfl) _ _ rfl lI ?_ | refine wpList_loadG (by rfl) _ _ rfl lJ ?_)
          clear lI lJ nq
          refine (told_any _ YR w23 (by omega) (H11.out.carry hbN)).mono ?_
          rintro e w24 ⟨⟨u, rfl, hu⟩, hl⟩
          replace h18 := h18.carry hl
          replace hbN := bthen hbN hl
          clear hl i17
          replace hu : Prs _ _ _ := hu.rw pV_len
          go_wp2_with fail
          refine (same_train _ _ YR w24 hu h18 (by omega)).mono ?_
          rintro e w25 ⟨rfl, hl⟩
          replace hbN := bthen hbN hl
          clear hl hu h18
          go_wp2
          go_ret
          exact ⟨rfl, bthen HB.out hbN⟩
end Go.Proofs.YtgfoajobdhndfaaGreatDoor


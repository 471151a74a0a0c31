/- The law ValveLogs. -/
import Derived.Test.YtgdkomgfalkihaaGreatDoorVgE
import Derived.Test.YtgdkomgfalkihaaGreatDoorVcJ
namespace Go.Proofs.YtgdkomgfalkihaaGreatDoor
set_option linter.unusedSimpArgs false
set_option linter.unusedVariables false
open Go.RowKit
theorem shortL_le {ls : List Lg} (h : shortL ls = true) : ls.length ≤ 7 ∧ ∀ t ∈ ls, t.2.length ≤ 257 := by
 unfold shortL at h
 rw [Bool.and_eq_true] at h
 obtain ⟨h1, h2⟩ := h
 refine ⟨by simp at h2; omega, fun t ht => ?_⟩
 rw [List.all_eq_true] at h1
 have := h1 t ht
 unfold shortB at this
 simp at this; omega
theorem flatL_le {ls : List Lg} (h : LgOk ls) : (voteL ls.length (flatL ls ls.length)).length ≤ 2000 := by
 have h1 := votT_end (n := ls.length) (F := flatL ls ls.length) (t := 100001) (fun p hp => by have := (flatL_rg h hp).1; omega)
 rw [← h1]
 have h2 := votT_len ls.length (flatL ls ls.length) 100001
 have h3 := flatL_len h ls.length
 have := h.len
 omega
set_option maxRecDepth 100000 in
set_option maxHeartbeats 16000000 in
theorem log_law (TA : ∀ W, Pows W → Heads W → Calls Tryz.prog 7 #[] W fun e w' => e = .returned (.bool true) ∧ Below W.heap.size W w')
 (v : Value) (rs : List LgV) (ls : List Lg) (lim : Int) (w : World) (hp : Pows w) (hh : Heads w) (hl : ls.length ≤ 9223372036854775807) (hv : Lgs w v rs ls) :
 Calls Tryz.prog 5 #[v, .int .i64 lim] w fun e w' => e = .returned (.bool true) ∧ Below w.heap.size w w' := by
 have TA := Lib.hid TA
 have T1 := Lib.hid (fun W (h : Lgs W v rs ls) => ShortLogs_any v rs ls W hl h)
 have hsh := @shortL_le ls
 obtain ⟨s1, hs1⟩ : ∃ b, b = shortL ls := ⟨_, rfl⟩
 rw [← hs1] at T1 hsh
 have HSH := Lib.hid hsh
 have HP := Lib.hid hp
 have HH := Lib.hid hh
 have HV := Lib.hid hv
 clear hp hh hv hl hs1 hsh
 go_enter Tryz.func5, Tryz.ntmps5
 go_wp2_with fail
 refine (TA.out w HP.out HH.out).mono ?_
 rintro e w1 ⟨rfl, hb⟩
 go_wp2_with fail
 refine (T1.out w1 (HV.out.carry hb)).mono ?_
 rintro e w2 ⟨rfl, rfl⟩
 cases s1 with
 | false =>
   go_wp2_with fail
   refine (TA.out w1 (HP.out.carry hb) (HH.out.carry hb)).mono ?_
   rintro e w2 ⟨rfl, hb2⟩
   go_wp2
   go_ret
   exact ⟨rfl, bthen hb hb2⟩
 | true =>
   obtain ⟨hl7, hl8⟩ := HSH.out (by trivial)
   have hlt : ∀ t ∈ ls, t.2.length ≤ 1000000 := fun t ht => by have := hl8 t ht; omega
   have TL := Lib.hid (fun W (h : Lgs W v rs ls) => logs_any v rs ls W (by omega) hlt h)
   have TB := Lib.hid (fun u rs' W (h : Lgs W u rs' ls) => Behind_any u rs' ls lim W (by omega) hlt h)
   have TV := Lib.hid (fun u rs' W (h : Lgs W u rs' ls) => Vote_any u rs' ls W (by omega) hlt h)
   have TC := Lib.hid (fun u rs' W (h : Lgs W u rs' ls) => CheckLogs_any u rs' ls W (by omega) hlt h)
   have TD := Lib.hid (fun W (h : Lgs W v rs ls) => CheckLogsR_any v rs ls W (by omega) hlt h)
   have TK := Lib.hid (fun W => CheckTickR_any lim W)
   have hbE : behE ls lim = firstE [logsE ls, withinE lim 0 100000] := rfl
   have hvE : votE ls = logsE ls := rfl
   have hb0 : behE ls lim = 0 → logsE ls = 0 ∧ behR ls lim = behK ls lim ls.length := fun h => ⟨(firstE_cons0.1 (hbE ▸ h)).1, by unfold behR; rw [if_pos h]⟩
   have hb1 : behE ls lim ≠ 0 → behR ls lim = [] := fun h => by unfold behR; rw [if_neg h]
   have hv0 : logsE ls = 0 → votR ls = voteL ls.length (flatL ls ls.length) := fun h => by unfold votR; rw [if_pos h]
   have hv1 : logsE ls ≠ 0 → votR ls = [] := fun h => by unfold votR; rw [if_neg h]
   have hbl : (behR ls lim).length ≤ 100 := by
    unfold behR
    split
    ·have := behK_len ls lim ls.length; omega
    ·simp
   have hvl : (votR ls).length ≤ 2000 := by
    unfold votR
    split
    ·rename_i h; exact flatL_le (logsE_ok h)
    ·simp
   rw [hvE] at TV
   have hok := @logsE_ok ls
   obtain ⟨E, hE⟩ : ∃ x, x = logsE ls := ⟨_, rfl⟩
   obtain ⟨E4, hE4⟩ : ∃ x, x = withinE lim 0 100000 := ⟨_, rfl⟩
   obtain ⟨EB, hEB⟩ : ∃ x, x = behE ls lim := ⟨_, rfl⟩
   obtain ⟨BR, hBR⟩ : ∃ x, x = behR ls lim := ⟨_, rfl⟩
   obtain ⟨VR, hVR⟩ : ∃ x, x = votR ls := ⟨_, rfl⟩
   have F1 := Lib.hid (fun u W (h : Ints W u [E, E4]) => firstL7_any u [E, E4] W (by simp) h)
   rw [hE, hE4, ← hbE, ← hEB, ← hE, ← hE4] at F1
   rw [← hBR, ← hEB] at TB
   rw [← hE, ← hVR] at TV
   rw [← hE] at TC TD hok
   rw [← hE4] at TK
   rw [← hEB, ← hE, ← hBR] at hb0
   rw [← hEB, ← hBR] at hb1
   rw [← hE, ← hVR] at hv0 hv1
   rw [← hBR] at hbl
   rw [← hVR] at hvl
   have HB0 := Lib.hid hb0
   have HB1 := Lib.hid hb1
   have HV0 := Lib.hid hv0
   have HV1 := Lib.hid hv1
   have HOK := Lib.hid hok
   have HBL := Lib.hid hbl
   have HVL := Lib.hid hvl
   clear hb0 hb1 hv0 hv1 hok hbl hvl hbE hvE hE hE4 hEB hBR hVR hl7 hl8 hlt T1 TA HSH HP HH
   go_wp2_with fail
   refine (TL.out w1 (HV.out.carry hb)).mono ?_
   rintro e w2 ⟨⟨u, rs1, rfl, hu⟩, hl⟩
   replace hb := bthen hb hl
   clear hl
   go_wp2_with fail
   refine (TB.out u rs1 w2 hu).mono ?_
   rintro e w3 ⟨⟨u5, rfl, h5⟩, hl⟩
   replace hb := bthen hb hl
   clear hu hl TB
   go_wp2_with fail
   refine (TL.out w3 (HV.out.carry hb)).mono ?_
   rintro e w4 ⟨⟨u, rs2, rfl, hu⟩, hl⟩
   replace hb := bthen hb hl
   replace h5 := h5.carry hl
   clear hl
   go_wp2_with fail
   refine (TV.out u rs2 w4 hu).mono ?_
   rintro e w5 ⟨⟨u7, rfl, h7⟩, hl⟩
   replace hb := bthen hb hl
   replace h5 := h5.carry hl
   clear hu hl TV
   go_wp2_with fail
   refine (TD.out w5 (HV.out.carry hb)).mono ?_
   rintro e w6 ⟨rfl, hl⟩
   replace hb := bthen hb hl
   replace h5 := h5.carry hl
   replace h7 := h7.carry hl
   clear hl TD
   go_wp2_with fail
   refine (TK.out w6).mono ?_
   rintro e w7 ⟨rfl, rfl⟩
   go_wp2_with fail
   obtain ⟨W10, hW10⟩ : ∃ v, v = World.alloc w6 (Obj.cells #[.int .i64 E, .int .i64 E4] 3) := ⟨_, rfl⟩
   have kW10 : Below w6.heap.size w6 W10 := by rw [hW10]; exact below_new _ _
   have iW10 : Blk W10 (w6.heap.size) 3 [.int .i64 E, .int .i64 E4] := by rw [hW10]; exact Blk.new _ _ _
   have sW10 : W10.heap.size = w6.heap.size + 1 := by rw [hW10]; simp
   rw [← hW10]
   clear hW10
   refine (F1.out _ W10 (BlkI.ints (l := [E, E4]) iW10 rfl)).mono ?_
   rintro e w11 ⟨rfl, rfl⟩
   replace hb := bthen hb kW10
   replace h5 := h5.carry kW10
   replace h7 := h7.carry kW10
   clear kW10 iW10 sW10 F1 TK
   go_upto_if 42 with fail
   have HB := Lib.hid hb
   have H5 := Lib.hid h5
   have H7 := Lib.hid h7
   clear hb h5 h7
   go_cut [11] from 43 to 45 (fun u11 wn => Ints wn u11 BR ∧ Below W10.heap.size W10 wn)
   case first =>
    by_cases h1 : EB = 0
    ·subst h1
     obtain ⟨g1, g2⟩ := HB0.out rfl
     have R1 := Lib.hid (BehindR_any v rs ls lim W10 (HOK.out g1) (HV.out.carry HB.out))
     rw [← g2] at R1
     clear g1 g2
     go_wp2_with fail
     refine R1.out.mono ?_
     rintro e w11 ⟨⟨u, rfl, hu⟩, hl⟩
     go_wp2_with fail
     go_meet
     exact ⟨hu, hl⟩
    ·have z : (EB == 0) = false := by rw [beq_eq_false_iff_ne]; exact h1
     have G := Lib.hid (HB1.out h1)
     clear h1
     go_wp2_with fail
     go_meet
     exact ⟨by rw [G.out]; exact Ints.nil _, Below.refl _ _⟩
   case rest =>
    obtain ⟨h11, hbc⟩ := hcut
    have H11 := Lib.hid h11
    have HBC := Lib.hid hbc
    clear h11 hbc
    go_upto_if 47 with fail
    go_cut [12] from 48 to 49 (fun u12 wn => Prs wn u12 VR ∧ Below wc.heap.size wc wn)
    case first =>
     by_cases h1 : E = 0
     ·subst h1
      have g1 := HV0.out rfl
      have R1 := Lib.hid (VoteR_any v rs ls wc (HOK.out rfl) (HV.out.carry (bthen HB.out HBC.out)))
      rw [← g1] at R1
      clear g1
      go_wp2_with fail
      refine R1.out.mono ?_
      rintro e w11 ⟨⟨u, rfl, hu⟩, hl⟩
      go_wp2_with fail
      go_meet
      exact ⟨hu, hl⟩
     ·have z : (E == 0) = false := by rw [beq_eq_false_iff_ne]; exact h1
      have G := Lib.hid (HV1.out h1)
      clear h1
      go_wp2_with fail
      go_meet
      exact ⟨by rw [G.out]; exact Rw.nil 2 pV _ none 0, Below.refl _ _⟩
    case rest =>
     rename_i wa
     obtain ⟨h12, hl⟩ := hcut
     have hb := bthen (bthen HB.out HBC.out) hl
     have h5 := H5.out.carry (bthen HBC.out hl)
     have h7 := H7.out.carry (bthen HBC.out hl)
     have h11 := H11.out.carry hl
     clear hl
     go_wp2_with fail
     refine (TL.out _ (HV.out.carry hb)).mono ?_
     rintro e w21 ⟨⟨u, rs3, rfl, hu⟩, hl⟩
     replace hb := bthen hb hl
     replace h5 := h5.carry hl
     replace h7 := h7.carry hl
     replace h11 := h11.carry hl
     replace h12 := h12.carry hl
     clear hl
     go_wp2_with fail
     refine (TC.out u rs3 w21 hu).mono ?_
     rintro e w22 ⟨rfl, hl⟩
     replace hb := bthen hb hl
     replace h5 := h5.carry hl
     replace h7 := h7.carry hl
     replace h11 := h11.carry hl
     replace h12 := h12.carry hl
     clear hl hu
     go_wp2_with fail
     refine (SameInts_any _ _ BR BR w22 h5 h11 (by have := HBL.out; omega)).mono ?_
     rw [decide_eq_true rfl]
     rintro e w23 ⟨rfl, hl⟩
     replace hb := bthen hb hl
     replace h7 := h7.carry hl
     replace h12 := h12.carry hl
     clear hl h5 h11
     go_wp2_with fail
     refine (told_any _ VR w23 (by have := HVL.out; omega) h7).mono ?_
     rintro e w24 ⟨⟨u, rfl, hu⟩, hl⟩
     replace hb := bthen hb hl
     replace h12 := h12.carry hl
     clear hl h7
     replace hu : Prs _ _ _ := hu.rw pV_len
     go_wp2_with fail
     refine (SameTrain_any _ _ VR VR w24 hu h12 (by have := HVL.out; omega)).mono ?_
     rw [decide_eq_true rfl]
     rintro e w25 ⟨rfl, hl⟩
     replace hb := bthen hb hl
     clear hl hu h12
     go_wp2
     go_ret
     exact ⟨rfl, hb⟩
end Go.Proofs.YtgdkomgfalkihaaGreatDoor

/- The law ValveVotes. -/
import Derived.Test.YtgpdalgfbfboaaaGreatDoorViC
import Derived.Test.YtgpdalgfbfboaaaGreatDoorVcN
namespace Go.Proofs.YtgpdalgfbfboaaaGreatDoor
set_option linter.unusedSimpArgs false
set_option linter.unusedVariables false
open Go.RowKit
theorem same_train (va vb : Value) (l : List P2) (W : World) (ha : Prs W va l) (hb : Prs W vb l) (hl : l.length ≤ 1000000000) :
 Calls Tryz.prog 11 #[va, vb] W fun e w' => e = .returned (.bool true) ∧ Below W.heap.size W w' := by
 have := SameTrain_any va vb l l W ha hb hl
 rw [decide_eq_true rfl] at this
 exact this
theorem shortL_le {ls : List Lg} (h : shortL ls = true) : ls.length ≤ 7 ∧ ∀ t ∈ ls, t.2.length ≤ 257 := by
 unfold shortL at h
 rw [Bool.and_eq_true] at h
 obtain ⟨h1, h2⟩ := h
 refine ⟨by simp at h2; omega, fun t ht => ?_⟩
 rw [List.all_eq_true] at h1
 have := h1 t ht
 unfold shortB at this
 simp at this; omega
set_option maxRecDepth 100000 in
set_option maxHeartbeats 16000000 in
theorem vot_law (TA : ∀ W, Pows W → Heads W → Calls Tryz.prog 5 #[] W fun e w' => e = .returned (.bool true) ∧ Below W.heap.size W w')
 (v : Value) (rs : List LgV) (ls : List Lg) (w : World) (hp : Pows w) (hh : Heads w) (hl : ls.length ≤ 9223372036854775807) (hv : Lgs w v rs ls) :
 Calls Tryz.prog 3 #[v] w fun e w' => e = .returned (.bool true) ∧ Below w.heap.size w w' := by
 have TA := Lib.hid TA
 have hlen := hv.len
 obtain ⟨va, vc, rfl, -⟩ := hv.rw.slice
 obtain ⟨N, hN⟩ : ∃ N, N = rs.length := ⟨_, rfl⟩
 have hN2 : ls.length = N := by omega
 rw [← hN] at hv ⊢
 have T1 := Lib.hid (fun W (h : Lgs W (.slice va N vc) rs ls) => ShortLogs_any (.slice va N vc) rs ls W hl h)
 have hsh := @shortL_le ls
 obtain ⟨s1, hs1⟩ : ∃ b, b = shortL ls := ⟨_, rfl⟩
 rw [← hs1] at T1 hsh
 have HSH := Lib.hid hsh
 have HP := Lib.hid hp
 have HH := Lib.hid hh
 have HV := Lib.hid hv
 have HN := Lib.hid hN
 have HN2 := Lib.hid hN2
 clear hp hh hv hl hs1 hsh hN hN2 hlen
 go_enter Tryz.func3, Tryz.ntmps3
 go_wp2_with fail
 refine (TA.out w HP.out HH.out).mono ?_
 rintro e w1 ⟨rfl, hb⟩
 go_wp2_with fail
 refine (T1.out w1 (HV.out.carry hb)).mono ?_
 rintro e w2 ⟨rfl, rfl⟩
 cases s1 with
 | false =>
   go_wp2_with fail
   refine (TA.out w1 (HP.out.carry hb) (HH.out.carry hb)).mono ?_
   rintro e w2 ⟨rfl, hb2⟩
   go_wp2
   go_ret
   exact ⟨rfl, bthen hb hb2⟩
 | true =>
   obtain ⟨hl7, hl8⟩ := HSH.out (by trivial)
   have hlt : ∀ t ∈ ls, t.2.length ≤ 1000000 := fun t ht => by have := hl8 t ht; omega
   have hN7 : N ≤ 7 := by have := HN2.out; omega
   have HLT := Lib.hid hlt
   have hl1000 : ls.length ≤ 1000 := by omega
   have HL1000 := Lib.hid hl1000
   clear hl7 hl8 hlt hl1000 T1 HSH
   by_cases h5 : 5 < N
   ·have d5 : (5 : Int) < (N : Int) := by omega
    go_wp2_with fail
    refine (TA.out w1 (HP.out.carry hb) (HH.out.carry hb)).mono ?_
    rintro e w2 ⟨rfl, hb2⟩
    go_wp2
    go_ret
    exact ⟨rfl, bthen hb hb2⟩
   ·have d5 : ¬ (5 : Int) < (N : Int) := by omega
    have hN5 : N ≤ 5 := by omega
    have TD := Lib.hid (fun W (h : Lgs W (.slice va N vc) rs ls) => CheckLogsR_any (.slice va N vc) rs ls W HL1000.out HLT.out h)
    have hok := @logsE_ok ls
    obtain ⟨E, hE⟩ : ∃ x, x = logsE ls := ⟨_, rfl⟩
    rw [← hE] at TD hok
    have HE := Lib.hid hE
    have HOK0 := Lib.hid hok
    clear hok hE h5
    go_wp2_with fail
    refine (TD.out w1 (HV.out.carry hb)).mono ?_
    rintro e w2 ⟨rfl, hl⟩
    replace hb := bthen hb hl
    clear hl TD
    by_cases hE0 : E = 0
    ·subst hE0
     have HOK := Lib.hid (HOK0.out (by trivial))
     clear HOK0 TA HP HH
     have TL := Lib.hid (fun W (h : Lgs W (.slice va N vc) rs ls) => logs_any (.slice va N vc) rs ls W (by have := HL1000.out; omega) HLT.out h)
     have TLg := Lib.hid (fun u rs' ls' W (h1 : ls'.length ≤ 1000000) (h2 : ∀ t ∈ ls', t.2.length ≤ 1000000) (h : Lgs W u rs' ls') => logs_any u rs' ls' W h1 h2 h)
     have TVg := Lib.hid (fun u rs' ls' W (h1 : ls'.length ≤ 1000) (h2 : ∀ t ∈ ls', t.2.length ≤ 1000000) (h : Lgs W u rs' ls') => Vote_any u rs' ls' W h1 h2 h)
     have TV := Lib.hid (fun u rs' W (h : Lgs W u rs' ls) => by
      have := Vote_any u rs' ls W HL1000.out HLT.out h
      have hz : votE ls = 0 := HE.out.symm
      rw [hz, votR_of HE.out.symm] at this
      exact this)
     have TT := Lib.hid (fun u rs' W (h : Lgs W u rs' ls.reverse) => by
      have := Vote_any u rs' ls.reverse W (by rw [List.length_reverse]; exact HL1000.out) (fun t ht => HLT.out t (by simpa using ht)) h
      have hz : votE ls.reverse = 0 := turned_ok HOK.out
      rw [hz, votR_of (turned_ok HOK.out), vote_turned] at this
      exact this)
     have TB := Lib.hid (fun u rs' W (h : Lgs W u rs' ls) => by
      have := Behind_any u rs' ls 100000 W HL1000.out HLT.out h
      have hz : behE ls 100000 = 0 := by
       show firstE [logsE ls, withinE 100000 0 100000] = 0
       rw [← HE.out]; rfl
      rw [hz, show behR ls 100000 = behK ls 100000 ls.length by unfold behR; rw [if_pos hz]] at this
      exact this)
     have hvl := vote_len HOK.out
     have hbk := behK_len ls 100000 ls.length
     have HVA := Lib.hid (fun (k : Nat) (x : P2) hx => vote_at HOK.out (k := k) (x := x) hx)
     have HVN := Lib.hid (fun (k : Nat) (x y : P2) hx hy => vote_next (ls := ls) (k := k) (x := x) (y := y) hx hy)
     have HBE := Lib.hid (fun (i : Int) hi => behind_empty HOK.out (i := i) hi)
     rw [HN2.out] at TV TT TB hvl HVA HVN HBE hbk
     obtain ⟨VL, hVL⟩ : ∃ l, l = voteL N (flatL ls N) := ⟨_, rfl⟩
     obtain ⟨BK, hBK⟩ : ∃ l, l = behK ls 100000 N := ⟨_, rfl⟩
     rw [← hVL] at TV TT hvl HVA HVN
     rw [← hBK] at TB HBE hbk
     have HVL := Lib.hid hvl
     have HBK := Lib.hid hbk
     clear hVL hBK hvl hbk
     go_wp2_with fail
     refine (TL.out w2 (HV.out.carry hb)).mono ?_
     rintro e w3 ⟨⟨u, rs1, rfl, hu⟩, hl⟩
     replace hb := bthen hb hl
     clear hl
     go_wp2_with fail
     refine (TV.out u rs1 w3 hu).mono ?_
     rintro e w4 ⟨⟨u3, rfl, h3⟩, hl⟩
     replace hb := bthen hb hl
     clear hl hu
     obtain ⟨i0, hi, hz0, hz1, hz2⟩ := info_parts Tryz.infZbipoleref07Log
     have HB4 := Lib.hid hb
     have H3 := Lib.hid h3
     clear hb h3
     go_wp2_with fail
     go_loopw [5, 62] (fun u i wr => ∃ k : Nat, k ≤ N ∧ i = .int .i64 k ∧ wr.ownsRow w4.heap.size 34 2 u k ((rs.reverse.take k).flatMap lV) ∧ Below w4.heap.size w4 wr) (fun _ i _ => N - (intOf i).toNat)
     case atStart => exact ⟨0, by omega, rfl, World.ownsRow_nil _ _ _ _, Below.refl _ _⟩
     case round =>
      obtain ⟨k, hk, rfl, hown, hbel⟩ := hrel
      by_cases hlt : k < N
      ·have hdk : (k : Int) < (N : Int) := by omega
       obtain ⟨m, hm⟩ : ∃ m, m = N - 1 - k := ⟨_, rfl⟩
       have hmN : m < N := by omega
       obtain ⟨r, hr⟩ : ∃ r, rs[m]? = some r := ⟨_, List.getElem?_eq_getElem (by rw [← HN.out]; exact hmN)⟩
       have HVW := HV.out.carry (bthen HB4.out hbel)
       obtain ⟨b, off, cp', he, hcs⟩ := HVW.rw.head (by rw [← HN.out]; omega)
       simp only [Value.slice.injEq] at he
       obtain ⟨rfl, -, rfl⟩ := he
       obtain ⟨c0, c1⟩ := rw2 (hcs m r hr) (show lV r = [.int .i64 r.1, .slice r.2.1 r.2.2.1 r.2.2.2] from rfl)
       have hts : (rs.reverse.take (k + 1)).flatMap lV = (rs.reverse.take k).flatMap lV ++ [.int .i64 r.1, .slice r.2.1 r.2.2.1 r.2.2.2] := by
        rw [rev_at HN.out hlt (by rw [← hm]; exact hr), List.flatMap_append]; simp [lV]
       obtain ⟨rc, ra, rn, rcap⟩ := r
       dsimp only at c0 c1 hts
       have HTS := Lib.hid hts
       have q1 : IntKind.i64.wrap ((N : Int) - 1) = (N : Int) - 1 := IntWalk.i64_in _ (by omega)
       have q2 : IntKind.i64.wrap ((N : Int) - 1 - (k : Int)) = (m : Int) := by
        rw [show (N : Int) - 1 - (k : Int) = (m : Int) by omega]; exact IntWalk.i64_in _ (by omega)
       have q3 : (m : Int) < (N : Int) := by omega
       have q4 : (0 : Int) ≤ (m : Int) := by omega
       have kn := below_new wr (.cells #[.int .i64 rc, .slice ra rn rcap] 34)
       have hsz := hbel.size
       obtain ⟨oa, oc, rfl⟩ := own_slice hown
       clear hcs hr hts hm HVW
       go_wp2_with (at_builtin; refine wpList_append_own _ rfl _ _ 22 rfl w4.heap.size 34 i0 (.agg #[.int .i64 0, .slice none 0 0]) 2 32 Tryz.undZbipoleref07Log hi hz0 hz1 hz2 rfl (by decide) (.slice oa k oc) k _ rfl (own_below hown kn) ⟨wr.heap.size, 0, none⟩ 1 1 [.int .i64 rc, .slice ra rn rcap] rfl rfl (fun j u hj => (Blk.new wr 34 [.int .i64 rc, .slice ra rn rcap]).news j u hj) (by simp [Value.oneCell']) (by unfold maxLen; omega) (by omega) (by have := kn.size; omega) ?_; intro v9 w9 hown9 hgrow9 _)
       have hbel9 := (bthen hbel kn).trans (below_grow (own_below hown kn) (by have := kn.size; omega) hgrow9)
       rw [← HTS.out] at hown9
       clear hown hgrow9 kn hbel c0 c1
       go_wp2
       go_roundw
       case rel => exact ⟨k + 1, by omega, by go_num, hown9, hbel9⟩
       case measure => simp [intOf]; omega
      ·have hkN : k = N := by omega
       have e6 : ¬ (k : Int) < (N : Int) := by omega
       have hout : Rw 2 lV wr u5 rs.reverse := by
        rw [hkN, List.take_of_length_le (by rw [List.length_reverse, ← HN.out]; exact Nat.le_refl _)] at hown
        exact Rw.of_own lV_len hown (by rw [List.length_reverse]; exact HN.out)
       have hb := bthen HB4.out hbel
       have hturn := (HV.out.carry hb).turned hout
       have h3 := H3.out.carry hbel
       clear hown hbel hkN hout
       go_wp2_with fail
       refine (TLg.out _ rs.reverse ls.reverse wr (by rw [List.length_reverse]; have := HL1000.out; omega) (fun t ht => HLT.out t (by simpa using ht)) hturn).mono ?_
       rintro e w5 ⟨⟨u, rs2, rfl, hu⟩, hl⟩
       replace hb := bthen hb hl
       replace h3 := h3.carry hl
       clear hl hturn
       go_wp2_with fail
       refine (TT.out u rs2 w5 hu).mono ?_
       rintro e w6 ⟨⟨u7, rfl, h7⟩, hl⟩
       replace hb := bthen hb hl
       replace h3 := h3.carry hl
       clear hl hu
       go_wp2_with fail
       refine (TL.out w6 (HV.out.carry hb)).mono ?_
       rintro e w7 ⟨⟨u, rs3, rfl, hu⟩, hl⟩
       replace hb := bthen hb hl
       replace h3 := h3.carry hl
       replace h7 := h7.carry hl
       clear hl
       go_wp2_with fail
       refine (TB.out u rs3 w7 hu).mono ?_
       rintro e w8 ⟨⟨u9, rfl, h9⟩, hl⟩
       replace hb := bthen hb hl
       replace h3 := h3.carry hl
       replace h7 := h7.carry hl
       clear hl hu
       go_wp2_with fail
       refine (told_any _ VL w8 (by have := HVL.out; omega) h7).mono ?_
       rintro e w9 ⟨⟨ua, rfl, ha⟩, hl⟩
       replace hb := bthen hb hl
       replace h3 := h3.carry hl
       replace h9 := h9.carry hl
       replace ha : Prs _ _ _ := ha.rw pV_len
       clear hl h7
       go_wp2_with fail
       refine (told_any _ VL w9 (by have := HVL.out; omega) h3).mono ?_
       rintro e w10 ⟨⟨ub, rfl, hbb⟩, hl⟩
       replace hb := bthen hb hl
       replace h3 := h3.carry hl
       replace h9 := h9.carry hl
       replace ha := ha.carry hl
       replace hbb : Prs _ _ _ := hbb.rw pV_len
       clear hl
       go_wp2_with fail
       refine (same_train _ _ VL w10 ha hbb (by have := HVL.out; omega)).mono ?_
       rintro e w11 ⟨rfl, hl⟩
       replace hb := bthen hb hl
       replace h3 := h3.carry hl
       replace h9 := h9.carry hl
       clear hl ha hbb TT TB
       have HB11 := Lib.hid hb
       obtain ⟨b9, p9, he9, _, _⟩ := id h9
       obtain ⟨M9, hM9⟩ : ∃ m, m = BK.length := ⟨_, rfl⟩
       rw [← hM9] at he9
       subst he9
       obtain ⟨b3, p3, he3, -⟩ := h3.slice
       obtain ⟨NV, hNV⟩ : ∃ m, m = VL.length := ⟨_, rfl⟩
       rw [← hNV] at he3
       subst he3
       have H311 := Lib.hid h3
       have H911 := Lib.hid h9
       have HM9 := Lib.hid hM9
       have HNV := Lib.hid hNV
       have hM7 : M9 ≤ N := by have := HBK.out; omega
       have hNV7 : NV ≤ 2000 := by have := HVL.out; omega
       clear hb h3 h9 hM9 hNV
       go_wp2_with fail
       go_loop [105] (fun i => ∃ k : Nat, k ≤ M9 ∧ i = .int .i64 k) (fun i => M9 - (intOf i).toNat)
       case atStart => exact ⟨0, by omega, rfl⟩
       case round =>
        obtain ⟨k, hk, rfl⟩ := hrel
        by_cases hlt : k < M9
        ·have hdk : (k : Int) < (M9 : Int) := by omega
         obtain ⟨bb, oo, cc, he, hcs⟩ := H911.out.head (by rw [← HM9.out]; omega)
         simp only [Value.slice.injEq] at he
         obtain ⟨rfl, -, rfl⟩ := he
         have c9 := hcs k (by rw [← HM9.out]; exact hlt)
         obtain ⟨x, hx⟩ : ∃ x, BK[k]? = some x := ⟨_, List.getElem?_eq_getElem (by rw [← HM9.out]; exact hlt)⟩
         rw [hx, Option.getD_some] at c9
         obtain ⟨m, hxm, hmN, hemp⟩ := HBE.out x (List.mem_of_getElem? hx)
         subst hxm
         obtain ⟨r, hr⟩ : ∃ r, rs[m]? = some r := ⟨_, List.getElem?_eq_getElem (by rw [← HN.out]; exact hmN)⟩
         obtain ⟨t, ht⟩ : ∃ t, ls[m]? = some t := ⟨_, List.getElem?_eq_getElem (by rw [HN2.out]; exact hmN)⟩
         have HVW := HV.out.carry HB11.out
         obtain ⟨b, off, cp', he, hcs2⟩ := HVW.rw.head (by rw [← HN.out]; omega)
         simp only [Value.slice.injEq] at he
         obtain ⟨rfl, -, rfl⟩ := he
         obtain ⟨c0, c1⟩ := rw2 (hcs2 m r hr) (show lV r = [.int .i64 r.1, .slice r.2.1 r.2.2.1 r.2.2.2] from rfl)
         obtain ⟨-, htr⟩ := HVW.ok m r t hr ht
         have hrn := htr.len
         rw [ht, Option.getD_some] at hemp
         rw [hemp] at hrn
         obtain ⟨rc, ra, rn, rcap⟩ := r
         dsimp only [List.length_nil] at c0 c1 hrn
         subst hrn
         have q3 : (m : Int) < (N : Int) := by omega
         have q4 : (0 : Int) ≤ (m : Int) := by omega
         have q5 : ¬ ((m : Int) < 0) := by omega
         have q6 : ¬ ((N : Int) ≤ (m : Int)) := by omega
         clear hcs hcs2 hx hr ht hemp htr HVW
         go_wp2
         go_round
         case rel => exact ⟨k + 1, by omega, by go_num⟩
         case measure => simp [intOf]; omega
        ·have hdk : ¬ (k : Int) < (M9 : Int) := by omega
         go_wp2_with fail
         go_loopw [13, 129] (fun la i wr => ∃ k : Nat, k ≤ NV ∧ i = .int .i64 k ∧ la = .int .i64 (lstV VL k) ∧ Below w11.heap.size w11 wr) (fun _ i _ => NV - (intOf i).toNat)
         case atStart => exact ⟨0, by omega, rfl, rfl, Below.refl _ _⟩
         case round =>
          obtain ⟨k2, hk2, rfl, rfl, hbel⟩ := hrel
          by_cases hlt2 : k2 < NV
          ·have hdk2 : (k2 : Int) < (NV : Int) := by omega
           obtain ⟨x, hx⟩ : ∃ x, VL[k2]? = some x := ⟨_, List.getElem?_eq_getElem (by rw [← HNV.out]; exact hlt2)⟩
           obtain ⟨hx0, hx1, hxn, hxm⟩ := HVA.out k2 x hx
           have hlast : lstV VL k2 < x.1 := by
            cases k2 with
            | zero => show (-1 : Int) < x.1; omega
            | succ j =>
              obtain ⟨y, hy⟩ : ∃ y, VL[j]? = some y := ⟨_, List.getElem?_eq_getElem (by rw [← HNV.out]; omega)⟩
              show (VL[j]?.getD (0, 0)).1 < x.1
              rw [hy]; exact HVN.out j y x hy hx
           have hnext : lstV VL (k2 + 1) = x.1 := by show (VL[k2]?.getD (0, 0)).1 = x.1; rw [hx]; rfl
           obtain ⟨bb, oo, cc, he, hcs⟩ := (H311.out.carry hbel).head (by rw [← HNV.out]; omega)
           simp only [Value.slice.injEq] at he
           obtain ⟨rfl, -, rfl⟩ := he
           obtain ⟨e0, e1⟩ := rw2 (hcs k2 x hx) (show pV x = [.int .i64 x.1, .int .i64 x.2] from rfl)
           obtain ⟨x0, x1⟩ := x
           dsimp only at hx0 hx1 hxn hxm hlast hnext e0 e1
           obtain ⟨LS, hLS⟩ : ∃ l, l = lstV VL k2 := ⟨_, rfl⟩
           rw [← hLS] at hlast ⊢
           obtain ⟨S0, hS0⟩ : ∃ e, e = withinE x1 0 4095 := ⟨_, rfl⟩
           have TSet := Lib.hid (fun W => CheckSetR_any x1 W)
           rw [← hS0] at TSet
           obtain rfl : S0 = 0 := hS0.trans (withinE_zero.2 hx1)
           have HNX := Lib.hid hnext
           have HX1 := Lib.hid hx1
           have HXN := Lib.hid hxn
           have HXM := Lib.hid hxm
           have hx9 := hx0.2
           clear hcs hx hx0 hx1 hxn hxm hnext hLS hS0
           go_upto_region 26 with fail
           obtain ⟨W15, hW15⟩ : ∃ v, v = World.alloc wr (Obj.cells #[.int .i64 x0, .int .i64 x1] 41) := ⟨_, rfl⟩
           have kW15 : Below wr.heap.size wr W15 := by rw [hW15]; exact below_new _ _
           have iW15 : Blk W15 (wr.heap.size) 41 [.int .i64 x0, .int .i64 x1] := by rw [hW15]; exact Blk.new _ _ _
           have sW15 : W15.heap.size = wr.heap.size + 1 := by rw [hW15]; simp
           rw [← hW15]
           clear hW15
           have d0 := iW15.cell (j := 0) (v := .int .i64 x0) rfl
           have d1 := iW15.cell (j := 1) (v := .int .i64 x1) rfl
           replace hbel := bthen hbel kW15
           obtain ⟨B15, hB15⟩ : ∃ g, g = wr.heap.size := ⟨_, rfl⟩
           rw [← hB15] at iW15 sW15 d0 d1 ⊢
           have i15 := iW15
           have SW15 := Lib.hid sW15
           clear kW15 e0 e1 iW15 hB15 sW15
           go_wp2_with fail
           refine (TSet.out W15).mono ?_
           rintro e w12 ⟨rfl, rfl⟩
           clear d0 d1 TSet
           go_upto_region 28 with fail
           obtain ⟨W18, hW18⟩ : ∃ v, v = World.alloc W15 (Obj.cells #[.int .i64 0, .int .i64 0, .int .i64 0, .int .i64 0, .int .i64 0, .int .i64 0, .int .i64 0, .int .i64 0, .int .i64 0, .int .i64 0, .int .i64 0, .int .i64 0] 43) := ⟨_, rfl⟩
           have kW18 : Below W15.heap.size W15 W18 := by rw [hW18]; exact below_new _ _
           have iW18 : BlkI W18 (W15.heap.size) 43 (List.replicate 12 0) := by rw [hW18]; exact BlkI.new W15 43 (List.replicate 12 0)
           have sW18 : W18.heap.size = W15.heap.size + 1 := by rw [hW18]; simp
           rw [← hW18]
           clear hW18
           have hB11 : w11.heap.size ≤ W15.heap.size := hbel.size
           replace hbel := bthen hbel kW18
           replace i15 := i15.carry kW18
           have hBB : B15 < W15.heap.size := by have := SW15.out; omega
           obtain ⟨B18, hB18⟩ : ∃ g, g = W15.heap.size := ⟨_, rfl⟩
           rw [← hB18] at iW18 hBB hB11 ⊢
           have i18 : BlkI W18 B18 43 (insL (votL x0 (flatL ls 0))) := iW18
           clear kW18 iW18 sW18 SW15 hB18
           go_wp2_with fail
           go_loopw [16, 150] (fun hv i wx => ∃ j : Nat, j ≤ N ∧ i = .int .i64 j ∧ hv = .int .i64 ((votL x0 (flatL ls j)).length : Int) ∧ BlkI wx B18 43 (insL (votL x0 (flatL ls j))) ∧ Blk wx B15 41 [.int .i64 x0, .int .i64 x1] ∧ Below w11.heap.size w11 wx) (fun _ i _ => N - (intOf i).toNat)
           case atStart => exact ⟨0, by omega, rfl, rfl, i18, i15, hbel⟩
           case round =>
            clear i18 i15 hbel
            obtain ⟨j, hj, rfl, rfl, i18, i15, hbel⟩ := hrel
            by_cases hj2 : j < N
            ·have hdj : (j : Int) < (N : Int) := by omega
             obtain ⟨r, hr⟩ : ∃ r, rs[j]? = some r := ⟨_, List.getElem?_eq_getElem (by rw [← HN.out]; exact hj2)⟩
             obtain ⟨g, hg⟩ : ∃ g, ls[j]? = some g := ⟨_, List.getElem?_eq_getElem (by rw [HN2.out]; exact hj2)⟩
             have HVW := HV.out.carry (bthen HB11.out hbel)
             obtain ⟨b, off, cp', he, hcs⟩ := HVW.rw.head (by rw [← HN.out]; omega)
             simp only [Value.slice.injEq] at he
             obtain ⟨rfl, -, rfl⟩ := he
             obtain ⟨c0, c1⟩ := rw2 (hcs j r hr) (show lV r = [.int .i64 r.1, .slice r.2.1 r.2.2.1 r.2.2.2] from rfl)
             obtain ⟨-, htr⟩ := HVW.ok j r g hr hg
             have htok := (HOK.out.rng j g hg).2
             have hvs := votF_succ HOK.out hg x0
             have hle := votF_len HOK.out x0 j
             have hrg := votF_rng HOK.out x0 (j + 1)
             have TAt := Lib.hid (fun W (h : Prs W (.slice r.2.1 r.2.2.1 r.2.2.2) g.2) => AtR_any (.slice r.2.1 r.2.2.1 r.2.2.2) g.2 x0 W (by have := htok.len; omega) h)
             obtain ⟨rc, ra, rn, rcap⟩ := r
             dsimp only at c0 c1 htr TAt
             obtain ⟨D, hD⟩ : ∃ d, d = atD g.2 x0 := ⟨_, rfl⟩
             obtain ⟨B, hBt⟩ : ∃ d, d = atB g.2 x0 := ⟨_, rfl⟩
             rw [← hD, ← hBt] at hvs TAt
             obtain ⟨L0, hL0⟩ : ∃ d, d = votL x0 (flatL ls j) := ⟨_, rfl⟩
             rw [← hL0] at hvs hle i18 ⊢
             rw [hvs] at hrg
             obtain ⟨Q0, hQ0⟩ : ∃ q : Int, q = (L0.length : Int) := ⟨_, rfl⟩
             rw [← hQ0] at ⊢
             have hq0 : 0 ≤ Q0 ∧ Q0 ≤ 100 := by omega
             have qw : IntKind.i64.wrap (Q0 + 1) = Q0 + 1 := IntWalk.i64_in _ (by omega)
             have HVS := Lib.hid hvs
             have HQ0 := Lib.hid hQ0
             have HRG := Lib.hid hrg
             clear hcs hr hg htok hvs hle hrg hD hBt hL0 hQ0 HVW
             go_upto_region 31 with fail
             obtain ⟨W20, hW20⟩ : ∃ v, v = World.alloc wr (Obj.cells #[.int .i64 rc, .slice ra rn rcap] 34) := ⟨_, rfl⟩
             have kW20 : Below wr.heap.size wr W20 := by rw [hW20]; exact below_new _ _
             have iW20 : Blk W20 (wr.heap.size) 34 [.int .i64 rc, .slice ra rn rcap] := by rw [hW20]; exact Blk.new _ _ _
             have sW20 : W20.heap.size = wr.heap.size + 1 := by rw [hW20]; simp
             rw [← hW20]
             clear hW20
             have f1 := iW20.cell (j := 1) (v := .slice ra rn rcap) rfl
             replace htr := htr.carry kW20
             replace i18 := i18.carry kW20
             replace i15 := i15.carry kW20
             replace hbel := bthen hbel kW20
             have d0 := i15.cell (j := 0) (v := .int .i64 x0) rfl
             clear kW20 sW20 iW20 c0 c1
             go_wp2_with fail
             refine (TAt.out W20 htr).mono ?_
             rintro e w13 ⟨rfl, rfl⟩
             clear f1 d0 TAt htr
             cases B with
             | false =>
               have HV2 := Lib.hid (HVS.out.trans (by rw [if_neg (by decide), List.append_nil]))
               clear HVS HRG
               go_wp2
               go_roundw
               case rel => exact ⟨j + 1, by omega, by go_num, by rw [HV2.out, HQ0.out], by rw [HV2.out]; exact i18, i15, hbel⟩
               case measure => simp [intOf]; omega
             | true =>
               have HV2 := Lib.hid (HVS.out.trans (by rw [if_pos rfl]))
               have hDr : 0 ≤ D ∧ D ≤ 4095 := HRG.out D (by rw [if_pos rfl]; simp)
               have HDR := Lib.hid hDr
               rw [← insM_zero L0 D] at i18
               obtain ⟨W21, hW21⟩ : ∃ x, x = W20 := ⟨_, rfl⟩
               subst hW21
               clear HVS HRG hDr
               go_wp2_with fail
               go_loopw [166] (fun i wy => ∃ m : Nat, m ≤ 12 ∧ i = .int .i64 m ∧ BlkI wy B18 43 (insM L0 D m) ∧ Blk wy B15 41 [.int .i64 x0, .int .i64 x1] ∧ Below w11.heap.size w11 wy) (fun i _ => 12 - (intOf i).toNat)
               case atStart => exact ⟨0, by omega, rfl, i18, i15, hbel⟩
               case round =>
                clear i18 i15 hbel
                obtain ⟨m, hm, rfl, i18, i15, hbel⟩ := hrel
                by_cases hm2 : m < 12
                ·have hdm : (m : Int) < 12 := by omega
                 have q1 := bit_and m HDR.out
                 have c18 := BlkI.cell i18 (j := m) (by rw [insM_len]; exact hm2)
                 rw [insM_at L0 D hm2] at c18
                 have hset := insM_set L0 D m
                 have hyr := yesC_rng m L0
                 obtain ⟨Y, hY⟩ : ∃ y, y = yesC m L0 := ⟨_, rfl⟩
                 rw [← hY] at c18 hset hyr
                 by_cases hbt : bitV D m = 1
                 ·rw [hbt] at q1 hset
                  have HSET := Lib.hid hset
                  have q2 : IntKind.i64.wrap (Y + 1) = Y + 1 := IntWalk.i64_in _ (by have := HQ0.out; omega)
                  have f18 := Blk.frozen i18 m
                  have j18 := BlkI.set i18 m (Y + 1)
                  have j15 := Blk.other i15 (show B15 ≠ B18 by omega) (j := m) (.int .i64 (Y + 1))
                  have hbel2 := hbel.setCell (p := ⟨B18, m, none⟩) hB11 (.int .i64 (Y + 1))
                  rw [HSET.out] at j18
                  have J18 := Lib.hid j18
                  have J15 := Lib.hid j15
                  have HB2 := Lib.hid hbel2
                  clear hset hyr hY hbt j18 j15 hbel2 i18 i15 hbel
                  go_wp2
                  go_roundw
                  case rel => exact ⟨m + 1, by omega, by go_num, J18.out, J15.out, HB2.out⟩
                  case measure => simp [intOf]; omega
                 ·have hb0 : bitV D m = 0 := by have := bitV_rng D m; omega
                  rw [hb0] at q1
                  have hsm := insM_same L0 D hm2 hb0
                  have HSM := Lib.hid hsm
                  clear hset hyr hY hbt hb0 hsm c18
                  go_wp2
                  go_roundw
                  case rel => exact ⟨m + 1, by omega, by go_num, by rw [HSM.out]; exact i18, i15, hbel⟩
                  case measure => simp [intOf]; omega
                ·obtain rfl : m = 12 := by omega
                 have i18' : BlkI wr B18 43 (insL (L0 ++ [D])) := by rw [← insM_end]; exact i18
                 clear i18
                 go_wp2
                 go_roundw
                 case rel => exact ⟨j + 1, by omega, by go_num, by rw [HV2.out, List.length_append, HQ0.out]; simp, by rw [HV2.out]; exact i18', i15, hbel⟩
                 case measure => simp [intOf]; omega
            ·have hjN : j = N := by omega
             have e7 : ¬ (j : Int) < (N : Int) := by omega
             rw [hjN] at i18 ⊢
             have hle := votF_len HOK.out x0 N
             have hxn := HXN.out
             have hxm := HXM.out
             obtain ⟨L, hL⟩ : ∃ l, l = votL x0 (flatL ls N) := ⟨_, rfl⟩
             rw [← hL] at i18 hle hxn hxm ⊢
             obtain ⟨Q, hQ⟩ : ∃ q : Int, q = (L.length : Int) := ⟨_, rfl⟩
             rw [← hQ]
             have hq1 : 0 ≤ Q ∧ Q ≤ 100 := by omega
             have qw : IntKind.i64.wrap (2 * Q) = 2 * Q := IntWalk.i64_in _ (by omega)
             have q2 : ¬ (2 * Q ≤ (N : Int)) := by omega
             have hld := load12 (insL_len L) i18
             have HQ := Lib.hid hQ
             have HXM2 := Lib.hid hxm
             clear hjN hle hxn hxm hL hQ
             go_wp2_with (refine wpList_load rfl _ _ rfl hld ?_)
             clear hld
             go_loop [191] (fun i => ∃ m : Nat, m ≤ 12 ∧ i = .int .i64 m) (fun i => 12 - (intOf i).toNat)
             case atStart => exact ⟨0, by omega, rfl⟩
             case round =>
              obtain ⟨m, hm, rfl⟩ := hrel
              by_cases hm2 : m < 12
              ·have hdm : (m : Int) < 12 := by omega
               have hidx := fun W => idx12 (insL_len L) hm2 W
               rw [insL_at L hm2] at hidx
               have d1 := i15.cell (j := 1) (v := .int .i64 x1) rfl
               have q1 := bit_and m HX1.out
               have hbit := majK_bit L (k := m) 12
               rw [← HXM2.out, ← HQ.out] at hbit
               have hyr := yesC_rng m L
               rw [← HQ.out] at hyr
               obtain ⟨Y, hY⟩ : ∃ y, y = yesC m L := ⟨_, rfl⟩
               rw [← hY] at hidx hbit hyr
               have qy : IntKind.i64.wrap (2 * Y) = 2 * Y := IntWalk.i64_in _ (by omega)
               by_cases hc : Q < 2 * Y
               ·rw [if_pos ⟨hm2, hc⟩] at hbit
                rw [hbit] at q1
                clear hbit hyr hY
                go_wp2
                go_round
                case rel => exact ⟨m + 1, by omega, by go_num⟩
                case measure => simp [intOf]; omega
               ·rw [if_neg (fun h => hc h.2)] at hbit
                rw [hbit] at q1
                clear hbit hyr hY
                go_wp2
                go_round
                case rel => exact ⟨m + 1, by omega, by go_num⟩
                case measure => simp [intOf]; omega
              ·obtain rfl : m = 12 := by omega
               have d0 := i15.cell (j := 0) (v := .int .i64 x0) rfl
               clear i18
               go_wp2
               go_roundw
               case rel => exact ⟨k2 + 1, by omega, by go_num, by rw [HNX.out], hbel⟩
               case measure => simp [intOf]; omega
          ·have hdk2 : ¬ (k2 : Int) < (NV : Int) := by omega
           go_wp2_with fail
           go_loopw [212] (fun i wx => ∃ j : Nat, j ≤ N ∧ i = .int .i64 j ∧ Below w11.heap.size w11 wx) (fun i _ => N - (intOf i).toNat)
           case atStart => exact ⟨0, by omega, rfl, hbel⟩
           case round =>
            clear hbel
            obtain ⟨j, hj, rfl, hbel⟩ := hrel
            by_cases hj2 : j < N
            ·have hdj : (j : Int) < (N : Int) := by omega
             obtain ⟨r, hr⟩ : ∃ r, rs[j]? = some r := ⟨_, List.getElem?_eq_getElem (by rw [← HN.out]; exact hj2)⟩
             obtain ⟨g, hg⟩ : ∃ g, ls[j]? = some g := ⟨_, List.getElem?_eq_getElem (by rw [HN2.out]; exact hj2)⟩
             obtain ⟨r0, hr0⟩ : ∃ r, rs[0]? = some r := ⟨_, List.getElem?_eq_getElem (by rw [← HN.out]; omega)⟩
             obtain ⟨g0, hg0⟩ : ∃ g, ls[0]? = some g := ⟨_, List.getElem?_eq_getElem (by rw [HN2.out]; omega)⟩
             have HVW := HV.out.carry (bthen HB11.out hbel)
             obtain ⟨b, off, cp', he, hcs⟩ := HVW.rw.head (by rw [← HN.out]; omega)
             simp only [Value.slice.injEq] at he
             obtain ⟨rfl, -, rfl⟩ := he
             obtain ⟨c0, c1⟩ := rw2 (hcs j r hr) (show lV r = [.int .i64 r.1, .slice r.2.1 r.2.2.1 r.2.2.2] from rfl)
             obtain ⟨l0, l1⟩ := rw2 (hcs 0 r0 hr0) (show lV r0 = [.int .i64 r0.1, .slice r0.2.1 r0.2.2.1 r0.2.2.2] from rfl)
             obtain ⟨hrg, htr⟩ := HVW.ok j r g hr hg
             obtain ⟨-, htr0⟩ := HVW.ok 0 r0 g0 hr0 hg0
             obtain ⟨hcr, htok⟩ := HOK.out.rng j g hg
             have htok0 := (HOK.out.rng 0 g0 hg0).2
             have hgl := htok.len
             have hgl0 := htok0.len
             obtain ⟨rc, ra, rn, rcap⟩ := r
             obtain ⟨rd, sa, sn, scap⟩ := r0
             obtain ⟨gc, gt⟩ := g
             obtain ⟨gd, g0t⟩ := g0
             dsimp only at c0 c1 l0 l1 htr htr0 hrg hcr htok htok0 hgl hgl0
             subst hrg
             have l1 : wr.cell? ⟨b, off + 1, none⟩ = some (.slice sa sn scap) := by simpa using l1
             have V1 := vote1 (c := rc) ⟨hcr, htok⟩
             have V3 := vote3 hcr htok htok0
             obtain ⟨E1, hE1⟩ : ∃ e, e = votE [(rc, gt)] := ⟨_, rfl⟩
             obtain ⟨R1, hR1⟩ : ∃ e, e = votR [(rc, gt)] := ⟨_, rfl⟩
             have T1 := Lib.hid (fun u rs' W (h : Lgs W u rs' [(rc, gt)]) => TVg.out u rs' [(rc, gt)] W (by simp) (fun t ht => by simp at ht; subst ht; dsimp only; omega) h)
             rw [← hE1, ← hR1, hE1.trans V1.1, hR1.trans V1.2] at T1
             clear hE1 hR1 E1 R1
             obtain ⟨z1, hz1'⟩ : ∃ z, z = (rc + 1) % 256 := ⟨_, rfl⟩
             obtain ⟨z2, hz2'⟩ : ∃ z, z = (rc + 2) % 256 := ⟨_, rfl⟩
             rw [← hz1', ← hz2'] at V3
             obtain ⟨E1, hE1⟩ : ∃ e, e = votE [(rc, gt), (z1, gt), (z2, g0t)] := ⟨_, rfl⟩
             obtain ⟨R1, hR1⟩ : ∃ e, e = votR [(rc, gt), (z1, gt), (z2, g0t)] := ⟨_, rfl⟩
             have T3 := Lib.hid (fun u rs' W (h : Lgs W u rs' [(rc, gt), (z1, gt), (z2, g0t)]) => TVg.out u rs' [(rc, gt), (z1, gt), (z2, g0t)] W (by simp) (fun t ht => by simp at ht; rcases ht with rfl | rfl | rfl <;> (dsimp only; omega)) h)
             rw [← hE1, ← hR1, hE1.trans V3.1, hR1.trans V3.2] at T3
             clear hE1 hR1 E1 R1
             have L1 := Lib.hid (fun u rs' W (h : Lgs W u rs' [(rc, gt)]) => TLg.out u rs' [(rc, gt)] W (by simp) (fun t ht => by simp at ht; subst ht; dsimp only; omega) h)
             have L3 := Lib.hid (fun u rs' W (h : Lgs W u rs' [(rc, gt), (z1, gt), (z2, g0t)]) => TLg.out u rs' [(rc, gt), (z1, gt), (z2, g0t)] W (by simp) (fun t ht => by simp at ht; rcases ht with rfl | rfl | rfl <;> (dsimp only; omega)) h)
             have dN : 0 < N := by omega
             have w1 : IntKind.i64.wrap (rc + 1) = rc + 1 := IntWalk.i64_in _ (by omega)
             have w2' : IntKind.i64.wrap (rc + 2) = rc + 2 := IntWalk.i64_in _ (by omega)
             have y1 : Int.tmod (rc + 1) 256 = z1 := by rw [hz1', Int.tmod_eq_emod_of_nonneg (by omega)]
             have y2 : Int.tmod (rc + 2) 256 = z2 := by rw [hz2', Int.tmod_eq_emod_of_nonneg (by omega)]
             have x1 : (rc + 1) % 256 = z1 := hz1'.symm
             have x2 : (rc + 2) % 256 = z2 := hz2'.symm
             clear hcs hr hg hr0 hg0 htok htok0 V1 V3 hcr HVW l0 hz1' hz2'
             go_upto_region 54 with fail
             obtain ⟨W27, hW27⟩ : ∃ v, v = World.alloc wr (Obj.cells #[.int .i64 rc, .slice ra rn rcap] 34) := ⟨_, rfl⟩
             have kW27 : Below wr.heap.size wr W27 := by rw [hW27]; exact below_new _ _
             have iW27 : Blk W27 (wr.heap.size) 34 [.int .i64 rc, .slice ra rn rcap] := by rw [hW27]; exact Blk.new _ _ _
             have sW27 : W27.heap.size = wr.heap.size + 1 := by rw [hW27]; simp
             rw [← hW27]
             clear hW27
             replace htr := htr.carry kW27
             replace htr0 := htr0.carry kW27
             replace l1 := cellb l1 kW27
             replace hbel := bthen hbel kW27
             obtain ⟨B27, hB27⟩ : ∃ g, g = wr.heap.size := ⟨_, rfl⟩
             rw [← hB27] at iW27 ⊢
             have i27 := iW27
             have f0 := i27.cell (j := 0) (v := .int .i64 rc) rfl
             have f1 := i27.cell (j := 1) (v := .slice ra rn rcap) rfl
             clear iW27 kW27 sW27 hB27 c0 c1
             go_wp2_with fail
             obtain ⟨W28, hW28⟩ : ∃ v, v = World.alloc W27 (Obj.cells #[.int .i64 rc, .slice ra rn rcap] 34) := ⟨_, rfl⟩
             have kW28 : Below W27.heap.size W27 W28 := by rw [hW28]; exact below_new _ _
             have iW28 : Blk W28 (W27.heap.size) 34 [.int .i64 rc, .slice ra rn rcap] := by rw [hW28]; exact Blk.new _ _ _
             have sW28 : W28.heap.size = W27.heap.size + 1 := by rw [hW28]; simp
             rw [← hW28]
             clear hW28
             replace htr := htr.carry kW28
             replace htr0 := htr0.carry kW28
             replace l1 := cellb l1 kW28
             replace hbel := bthen hbel kW28
             replace i27 := i27.carry kW28
             have hL := lgs1 iW28 htr
             generalize W27.heap.size = B28 at hL ⊢
             clear iW28 kW28 sW28 f0 f1
             refine (L1.out _ _ W28 hL).mono ?_
             rintro e W29 ⟨⟨u, rs4, rfl, hu⟩, hl⟩
             replace htr := htr.carry hl
             replace htr0 := htr0.carry hl
             replace l1 := cellb l1 hl
             replace hbel := bthen hbel hl
             replace i27 := i27.carry hl
             clear hl hL
             go_wp2_with fail
             refine (T1.out u rs4 W29 hu).mono ?_
             rintro e W30 ⟨⟨u28, rfl, h28⟩, hl⟩
             replace htr := htr.carry hl
             replace htr0 := htr0.carry hl
             replace l1 := cellb l1 hl
             replace hbel := bthen hbel hl
             replace i27 := i27.carry hl
             clear hl hu
             have f0 := i27.cell (j := 0) (v := .int .i64 rc) rfl
             have f1 := i27.cell (j := 1) (v := .slice ra rn rcap) rfl
             go_upto_region 56 with fail
             obtain ⟨W31, hW31⟩ : ∃ v, v = World.alloc W30 (Obj.cells #[.int .i64 z1, .slice ra rn rcap] 34) := ⟨_, rfl⟩
             have kW31 : Below W30.heap.size W30 W31 := by rw [hW31]; exact below_new _ _
             have iW31 : Blk W31 (W30.heap.size) 34 [.int .i64 z1, .slice ra rn rcap] := by rw [hW31]; exact Blk.new _ _ _
             have sW31 : W31.heap.size = W30.heap.size + 1 := by rw [hW31]; simp
             rw [← hW31]
             clear hW31
             replace htr := htr.carry kW31
             replace htr0 := htr0.carry kW31
             replace l1 := cellb l1 kW31
             replace hbel := bthen hbel kW31
             replace i27 := i27.carry kW31
             replace h28 := h28.carry kW31
             obtain ⟨B30, hB30⟩ : ∃ g, g = W30.heap.size := ⟨_, rfl⟩
             rw [← hB30] at iW31 ⊢
             have i30 := iW31
             replace f0 := i27.cell (j := 0) (v := .int .i64 rc) rfl
             clear iW31 kW31 sW31 f1 hB30
             refine wp_region_held_drew (S := (fun W => W.cell? ⟨B27, 0, none⟩ = some (.int .i64 rc) ∧ W.cell? ⟨b, off + 1, none⟩ = some (.slice sa sn scap))) (by kernel_rfl) ⟨cellb f0 (Below.refl _ _).drew, cellb l1 (Below.refl _ _).drew⟩ (fun hHeld0 => ?_)
             obtain ⟨wzd, hwz⟩ : ∃ v, v = W31.drew := ⟨_, rfl⟩
             rw [← hwz] at hHeld0 ⊢
             have hbzd : Below W31.heap.size W31 wzd := by rw [hwz]; exact (Below.refl _ _).drew
             have hlzd : Below W31.heap.size W31 wzd := by rw [hwz]; exact (Below.refl _ _).drew
             clear hwz hlzd
             refine wpAnyH_take (i := 0) (oi := ⟨some 230, .fieldAddr 34 (.tmp 27) 0, 0, "law.go:458", #[], none⟩) (v := ?_) rfl (by kernel_rfl) (by kernel_rfl) (by kernel_rfl) (fun _ _ _ h => h) (Or.inl ⟨by rfl, ?_⟩) (by assumption) ?_
             rotate_left
             ·(intro w hSw; (try dsimp only at hSw); go_simp); (try with_reducible rfl)
             try simp only [Act.put, zS]
             refine wpAnyH_take (i := 1) (oi := ⟨some 231, .load 3 (.tmp 230), 3, "law.go:458", #[⟨0, .data⟩], none⟩) (v := ?_) rfl (by kernel_rfl) (by kernel_rfl) (by kernel_rfl) (fun _ _ _ h => h) (Or.inl ⟨by rfl, ?_⟩) (by assumption) ?_
             rotate_left
             ·(intro w hSw; (try dsimp only at hSw); go_simp); (try with_reducible rfl)
             try simp only [Act.put, zS]
             refine wpAnyH_take (i := 2) (oi := ⟨some 232, .binOp .add 3 (.tmp 231) (.const (.int .i64 2)) 3, 3, "law.go:458", #[⟨1, .data⟩], none⟩) (v := ?_) rfl (by kernel_rfl) (by kernel_rfl) (by kernel_rfl) (fun _ _ _ h => h) (Or.inl ⟨by rfl, ?_⟩) (by assumption) ?_
             rotate_left
             ·(intro w hSw; (try dsimp only at hSw); go_simp); (try with_reducible rfl)
             try simp only [Act.put, zS]
             refine wpAnyH_take (i := 3) (oi := ⟨some 233, .binOp .rem 3 (.tmp 232) (.const (.int .i64 256)) 3, 3, "law.go:458", #[⟨2, .data⟩], none⟩) (v := ?_) rfl (by kernel_rfl) (by kernel_rfl) (by kernel_rfl) (fun _ _ _ h => h) (Or.inl ⟨by rfl, ?_⟩) (by assumption) ?_
             rotate_left
             ·(intro w hSw; (try dsimp only at hSw); go_simp); (try with_reducible rfl)
             try simp only [Act.put, zS]
             refine wpAnyH_take (i := 4) (oi := ⟨some 234, .move (.tmp 0), 22, "law.go:458", #[], none⟩) (v := ?_) rfl (by kernel_rfl) (by kernel_rfl) (by kernel_rfl) (fun _ _ _ h => h) (Or.inl ⟨by rfl, ?_⟩) (by assumption) ?_
             rotate_left
             ·(intro w hSw; (try dsimp only at hSw); go_simp); (try with_reducible rfl)
             try simp only [Act.put, zS]
             refine wpAnyH_take (i := 5) (oi := ⟨some 235, .indexAddr 22 (.tmp 234) (.const (.int .i64 0)), 0, "law.go:458", #[⟨4, .data⟩], none⟩) (v := ?_) rfl (by kernel_rfl) (by kernel_rfl) (by kernel_rfl) (fun _ _ _ h => h) (Or.inl ⟨by rfl, ?_⟩) (by assumption) ?_
             rotate_left
             ·(intro w hSw; (try dsimp only at hSw); go_simp); (try with_reducible rfl)
             try simp only [Act.put, zS]
             refine wpAnyH_take (i := 6) (oi := ⟨some 236, .fieldAddr 34 (.tmp 235) 1, 0, "law.go:458", #[⟨5, .data⟩], none⟩) (v := ?_) rfl (by kernel_rfl) (by kernel_rfl) (by kernel_rfl) (fun _ _ _ h => h) (Or.inl ⟨by rfl, ?_⟩) (by assumption) ?_
             rotate_left
             ·(intro w hSw; (try dsimp only at hSw); go_simp); (try with_reducible rfl)
             try simp only [Act.put, zS]
             refine wpAnyH_take (i := 7) (oi := ⟨some 237, .load 32 (.tmp 236), 32, "law.go:458", #[⟨6, .data⟩], none⟩) (v := ?_) rfl (by kernel_rfl) (by kernel_rfl) (by kernel_rfl) (fun _ _ _ h => h) (Or.inl ⟨by rfl, ?_⟩) (by assumption) ?_
             rotate_left
             ·(intro w hSw; (try dsimp only at hSw); go_simp); (try with_reducible rfl)
             try simp only [Act.put, zS]
             refine wpAnyH_take (i := 8) (oi := ⟨some 238, .build 34 #[(0, .tmp 233), (1, .tmp 237)], 34, "law.go:458", #[⟨3, .data⟩, ⟨7, .data⟩], none⟩) (v := ?_) rfl (by kernel_rfl) (by kernel_rfl) (by kernel_rfl) (fun _ _ _ h => h) (Or.inl ⟨by rfl, ?_⟩) (by assumption) ?_
             rotate_left
             ·(intro w hSw; (try dsimp only at hSw); go_simp); (try with_reducible rfl)
             try simp only [Act.put, zS]
             refine wpAnyH_ready (rs := [9]) (by kernel_rfl) (by simp) ?_
             refine (AllReadyH.cons (o := ⟨some 31, .alloc 34, 0, "law.go:458", #[], none⟩) rfl (fun K hK => ?_) AllReadyH.nil)
             go_simp
             obtain ⟨wz9, hwz⟩ : ∃ v, v = wzd.alloc (Obj.cells #[.int .i64 0, .slice none 0 0] 34) := ⟨_, rfl⟩
             rw [← hwz]
             have hl : Below wzd.heap.size wzd wz9 := by rw [hwz]; exact below_new _ _
             have hbz9 := bthen hbzd hl
             have i31 : Blk wz9 wzd.heap.size 34 [.int .i64 0, .slice none 0 0] := by rw [hwz]; exact Blk.new _ _ _
             have hG31 : W31.heap.size ≤ wzd.heap.size := (hbzd).size
             generalize wzd.heap.size = G31 at i31 hG31 ⊢
             clear hwz
             clear hl
             refine hK.out _ _ ⟨cellb f0 hbz9, cellb l1 hbz9⟩ (fun hHeld1 => ?_)
             clear hK K hHeld0
             try simp only [Act.put, zS]
             refine wpAnyH_ready (rs := [10]) (by kernel_rfl) (by simp) ?_
             refine (AllReadyH.cons (o := ⟨none, .store 34 (.tmp 31) (.tmp 238), 0, "law.go:458", #[⟨9, .data⟩, ⟨8, .data⟩, ⟨0, .phase⟩, ⟨1, .phase⟩, ⟨2, .phase⟩, ⟨3, .phase⟩, ⟨4, .phase⟩, ⟨5, .phase⟩, ⟨6, .phase⟩, ⟨7, .phase⟩, ⟨8, .phase⟩, ⟨9, .phase⟩], none⟩) rfl (fun K hK => ?_) AllReadyH.nil)
             have fr0 := i31.frozen 0
             have fr1 := i31.frozen 1
             have g0 := i31.cell (j := 0) (v := .int .i64 0) rfl
             have g1 := i31.cell (j := 1) (v := .slice none 0 0) rfl
             go_simp
             obtain ⟨wz10, hwz⟩ : ∃ v, v = ((wz9.setCell ⟨G31, 0, none⟩ (.int .i64 z2)).setCell ⟨G31, 1, none⟩ (.slice sa sn scap)) := ⟨_, rfl⟩
             rw [← hwz]
             have hbz10 : Below W31.heap.size W31 wz10 := by rw [hwz]; exact below_setC (below_setC hbz9 G31 0 hG31 (.int .i64 z2)) G31 1 hG31 (.slice sa sn scap)
             have j31 := (i31.set 0 (.int .i64 z2)).set 1 (.slice sa sn scap)
             rw [← hwz] at j31
             clear hwz
             refine hK.out _ _ ⟨cellb f0 hbz10, cellb l1 hbz10⟩ (fun hHeld2 => ?_)
             clear hK K hHeld1
             try simp only [Act.put, zS]
             refine wpAnyH_done (by kernel_rfl) ?_ _
             clear hHeld2
             have hb2 := hbz10
             obtain ⟨W32, hW32⟩ : ∃ v, v = wz10 := ⟨_, rfl⟩
             rw [← hW32] at hb2 j31 ⊢
             clear hW32
             rename_i W32
             replace i31 : Blk W32 G31 34 [.int .i64 z2, .slice sa sn scap] := j31
             replace htr := htr.carry hb2
             replace htr0 := htr0.carry hb2
             replace hbel := bthen hbel hb2
             replace i27 := i27.carry hb2
             replace i30 := i30.carry hb2
             replace h28 := h28.carry hb2
             clear hb2 j31 f0 l1
             have f1 := i27.cell (j := 1) (v := .slice ra rn rcap) rfl
             go_upto_region 57 with fail
             have htq := htr
             refine wp_region_held_drew (S := (fun W => W.cell? ⟨B27, 1, none⟩ = some (.slice ra rn rcap))) (by kernel_rfl) (cellb f1 (Below.refl _ _).drew) (fun hHeld0 => ?_)
             obtain ⟨wzd, hwz⟩ : ∃ v, v = W32.drew := ⟨_, rfl⟩
             rw [← hwz] at hHeld0 ⊢
             have hbzd : Below W32.heap.size W32 wzd := by rw [hwz]; exact (Below.refl _ _).drew
             have hlzd : Below W32.heap.size W32 wzd := by rw [hwz]; exact (Below.refl _ _).drew
             have h28 := h28.carry hlzd
             have htq := htq.carry hlzd
             clear hwz hlzd
             refine wpAnyH_take (i := 0) (oi := ⟨some 239, .move (.tmp 29), 27, "law.go:459", #[], none⟩) (v := ?_) rfl (by kernel_rfl) (by kernel_rfl) (by kernel_rfl) (fun _ _ _ h => h) (Or.inl ⟨by rfl, ?_⟩) (by assumption) ?_
             rotate_left
             ·(intro w hSw; (try dsimp only at hSw); go_simp); (try with_reducible rfl)
             try simp only [Act.put, zS]
             refine wpAnyH_take (i := 1) (oi := ⟨some 240, .binOp .neq 27 (.tmp 239) (.const (.int .i64 0)) 27, 4, "law.go:459", #[⟨0, .data⟩], none⟩) (v := ?_) rfl (by kernel_rfl) (by kernel_rfl) (by kernel_rfl) (fun _ _ _ h => h) (Or.inl ⟨by rfl, ?_⟩) (by assumption) ?_
             rotate_left
             ·(intro w hSw; (try dsimp only at hSw); go_simp); (try with_reducible rfl)
             try simp only [Act.put, zS]
             refine wpAnyH_take (i := 2) (oi := ⟨some 241, .move (.tmp 240), 4, "law.go:459", #[⟨1, .data⟩], none⟩) (v := ?_) rfl (by kernel_rfl) (by kernel_rfl) (by kernel_rfl) (fun _ _ _ h => h) (Or.inl ⟨by rfl, ?_⟩) (by assumption) ?_
             rotate_left
             ·(intro w hSw; (try dsimp only at hSw); go_simp); (try with_reducible rfl)
             try simp only [Act.put, zS]
             refine wpAnyH_take (i := 3) (oi := ⟨some 242, .move (.tmp 28), 26, "law.go:459", #[⟨2, .guard⟩], some (2, false)⟩) (v := ?_) rfl (by kernel_rfl) (by kernel_rfl) (by kernel_rfl) (fun _ _ _ h => h) (Or.inl ⟨by rfl, ?_⟩) (by assumption) ?_
             rotate_left
             ·(intro w hSw; (try dsimp only at hSw); go_simp); (try with_reducible rfl)
             try simp only [Act.put, zS]
             refine wpAnyH_take (i := 5) (oi := ⟨some 244, .fieldAddr 34 (.tmp 27) 1, 0, "law.go:459", #[⟨2, .guard⟩], some (2, false)⟩) (v := ?_) rfl (by kernel_rfl) (by kernel_rfl) (by kernel_rfl) (fun _ _ _ h => h) (Or.inl ⟨by rfl, ?_⟩) (by assumption) ?_
             rotate_left
             ·(intro w hSw; (try dsimp only at hSw); go_simp); (try with_reducible rfl)
             try simp only [Act.put, zS]
             refine wpAnyH_take (i := 6) (oi := ⟨some 245, .load 32 (.tmp 244), 32, "law.go:459", #[⟨5, .data⟩, ⟨2, .guard⟩], some (2, false)⟩) (v := ?_) rfl (by kernel_rfl) (by kernel_rfl) (by kernel_rfl) (fun _ _ _ h => h) (Or.inl ⟨by rfl, ?_⟩) (by assumption) ?_
             rotate_left
             ·(intro w hSw; (try dsimp only at hSw); go_simp); (try with_reducible rfl)
             try simp only [Act.put, zS]
             refine wpAnyH_ready (rs := [4]) (by kernel_rfl) (by simp) ?_
             refine (AllReadyH.cons (o := ⟨some 243, .call ⟨.value (.func 12), #[.tmp 242], #[26]⟩, 32, "law.go:459", #[⟨3, .data⟩, ⟨2, .chain⟩, ⟨2, .guard⟩], some (2, false)⟩) rfl (fun K hK => ?_) AllReadyH.nil)
             go_simp
             refine (told_any _ gt wzd (by omega) h28).mono ?_
             rintro e wz4 ⟨⟨uo, rfl, ho⟩, hl⟩
             replace ho : Prs _ _ gt := ho.rw pV_len
             (try go_wp2_with fail)
             have hbz4 := bthen hbzd hl
             have h28 := h28.carry hl
             have htq := htq.carry hl
             clear hl
             refine hK.out _ _ (cellb f1 hbz4) (fun hHeld1 => ?_)
             clear hK K hHeld0
             try simp only [Act.put, zS]
             refine wpAnyH_ready (rs := [7]) (by kernel_rfl) (by simp) ?_
             refine (AllReadyH.cons (o := ⟨some 246, .call ⟨.value (.func 11), #[.tmp 243, .tmp 245], #[32, 32]⟩, 4, "law.go:459", #[⟨4, .data⟩, ⟨6, .data⟩, ⟨4, .chain⟩, ⟨2, .guard⟩], some (2, false)⟩) rfl (fun K hK => ?_) AllReadyH.nil)
             go_simp
             refine (same_train _ _ gt wz4 ho htq (by omega)).mono ?_
             rintro e wz7 ⟨rfl, hl⟩
             (try go_wp2_with fail)
             have hbz7 := bthen hbz4 hl
             have h28 := h28.carry hl
             have htq := htq.carry hl
             have ho := ho.carry hl
             clear hl
             refine hK.out _ _ (cellb f1 hbz7) (fun hHeld2 => ?_)
             clear hK K hHeld1
             try simp only [Act.put, zS]
             refine wpAnyH_take (i := 8) (oi := ⟨some 247, .unOp .not 4 (.tmp 246), 4, "law.go:459", #[⟨7, .data⟩, ⟨2, .guard⟩], some (2, false)⟩) (v := ?_) rfl (by kernel_rfl) (by kernel_rfl) (by kernel_rfl) (fun _ _ _ h => h) (Or.inl ⟨by rfl, ?_⟩) (by assumption) ?_
             rotate_left
             ·(intro w hSw; (try dsimp only at hSw); go_simp); (try with_reducible rfl)
             try simp only [Act.put, zS]
             refine wpAnyH_take (i := 9) (oi := ⟨some 248, .pick (.tmp 241) (.const (.bool true)) (.tmp 247), 4, "law.go:459", #[⟨2, .data⟩, ⟨8, .data⟩], none⟩) (v := ?_) rfl (by kernel_rfl) (by kernel_rfl) (by kernel_rfl) (fun _ _ _ h => h) (Or.inl ⟨by rfl, ?_⟩) (by assumption) ?_
             rotate_left
             ·(intro w hSw; (try dsimp only at hSw); go_simp); (try with_reducible rfl)
             try simp only [Act.put, zS]
             refine wpAnyH_done (by kernel_rfl) ?_ _
             clear hHeld2
             have hb2 := hbz7
             obtain ⟨W33, hW33⟩ : ∃ v, v = wz7 := ⟨_, rfl⟩
             rw [← hW33] at hb2 ⊢
             clear hW33
             rename_i W33
             replace htr := htr.carry hb2
             replace htr0 := htr0.carry hb2
             replace hbel := bthen hbel hb2
             replace i27 := i27.carry hb2
             replace i30 := i30.carry hb2
             replace i31 := i31.carry hb2
             clear hb2 h28 f1
             have f0 := i27.cell (j := 0) (v := .int .i64 rc) rfl
             have f1 := i27.cell (j := 1) (v := .slice ra rn rcap) rfl
             have s0 := i30.cell (j := 0) (v := .int .i64 z1) rfl
             have s1' := i30.cell (j := 1) (v := .slice ra rn rcap) rfl
             have t0 := i31.cell (j := 0) (v := .int .i64 z2) rfl
             have t1 := i31.cell (j := 1) (v := .slice sa sn scap) rfl
             go_wp2_with fail
             obtain ⟨W34, hW34⟩ : ∃ v, v = World.alloc W33 (Obj.cells #[.int .i64 rc, .slice ra rn rcap, .int .i64 z1, .slice ra rn rcap, .int .i64 z2, .slice sa sn scap] 34) := ⟨_, rfl⟩
             have kW34 : Below W33.heap.size W33 W34 := by rw [hW34]; exact below_new _ _
             have iW34 : Blk W34 (W33.heap.size) 34 [.int .i64 rc, .slice ra rn rcap, .int .i64 z1, .slice ra rn rcap, .int .i64 z2, .slice sa sn scap] := by rw [hW34]; exact Blk.new _ _ _
             have sW34 : W34.heap.size = W33.heap.size + 1 := by rw [hW34]; simp
             rw [← hW34]
             clear hW34
             replace htr := htr.carry kW34
             replace htr0 := htr0.carry kW34
             replace hbel := bthen hbel kW34
             replace i27 := i27.carry kW34
             have hL := lgs3 iW34 htr htr htr0
             generalize W33.heap.size = B34 at hL ⊢
             clear iW34 kW34 sW34 f0 f1 s0 s1' t0 t1 i30 i31
             refine (L3.out _ _ W34 hL).mono ?_
             rintro e W35 ⟨⟨u, rs5, rfl, hu⟩, hl⟩
             replace htr := htr.carry hl
             replace hbel := bthen hbel hl
             replace i27 := i27.carry hl
             clear hl hL htr0
             go_wp2_with fail
             refine (T3.out u rs5 W35 hu).mono ?_
             rintro e W36 ⟨⟨u32, rfl, h32⟩, hl⟩
             replace htr := htr.carry hl
             replace hbel := bthen hbel hl
             replace i27 := i27.carry hl
             clear hl hu
             have f1 := i27.cell (j := 1) (v := .slice ra rn rcap) rfl
             go_upto_region 60 with fail
             have htq := htr
             refine wp_region_held_drew (S := (fun W => W.cell? ⟨B27, 1, none⟩ = some (.slice ra rn rcap))) (by kernel_rfl) (cellb f1 (Below.refl _ _).drew) (fun hHeld0 => ?_)
             obtain ⟨wzd, hwz⟩ : ∃ v, v = W36.drew := ⟨_, rfl⟩
             rw [← hwz] at hHeld0 ⊢
             have hbzd : Below W36.heap.size W36 wzd := by rw [hwz]; exact (Below.refl _ _).drew
             have hlzd : Below W36.heap.size W36 wzd := by rw [hwz]; exact (Below.refl _ _).drew
             have h32 := h32.carry hlzd
             have htq := htq.carry hlzd
             clear hwz hlzd
             refine wpAnyH_take (i := 0) (oi := ⟨some 258, .move (.tmp 33), 27, "law.go:463", #[], none⟩) (v := ?_) rfl (by kernel_rfl) (by kernel_rfl) (by kernel_rfl) (fun _ _ _ h => h) (Or.inl ⟨by rfl, ?_⟩) (by assumption) ?_
             rotate_left
             ·(intro w hSw; (try dsimp only at hSw); go_simp); (try with_reducible rfl)
             try simp only [Act.put, zS]
             refine wpAnyH_take (i := 1) (oi := ⟨some 259, .binOp .neq 27 (.tmp 258) (.const (.int .i64 0)) 27, 4, "law.go:463", #[⟨0, .data⟩], none⟩) (v := ?_) rfl (by kernel_rfl) (by kernel_rfl) (by kernel_rfl) (fun _ _ _ h => h) (Or.inl ⟨by rfl, ?_⟩) (by assumption) ?_
             rotate_left
             ·(intro w hSw; (try dsimp only at hSw); go_simp); (try with_reducible rfl)
             try simp only [Act.put, zS]
             refine wpAnyH_take (i := 2) (oi := ⟨some 260, .move (.tmp 259), 4, "law.go:463", #[⟨1, .data⟩], none⟩) (v := ?_) rfl (by kernel_rfl) (by kernel_rfl) (by kernel_rfl) (fun _ _ _ h => h) (Or.inl ⟨by rfl, ?_⟩) (by assumption) ?_
             rotate_left
             ·(intro w hSw; (try dsimp only at hSw); go_simp); (try with_reducible rfl)
             try simp only [Act.put, zS]
             refine wpAnyH_take (i := 3) (oi := ⟨some 261, .move (.tmp 32), 26, "law.go:463", #[⟨2, .guard⟩], some (2, false)⟩) (v := ?_) rfl (by kernel_rfl) (by kernel_rfl) (by kernel_rfl) (fun _ _ _ h => h) (Or.inl ⟨by rfl, ?_⟩) (by assumption) ?_
             rotate_left
             ·(intro w hSw; (try dsimp only at hSw); go_simp); (try with_reducible rfl)
             try simp only [Act.put, zS]
             refine wpAnyH_take (i := 5) (oi := ⟨some 263, .fieldAddr 34 (.tmp 27) 1, 0, "law.go:463", #[⟨2, .guard⟩], some (2, false)⟩) (v := ?_) rfl (by kernel_rfl) (by kernel_rfl) (by kernel_rfl) (fun _ _ _ h => h) (Or.inl ⟨by rfl, ?_⟩) (by assumption) ?_
             rotate_left
             ·(intro w hSw; (try dsimp only at hSw); go_simp); (try with_reducible rfl)
             try simp only [Act.put, zS]
             refine wpAnyH_take (i := 6) (oi := ⟨some 264, .load 32 (.tmp 263), 32, "law.go:463", #[⟨5, .data⟩, ⟨2, .guard⟩], some (2, false)⟩) (v := ?_) rfl (by kernel_rfl) (by kernel_rfl) (by kernel_rfl) (fun _ _ _ h => h) (Or.inl ⟨by rfl, ?_⟩) (by assumption) ?_
             rotate_left
             ·(intro w hSw; (try dsimp only at hSw); go_simp); (try with_reducible rfl)
             try simp only [Act.put, zS]
             refine wpAnyH_ready (rs := [4]) (by kernel_rfl) (by simp) ?_
             refine (AllReadyH.cons (o := ⟨some 262, .call ⟨.value (.func 12), #[.tmp 261], #[26]⟩, 32, "law.go:463", #[⟨3, .data⟩, ⟨2, .chain⟩, ⟨2, .guard⟩], some (2, false)⟩) rfl (fun K hK => ?_) AllReadyH.nil)
             go_simp
             refine (told_any _ gt wzd (by omega) h32).mono ?_
             rintro e wz4 ⟨⟨uo, rfl, ho⟩, hl⟩
             replace ho : Prs _ _ gt := ho.rw pV_len
             (try go_wp2_with fail)
             have hbz4 := bthen hbzd hl
             have h32 := h32.carry hl
             have htq := htq.carry hl
             clear hl
             refine hK.out _ _ (cellb f1 hbz4) (fun hHeld1 => ?_)
             clear hK K hHeld0
             try simp only [Act.put, zS]
             refine wpAnyH_ready (rs := [7]) (by kernel_rfl) (by simp) ?_
             refine (AllReadyH.cons (o := ⟨some 265, .call ⟨.value (.func 11), #[.tmp 262, .tmp 264], #[32, 32]⟩, 4, "law.go:463", #[⟨4, .data⟩, ⟨6, .data⟩, ⟨4, .chain⟩, ⟨2, .guard⟩], some (2, false)⟩) rfl (fun K hK => ?_) AllReadyH.nil)
             go_simp
             refine (same_train _ _ gt wz4 ho htq (by omega)).mono ?_
             rintro e wz7 ⟨rfl, hl⟩
             (try go_wp2_with fail)
             have hbz7 := bthen hbz4 hl
             have h32 := h32.carry hl
             have htq := htq.carry hl
             have ho := ho.carry hl
             clear hl
             refine hK.out _ _ (cellb f1 hbz7) (fun hHeld2 => ?_)
             clear hK K hHeld1
             try simp only [Act.put, zS]
             refine wpAnyH_take (i := 8) (oi := ⟨some 266, .unOp .not 4 (.tmp 265), 4, "law.go:463", #[⟨7, .data⟩, ⟨2, .guard⟩], some (2, false)⟩) (v := ?_) rfl (by kernel_rfl) (by kernel_rfl) (by kernel_rfl) (fun _ _ _ h => h) (Or.inl ⟨by rfl, ?_⟩) (by assumption) ?_
             rotate_left
             ·(intro w hSw; (try dsimp only at hSw); go_simp); (try with_reducible rfl)
             try simp only [Act.put, zS]
             refine wpAnyH_take (i := 9) (oi := ⟨some 267, .pick (.tmp 260) (.const (.bool true)) (.tmp 266), 4, "law.go:463", #[⟨2, .data⟩, ⟨8, .data⟩], none⟩) (v := ?_) rfl (by kernel_rfl) (by kernel_rfl) (by kernel_rfl) (fun _ _ _ h => h) (Or.inl ⟨by rfl, ?_⟩) (by assumption) ?_
             rotate_left
             ·(intro w hSw; (try dsimp only at hSw); go_simp); (try with_reducible rfl)
             try simp only [Act.put, zS]
             refine wpAnyH_done (by kernel_rfl) ?_ _
             clear hHeld2
             have hb2 := hbz7
             obtain ⟨W37, hW37⟩ : ∃ v, v = wz7 := ⟨_, rfl⟩
             rw [← hW37] at hb2 ⊢
             clear hW37
             rename_i W37
             replace hbel := bthen hbel hb2
             clear hb2 h32 f1 htr i27
             go_wp2
             go_roundw
             case rel => exact ⟨j + 1, by omega, by go_num, hbel⟩
             case measure => simp [intOf]; omega
            ·have e7 : ¬ (j : Int) < (N : Int) := by omega
             go_wp2
             go_ret
             exact ⟨rfl, bthen HB11.out hbel⟩
    ·have z : (E != 0) = true := by rw [bne_iff_ne]; exact hE0
     clear hE0
     go_wp2_with fail
     refine (TA.out w2 (HP.out.carry hb) (HH.out.carry hb)).mono ?_
     rintro e w3 ⟨rfl, hb2⟩
     go_wp2
     go_ret
     exact ⟨rfl, bthen hb hb2⟩
end Go.Proofs.YtgpdalgfbfboaaaGreatDoor

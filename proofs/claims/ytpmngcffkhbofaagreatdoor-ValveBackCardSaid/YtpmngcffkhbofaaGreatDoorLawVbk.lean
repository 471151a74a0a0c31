/- The law ValveBack. -/
import Derived.Test.YtpmngcffkhbofaaGreatDoorVnK
import Derived.Test.YtpmngcffkhbofaaGreatDoorVnS
import Derived.Test.YtpmngcffkhbofaaGreatDoorVfG
namespace Go.Proofs.YtpmngcffkhbofaaGreatDoor
set_option linter.unusedSimpArgs false
set_option linter.unusedVariables false
open Go.RowKit
theorem short_le {n : Nat} (h : shortB n = true) : n ≤ 257 := by
 unfold shortB at h
 simp at h; omega
theorem parT_len (s : ByteArray) (h : s.size ≤ 100000) : (parT s.data.toList).length ≤ 1000000 := by
 unfold parT
 split
 ·have := linesL_len s.data.toList
  have := data_len s
  rw [trnT_len]; omega
 ·simp
theorem short_12 {n : Nat} (h : shortB n = true) (h2 : n ≤ 256) : n ≤ 12 := by
 unfold shortB at h
 simp at h; omega
set_option maxRecDepth 100000 in
set_option maxHeartbeats 16000000 in
theorem vbk_law (TA : ∀ W, Pows W → Heads W → Calls Tryz.prog 5 #[] W fun e w' => e = .returned (.bool true) ∧ Below W.heap.size W w')
 (va : Value) (ca : Int) (la : List P2) (s : ByteArray) (w : World) (hp : Pows w) (hh : Heads w) (hm : MaxL w) (hva : Prs w va la) :
 Calls Tryz.prog 4 #[.agg #[.int .i64 ca, va], .string s] w fun e w' => e = .returned (.bool true) ∧ Below w.heap.size w w' := by
 have TA := Lib.hid TA
 obtain ⟨a1, p1, hve, -⟩ := hva.slice
 obtain ⟨N, hN⟩ : ∃ N, N = la.length := ⟨_, rfl⟩
 rw [← hN] at hve
 subst hve
 have T1 := Lib.hid (fun W => Short_any a1 N p1 W)
 have HP := Lib.hid hp
 have HH := Lib.hid hh
 have HML := Lib.hid hm
 have HA := Lib.hid hva
 have HN := Lib.hid hN
 have HS1 := Lib.hid (fun h : shortB N = true => short_le h)
 have HS2 := Lib.hid (fun (h : shortB N = true) h2 => short_12 h h2)
 obtain ⟨s1, hs1⟩ : ∃ b, b = shortB N := ⟨_, rfl⟩
 rw [← hs1] at T1 HS1 HS2
 have TC := Lib.hid (fun (h : s1 = true) W (h1 : Prs W (.slice a1 N p1) la) => CheckLogR_any ca a1 N p1 la W (by have := HS1.out h; have := HN.out; omega) h1)
 obtain ⟨E1, hE1⟩ : ∃ e, e = logE ca la := ⟨_, rfl⟩
 have HE1 := Lib.hid hE1
 simp only [← hE1] at TC
 have TPP := Lib.hid (fun (h : s.size ≤ 100000) W (h1 : MaxL W) (h2 : Heads W) => Parse_any s W h h1 h2)
 obtain ⟨n, hn⟩ : ∃ n, n = s.size := ⟨_, rfl⟩
 have hn' : s.size = n := hn.symm
 rw [← hn] at TPP
 clear hp hh hm hva hN hs1 hn hE1
 go_enter Tryz.func4, Tryz.ntmps4
 go_upto_region 1 with fail
 obtain ⟨W1, hW1⟩ : ∃ v, v = World.alloc w (Obj.cells #[.int .i64 ca, .slice a1 N p1] 24) := ⟨_, rfl⟩
 have kW1 : Below w.heap.size w W1 := by rw [hW1]; exact below_new _ _
 have iW1 : Blk W1 (w.heap.size) 24 [.int .i64 ca, .slice a1 N p1] := by rw [hW1]; exact Blk.new _ _ _
 have sW1 : W1.heap.size = w.heap.size + 1 := by rw [hW1]; simp
 rw [← hW1]
 clear hW1
 have I3 := Lib.hid iW1
 have K3 := Lib.hid kW1
 obtain ⟨B3, hB3⟩ : ∃ b, b = w.heap.size := ⟨_, rfl⟩
 rw [← hB3] at I3 ⊢
 clear iW1 kW1 sW1 hB3
 obtain ⟨stop, hstop⟩ : ∃ b, b = (!s1 || (decide (E1 ≠ 0) || decide (200 < n))) := ⟨_, rfl⟩
 have HST := Lib.hid hstop
 clear hstop
 go_cut [45] from 28 to 45 (fun u45 wn => u45 = .bool stop ∧ Below W1.heap.size W1 wn)
 case first =>
  go_wp2_with fail
  refine (TA.out W1 (HP.out.carry K3.out) (HH.out.carry K3.out)).mono ?_
  rintro e w1 ⟨rfl, hb⟩
  have c31 := (I3.out.carry hb).cell (j := 1) (v := .slice a1 N p1) rfl
  go_wp2_with fail
  refine (T1.out w1).mono ?_
  rintro e w2 ⟨rfl, rfl⟩
  clear c31
  cases s1 with
  | false =>
    go_wp2_with fail
    go_meet
    exact ⟨by rw [HST.out]; rfl, hb⟩
  | true =>
    have c30 := (I3.out.carry hb).cell (j := 0) (v := .int .i64 ca) rfl
    have c31 := (I3.out.carry hb).cell (j := 1) (v := .slice a1 N p1) rfl
    go_wp2_with fail
    refine (TC.out (by trivial) w1 (HA.out.carry (bthen K3.out hb))).mono ?_
    rintro e w2 ⟨rfl, hl⟩
    replace hb := bthen hb hl
    clear c30 c31 hl
    by_cases hz : E1 = 0
    ·subst hz
     by_cases d1 : 200 < (n : Int)
     ·have HX := Lib.hid (show stop = true by rw [HST.out, decide_eq_true (show 200 < n by omega)]; rfl)
      go_wp2_with fail
      go_meet
      exact ⟨by rw [HX.out], hb⟩
     ·have HX := Lib.hid (show stop = false by rw [HST.out, decide_eq_false (show ¬ 200 < n by omega)]; rfl)
      go_wp2_with fail
      go_meet
      exact ⟨by rw [HX.out, decide_eq_false (by omega)], hb⟩
    ·have z : (E1 != 0) = true := by rw [bne_iff_ne]; exact hz
     have HX := Lib.hid (show stop = true by rw [HST.out, decide_eq_true hz]; rfl)
     clear hz
     go_wp2_with fail
     go_meet
     exact ⟨by rw [HX.out], hb⟩
 case rest =>
  obtain ⟨rfl, hb⟩ := hcut
  cases stop with
  | true =>
    go_wp2_with fail
    refine (TA.out wc (HP.out.carry (bthen K3.out hb)) (HH.out.carry (bthen K3.out hb))).mono ?_
    rintro e w2 ⟨rfl, hb2⟩
    go_wp2
    go_ret
    exact ⟨rfl, bthen K3.out (bthen hb hb2)⟩
  | false =>
    obtain ⟨rfl, hz, hnn⟩ : s1 = true ∧ E1 = 0 ∧ n ≤ 200 := by
     have h := HST.out
     cases s1 with
     | false => simp at h
     | true =>
       refine ⟨rfl, Classical.byContradiction fun e => ?_, Classical.byContradiction fun e => ?_⟩
       ·rw [decide_eq_true e] at h; simp at h
       ·rw [decide_eq_true (show 200 < n by omega)] at h; simp at h
    have hE : logE ca la = 0 := HE1.out.symm.trans hz
    obtain ⟨hc, htr⟩ := logE_ok hE
    have hlen := htr.len
    have h12 : la.length ≤ 12 := by rw [← HN.out]; exact HS2.out rfl (by rw [HN.out]; exact hlen)
    have hts := text_size hE h12
    have htp := text_parse hE h12
    obtain ⟨m, hm⟩ := text_pos hE
    have hcl := cut_last _ m hm
    have htc := text_cut hE h12 hcl
    have TSP := Lib.hid (fun W => text_splitR ca la W hts)
    have hprt : prtS ca la = prtK ca la la.length := by unfold prtS; rw [if_pos hE]
    have L1 := Lib.hid (fun W (h : Prs W (.slice a1 N p1) la) => logL_any ca a1 N p1 la W (by omega) h)
    have TPr := Lib.hid (fun x m q W (h : Prs W (.slice x m q) la) hp hh => Print_any ca x m q la W (by omega) h hp hh)
    have TTe := Lib.hid (fun x m q W (h : Prs W (.slice x m q) la) => Telegrams_any ca x m q la W (by omega) h)
    simp only [hprt, hE] at TPr
    simp only [hE] at TTe
    have htel : telR ca la = la.map (telG ca) := by unfold telR; rw [if_pos hE]
    simp only [htel] at TTe
    have TST := Lib.hid (fun va vb W h1 h2 => SameTrain_any va vb la la W h1 h2 (by omega))
    simp only [decide_true] at TST
    have HTO := Lib.hid (fun (h : parE s.data.toList = 0) => told_print h)
    have HPL := Lib.hid (show (parT s.data.toList).length ≤ 1000000 from parT_len s (by omega))
    obtain ⟨T, hT⟩ : ∃ T, T = prtK ca la la.length := ⟨_, rfl⟩
    simp only [← hT] at TPr TSP hts htp hcl htc hm
    rw [← HN.out] at TSP htc h12
    have TP1 := Lib.hid (fun W h1 h2 => Parse_any T W (by omega) h1 h2)
    have TP3 := Lib.hid (fun W h1 h2 => Parse_any (T.extract 0 m) W (by rw [ByteArray.size_extract]; omega) h1 h2)
    simp only [ParsePost] at TP1 TP3
    simp only [htp.1, htp.2.1, htp.2.2.1, htp.2.2.2] at TP1
    simp only [htc.1, htc.2.1, htc.2.2.1, htc.2.2.2] at TP3
    have TP2 := Lib.hid (fun W => TPP.out (by omega) W)
    simp only [ParsePost] at TP2
    obtain ⟨PC, hPC⟩ : ∃ c, c = parC s.data.toList := ⟨_, rfl⟩
    obtain ⟨PN, hPN⟩ : ∃ c, c = parN s.data.toList := ⟨_, rfl⟩
    obtain ⟨PE, hPE⟩ : ∃ c, c = parE s.data.toList := ⟨_, rfl⟩
    obtain ⟨PT, hPT⟩ : ∃ c, c = parT s.data.toList := ⟨_, rfl⟩
    simp only [← hPC, ← hPN, ← hPE, ← hPT] at TP2 HPL HTO
    have HC := Lib.hid hc
    have HTR := Lib.hid htr
    have HPw := Lib.hid (HP.out.carry (bthen K3.out hb))
    have HHw := Lib.hid (HH.out.carry (bthen K3.out hb))
    have HMw := Lib.hid (HML.out.carry (bthen K3.out hb))
    have HAw := Lib.hid (HA.out.carry (bthen K3.out hb))
    have HIw := Lib.hid (I3.out.carry hb)
    have HBw := Lib.hid (bthen K3.out hb)
    have HMM := Lib.hid hm
    have hTm : T.size = m + 1 := hm
    have hm5 : m ≤ 2000 := by omega
    have c30 := HIw.out.cell (j := 0) (v := .int .i64 ca) rfl
    have c31 := HIw.out.cell (j := 1) (v := .slice a1 N p1) rfl
    clear HS1 HS2 TA T1 HST hz hnn HP HH HML HA I3 K3 TPP hb hPC hPN hPE hPT hE hc htr hlen hts htp hcl htc hprt htel hT hm HE1 TC
    go_wp2_with fail
    refine (L1.out wc HAw.out).mono ?_
    rintro e w2 ⟨⟨x1, m1, q1, rfl, hL⟩, hl⟩
    have hB := hl
    clear c30 c31 hl
    go_wp2_with fail
    refine (TPr.out x1 m1 q1 w2 hL (HPw.out.carry hB) (HHw.out.carry hB)).mono ?_
    rintro e w3 ⟨rfl, hl⟩
    replace hB := bthen hB hl
    clear hl hL
    go_wp2_with fail
    refine (TP1.out w3 (HMw.out.carry hB) (HHw.out.carry hB)).mono ?_
    rintro e w4 ⟨⟨pa, pn, pc, rfl, hP7⟩, hl⟩
    replace hB := bthen hB hl
    clear hl TP1
    go_upto_region 5 with fail
    obtain ⟨w5, hw5⟩ : ∃ v, v = w4.alloc (Obj.cells #[.int .i64 ca, .slice pa pn pc] 32) := ⟨_, rfl⟩
    have kb : Below w4.heap.size w4 w5 := by rw [hw5]; exact below_new _ _
    have i7 : Blk w5 w4.heap.size 32 [.int .i64 ca, .slice pa pn pc] := by rw [hw5]; exact Blk.new _ _ _
    rw [← hw5]
    clear hw5
    obtain ⟨G7, hG7⟩ : ∃ g, g = w4.heap.size := ⟨_, rfl⟩
    rw [← hG7] at i7 ⊢
    replace hP7 := hP7.carry kb
    replace hB := bthen hB kb
    clear hG7 kb
    have c30 := (HIw.out.carry hB).cell (j := 0) (v := .int .i64 ca) rfl
    have c31 := (HIw.out.carry hB).cell (j := 1) (v := .slice a1 N p1) rfl
    have c70 := i7.cell (j := 0) (v := .int .i64 ca) rfl
    have c71 := i7.cell (j := 1) (v := .slice pa pn pc) rfl
    have hA := HAw.out.carry hB
    have v2 : IntKind.i64.wrap ((N : Int) + 2) = (N : Int) + 2 := IntWalk.i64_in _ (by omega)
    clear i7
    have h5 := Below.refl w5.heap.size w5
    refine wp_region_held_drew (S := (fun W => W.cell? ⟨B3, 0, none⟩ = some (.int .i64 ca) ∧ W.cell? ⟨B3, 1, none⟩ = some (.slice a1 N p1) ∧ W.cell? ⟨G7, 0, none⟩ = some (.int .i64 ca) ∧ W.cell? ⟨G7, 1, none⟩ = some (.slice pa pn pc))) (by kernel_rfl) ⟨cellb c30 h5.drew, cellb c31 h5.drew, cellb c70 h5.drew, cellb c71 h5.drew⟩ (fun hHeld0 => ?_)
    obtain ⟨wzd, hwz⟩ : ∃ v, v = w5.drew := ⟨_, rfl⟩
    rw [← hwz] at hHeld0 ⊢
    have hbzd : Below w5.heap.size w5 wzd := by rw [hwz]; exact h5.drew
    have hlzd : Below w5.heap.size w5 wzd := by rw [hwz]; exact (Below.refl _ _).drew
    have hP7 := hP7.carry hlzd
    have hA := hA.carry hlzd
    clear hwz hlzd
    refine zH 0 ⟨some 59, .move (.tmp 6), 27, "law.go:602", #[], none⟩ rfl ?_
    simp only [Act.put, zS]
    refine zH 1 ⟨some 60, .binOp .neq 27 (.tmp 59) (.const (.int .i64 0)) 27, 4, "law.go:602", #[⟨0, .data⟩], none⟩ rfl ?_
    simp only [Act.put, zS]
    refine zH 2 ⟨some 61, .move (.tmp 60), 4, "law.go:602", #[⟨1, .data⟩], none⟩ rfl ?_
    simp only [Act.put, zS]
    refine zH 3 ⟨some 62, .move (.tmp 9), 27, "law.go:602", #[⟨2, .guard⟩], some (2, false)⟩ rfl ?_
    simp only [Act.put, zS]
    refine zH 4 ⟨some 63, .binOp .neq 27 (.tmp 62) (.const (.int .i64 0)) 27, 4, "law.go:602", #[⟨3, .data⟩, ⟨2, .guard⟩], some (2, false)⟩ rfl ?_
    simp only [Act.put, zS]
    refine zH 5 ⟨some 64, .pick (.tmp 61) (.const (.bool true)) (.tmp 63), 4, "law.go:602", #[⟨2, .data⟩, ⟨4, .data⟩], none⟩ rfl ?_
    simp only [Act.put, zS]
    refine zH 6 ⟨some 65, .move (.tmp 64), 4, "law.go:602", #[⟨5, .data⟩, ⟨2, .chain⟩], none⟩ rfl ?_
    simp only [Act.put, zS]
    refine zH 7 ⟨some 66, .move (.tmp 8), 3, "law.go:602", #[⟨6, .guard⟩], some (6, false)⟩ rfl ?_
    simp only [Act.put, zS]
    refine zH 8 ⟨some 67, .binOp .neq 3 (.tmp 66) (.const (.int .i64 0)) 3, 4, "law.go:602", #[⟨7, .data⟩, ⟨6, .guard⟩], some (6, false)⟩ rfl ?_
    simp only [Act.put, zS]
    refine zH 9 ⟨some 68, .pick (.tmp 65) (.const (.bool true)) (.tmp 67), 4, "law.go:602", #[⟨6, .data⟩, ⟨8, .data⟩], none⟩ rfl ?_
    simp only [Act.put, zS]
    refine zH 10 ⟨some 69, .move (.tmp 68), 4, "law.go:602", #[⟨9, .data⟩, ⟨6, .chain⟩], none⟩ rfl ?_
    simp only [Act.put, zS]
    refine zH 11 ⟨some 70, .fieldAddr 32 (.tmp 7) 0, 0, "law.go:602", #[⟨10, .guard⟩], some (10, false)⟩ rfl ?_
    simp only [Act.put, zS]
    refine zH 12 ⟨some 71, .load 3 (.tmp 70), 3, "law.go:602", #[⟨11, .data⟩, ⟨10, .guard⟩], some (10, false)⟩ rfl ?_
    simp only [Act.put, zS]
    refine zH 13 ⟨some 72, .fieldAddr 24 (.tmp 2) 0, 0, "law.go:602", #[⟨10, .guard⟩], some (10, false)⟩ rfl ?_
    simp only [Act.put, zS]
    refine zH 14 ⟨some 73, .load 3 (.tmp 72), 3, "law.go:602", #[⟨13, .data⟩, ⟨10, .guard⟩], some (10, false)⟩ rfl ?_
    simp only [Act.put, zS]
    refine zH 15 ⟨some 74, .binOp .neq 3 (.tmp 71) (.tmp 73) 3, 4, "law.go:602", #[⟨12, .data⟩, ⟨14, .data⟩, ⟨10, .guard⟩], some (10, false)⟩ rfl ?_
    simp only [Act.put, zS]
    refine zH 16 ⟨some 75, .pick (.tmp 69) (.const (.bool true)) (.tmp 74), 4, "law.go:602", #[⟨10, .data⟩, ⟨15, .data⟩], none⟩ rfl ?_
    simp only [Act.put, zS]
    refine zH 17 ⟨some 76, .move (.tmp 75), 4, "law.go:602", #[⟨16, .data⟩, ⟨10, .chain⟩], none⟩ rfl ?_
    simp only [Act.put, zS]
    refine zH 18 ⟨some 77, .fieldAddr 32 (.tmp 7) 1, 0, "law.go:602", #[⟨17, .guard⟩], some (17, false)⟩ rfl ?_
    simp only [Act.put, zS]
    refine zH 19 ⟨some 78, .load 30 (.tmp 77), 30, "law.go:602", #[⟨18, .data⟩, ⟨17, .guard⟩], some (17, false)⟩ rfl ?_
    simp only [Act.put, zS]
    refine zH 21 ⟨some 80, .fieldAddr 24 (.tmp 2) 1, 0, "law.go:602", #[⟨17, .guard⟩], some (17, false)⟩ rfl ?_
    simp only [Act.put, zS]
    refine zH 22 ⟨some 81, .load 22 (.tmp 80), 22, "law.go:602", #[⟨21, .data⟩, ⟨17, .guard⟩], some (17, false)⟩ rfl ?_
    simp only [Act.put, zS]
    refine wpAnyH_ready (rs := [20]) (by kernel_rfl) (by simp) ?_
    refine (AllReadyH.cons (o := ⟨some 79, .call ⟨.value (.func 14), #[.tmp 78], #[30]⟩, 22, "law.go:602", #[⟨19, .data⟩, ⟨17, .chain⟩, ⟨17, .guard⟩], some (17, false)⟩) rfl (fun K hK => ?_) AllReadyH.nil)
    go_simp
    refine (told_any _ la wzd (by have := HN.out; omega) hP7).mono ?_
    rintro e wz20 ⟨⟨uo, rfl, ho⟩, hl⟩
    replace ho : Prs _ _ la := ho.rw pV_len
    (try go_wp2_with fail)
    have hbz20 := bthen hbzd hl
    have hP7 := hP7.carry hl
    have hA := hA.carry hl
    clear hl
    refine hK.out _ _ ⟨cellb c30 hbz20, cellb c31 hbz20, cellb c70 hbz20, cellb c71 hbz20⟩ (fun hHeld1 => ?_)
    clear hK K hHeld0
    try simp only [Act.put, zS]
    refine wpAnyH_ready (rs := [23]) (by kernel_rfl) (by simp) ?_
    refine (AllReadyH.cons (o := ⟨some 82, .call ⟨.value (.func 15), #[.tmp 79, .tmp 81], #[22, 22]⟩, 4, "law.go:602", #[⟨20, .data⟩, ⟨22, .data⟩, ⟨20, .chain⟩, ⟨17, .guard⟩], some (17, false)⟩) rfl (fun K hK => ?_) AllReadyH.nil)
    go_simp
    refine (TST.out _ _ wz20 ho hA).mono ?_
    rintro e wz23 ⟨rfl, hl⟩
    (try go_wp2_with fail)
    have hbz23 := bthen hbz20 hl
    have hP7 := hP7.carry hl
    have hA := hA.carry hl
    have ho := ho.carry hl
    clear hl
    refine hK.out _ _ ⟨cellb c30 hbz23, cellb c31 hbz23, cellb c70 hbz23, cellb c71 hbz23⟩ (fun hHeld2 => ?_)
    clear hK K hHeld1
    try simp only [Act.put, zS]
    refine zH 24 ⟨some 83, .unOp .not 4 (.tmp 82), 4, "law.go:602", #[⟨23, .data⟩, ⟨17, .guard⟩], some (17, false)⟩ rfl ?_
    simp only [Act.put, zS]
    refine zH 25 ⟨some 84, .pick (.tmp 76) (.const (.bool true)) (.tmp 83), 4, "law.go:602", #[⟨17, .data⟩, ⟨24, .data⟩], none⟩ rfl ?_
    simp only [Act.put, zS]
    refine zH 26 ⟨some 85, .move (.tmp 84), 4, "law.go:602", #[⟨25, .data⟩, ⟨23, .chain⟩], none⟩ rfl ?_
    simp only [Act.put, zS]
    refine zH 27 ⟨some 86, .move (.tmp 5), 9, "law.go:602", #[⟨26, .guard⟩], some (26, false)⟩ rfl ?_
    simp only [Act.put, zS]
    refine zH 30 ⟨some 89, .fieldAddr 24 (.tmp 2) 1, 0, "law.go:602", #[⟨26, .guard⟩], some (26, false)⟩ rfl ?_
    simp only [Act.put, zS]
    refine zH 31 ⟨some 90, .load 22 (.tmp 89), 22, "law.go:602", #[⟨30, .data⟩, ⟨26, .guard⟩], some (26, false)⟩ rfl ?_
    simp only [Act.put, zS]
    refine zH 32 ⟨some 91, .call ⟨.builtin .len, #[.tmp 90], #[22]⟩, 3, "law.go:602", #[⟨31, .data⟩, ⟨26, .guard⟩], some (26, false)⟩ rfl ?_
    simp only [Act.put, zS]
    refine zH 33 ⟨some 92, .binOp .add 3 (.tmp 91) (.const (.int .i64 2)) 3, 3, "law.go:602", #[⟨32, .data⟩, ⟨26, .guard⟩], some (26, false)⟩ rfl ?_
    simp only [Act.put, zS]
    refine wpAnyH_ready (rs := [28]) (by kernel_rfl) (by simp) ?_
    refine (AllReadyH.cons (o := ⟨some 87, .call ⟨.value (.func 16), #[.tmp 86, .const (.int .u8 10)], #[9, 5]⟩, 44, "law.go:602", #[⟨27, .data⟩, ⟨26, .chain⟩, ⟨26, .guard⟩], some (26, false)⟩) rfl (fun K hK => ?_) AllReadyH.nil)
    go_simp
    refine (TSP.out wz23).mono ?_
    rintro e wz28 ⟨⟨gs, gc, rfl⟩, hl⟩
    (try go_wp2_with fail)
    have hbz28 := bthen hbz23 hl
    have hP7 := hP7.carry hl
    have hA := hA.carry hl
    have ho := ho.carry hl
    clear hl
    refine hK.out _ _ ⟨cellb c30 hbz28, cellb c31 hbz28, cellb c70 hbz28, cellb c71 hbz28⟩ (fun hHeld3 => ?_)
    clear hK K hHeld2
    try simp only [Act.put, zS]
    refine zH 29 ⟨some 88, .call ⟨.builtin .len, #[.tmp 87], #[44]⟩, 3, "law.go:602", #[⟨28, .data⟩, ⟨26, .guard⟩], some (26, false)⟩ rfl ?_
    simp only [Act.put, zS]
    refine zH 34 ⟨some 93, .binOp .neq 3 (.tmp 88) (.tmp 92) 3, 4, "law.go:602", #[⟨29, .data⟩, ⟨33, .data⟩, ⟨26, .guard⟩], some (26, false)⟩ rfl ?_
    simp only [Act.put, zS]
    refine zH 35 ⟨some 94, .pick (.tmp 85) (.const (.bool true)) (.tmp 93), 4, "law.go:602", #[⟨26, .data⟩, ⟨34, .data⟩], none⟩ rfl ?_
    simp only [Act.put, zS]
    refine wpAnyH_done (by kernel_rfl) ?_ _
    clear hHeld3
    have hb2 := hbz28
    obtain ⟨w6, hw6⟩ : ∃ v, v = wz28 := ⟨_, rfl⟩
    rw [← hw6] at hb2 ⊢
    clear hw6
    replace hB := bthen hB hb2
    clear hb2 h5 c30 c31 c70 c71 hA hP7 v2 TSP
    go_wp2_with fail
    refine (TP2.out w6 (HMw.out.carry hB) (HHw.out.carry hB)).mono ?_
    rintro e w7 ⟨⟨ya, yn, yc, rfl, hY⟩, hl⟩
    replace hB := bthen hB hl
    clear hl TP2
    go_upto_if 102 with fail
    obtain ⟨w8, hw8⟩ : ∃ v, v = w7.alloc (Obj.cells #[.int .i64 PC, .slice ya yn yc] 32) := ⟨_, rfl⟩
    have kb : Below w7.heap.size w7 w8 := by rw [hw8]; exact below_new _ _
    have i10 : Blk w8 w7.heap.size 32 [.int .i64 PC, .slice ya yn yc] := by rw [hw8]; exact Blk.new _ _ _
    rw [← hw8]
    clear hw8
    obtain ⟨G10, hG10⟩ : ∃ g, g = w7.heap.size := ⟨_, rfl⟩
    rw [← hG10] at i10 ⊢
    replace hY := hY.carry kb
    replace hB := bthen hB kb
    clear hG10 kb
    go_cut [13, 14] from 103 to 114 (fun u13 u14 wn => Below w8.heap.size w8 wn)
    case first =>
     by_cases hz : PE = 0
     ·obtain ⟨g1, g2⟩ := HTO.out hz
      have hpy : prtS PC PT = s := by unfold prtS; rw [if_pos g1]; exact g2
      have TPy := Print_any PC ya yn yc PT w8 HPL.out hY (HPw.out.carry hB) (HHw.out.carry hB)
      rw [hpy, g1] at TPy
      have TPY := Lib.hid TPy
      subst hz
      have d0 := i10.cell (j := 0) (v := .int .i64 PC) rfl
      have d1 := i10.cell (j := 1) (v := .slice ya yn yc) rfl
      clear g1 g2 hpy TPy
      go_wp2_with fail
      refine TPY.out.mono ?_
      rintro e w9 ⟨rfl, hl⟩
      go_wp2_with fail
      go_meet
      exact hl
     ·have z : (PE == 0) = false := by rw [beq_eq_false_iff_ne]; exact hz
      clear hz
      go_wp2_with fail
      go_meet
      exact Below.refl _ _
    case rest =>
     replace hB := bthen hB hcut
     clear hcut hY i10 HTO HPL
     have v0 : IntKind.i64.wrap ((m : Int) + 1 - 1) = (m : Int) := (IntWalk.i64_in _ (by omega)).trans (by omega)
     have v1 : IntKind.i64.wrap (m : Int) = (m : Int) := IntWalk.i64_in _ (by omega)
     have d0 : (0 : Int) ≤ (m : Int) := by omega
     have d1 : (m : Int) ≤ (m : Int) + 1 := by omega
     go_wp2_with fail
     refine (TP3.out wc (HMw.out.carry hB) (HHw.out.carry hB)).mono ?_
     rintro e w9 ⟨⟨za, zn, zc, rfl, -⟩, hl⟩
     replace hB := bthen hB hl
     clear hl TP3 v0 v1 d0 d1
     go_upto_region 13 with fail
     obtain ⟨w10, hw10⟩ : ∃ v, v = w9.alloc (Obj.cells #[.int .i64 0, .slice za zn zc] 32) := ⟨_, rfl⟩
     have kb : Below w9.heap.size w9 w10 := by rw [hw10]; exact below_new _ _
     rw [← hw10]
     replace hB := bthen hB kb
     clear hw10 kb
     have c31 := (HIw.out.carry hB).cell (j := 1) (v := .slice a1 N p1) rfl
     go_wp2_with fail
     clear c31
     have HB := Lib.hid hB
     have h10 := Below.refl w10.heap.size w10
     go_loopw [18, 137] (fun st i wr => ∃ k : Nat, k ≤ N ∧ i = .int .i64 k ∧ st = .int .i64 (if k = 0 then 0 else startOf la) ∧ (∀ j x y, j + 1 < k → la[j]? = some x → la[j + 1]? = some y → y.1 - x.1 ≤ 65536) ∧ Below w10.heap.size w10 wr) (fun _ i _ => N - (intOf i).toNat)
     case atStart => exact ⟨0, by omega, rfl, rfl, fun j x y h => by omega, h10⟩
     case round =>
      clear h10 hB
      obtain ⟨k, hk, rfl, rfl, hgap, hbr⟩ := hrel
      have hB := bthen HB.out hbr
      by_cases hlt : k < N
      ·obtain ⟨x, hx⟩ : ∃ x, la[k]? = some x := ⟨_, List.getElem?_eq_getElem (by rw [← HN.out]; exact hlt)⟩
       obtain ⟨b, off, cp, he, hcs⟩ := (HAw.out.carry hB).head (by rw [← HN.out]; omega)
       simp only [Value.slice.injEq] at he
       obtain ⟨rfl, -, rfl⟩ := he
       obtain ⟨x0, x1⟩ := rw2 (hcs k x hx) (show pV x = [.int .i64 x.1, .int .i64 x.2] from rfl)
       have hrg := HTR.out.rng k x hx
       have HX := Lib.hid hx
       have HGP := Lib.hid hgap
       have dk : (k : Int) < (N : Int) := by omega
       have dk0 : 0 ≤ (k : Int) := by omega
       have HCS := Lib.hid hcs
       have HRG := Lib.hid hrg
       have hNk : N ≤ 257 := by have := HTR.out.len; have := HN.out; omega
       obtain ⟨y0, y1⟩ := x
       simp only at x0 x1
       clear hcs hgap hx hrg
       go_upto_region 19 with fail
       obtain ⟨V1, hV1⟩ : ∃ v, v = World.alloc wr (Obj.cells #[.int .i64 y0, .int .i64 y1] 47) := ⟨_, rfl⟩
       have kV1 : Below wr.heap.size wr V1 := by rw [hV1]; exact below_new _ _
       have iV1 : Blk V1 (wr.heap.size) 47 [.int .i64 y0, .int .i64 y1] := by rw [hV1]; exact Blk.new _ _ _
       have sV1 : V1.heap.size = wr.heap.size + 1 := by rw [hV1]; simp
       rw [← hV1]
       clear hV1
       have x2 := iV1.cell (j := 0) (v := .int .i64 y0) rfl
       have hbr1 := bthen hbr kV1
       have hB1 := bthen hB kV1
       obtain ⟨GV, hGV⟩ : ∃ g, g = wr.heap.size := ⟨_, rfl⟩
       rw [← hGV] at x2 ⊢
       have HKV := Lib.hid kV1
       clear x0 x1 hbr hB kV1 iV1 sV1 hGV
       by_cases hk0 : k = 0
       ·subst hk0
        have HS := Lib.hid (show y0 = startOf la by unfold startOf; rw [HX.out]; rfl)
        clear dk dk0 hk
        go_wp2_with fail
        go_roundw
        case rel => exact ⟨1, by omega, by go_num, by rw [if_neg (by decide), HS.out], fun j x y h => by omega, hbr1⟩
        case measure => (simp [intOf]) <;> omega
       ·obtain ⟨q, rfl⟩ : ∃ q, k = q + 1 := ⟨k - 1, by omega⟩
        obtain ⟨z, hz⟩ : ∃ z, la[q]? = some z := ⟨_, List.getElem?_eq_getElem (by have := HN.out; omega)⟩
        obtain ⟨z0, z1⟩ := rw2 (HCS.out q z hz) (show pV z = [.int .i64 z.1, .int .i64 z.2] from rfl)
        have HZ := Lib.hid hz
        have hzr := HTR.out.rng q z hz
        obtain ⟨u0, u1⟩ := z
        simp only at z0 z1 hzr
        have hyr := HRG.out
        simp only at hyr
        replace z0 := cellb z0 HKV.out
        have c31 := (HIw.out.carry hB1).cell (j := 1) (v := .slice (some ⟨b, off, none⟩) N p1) rfl
        have v0 : IntKind.i64.wrap ((q : Int) + 1 - 1) = (q : Int) := (IntWalk.i64_in _ (by omega)).trans (by omega)
        have v1 : IntKind.i64.wrap (y0 - u0) = y0 - u0 := IntWalk.i64_in _ (by omega)
        have v2 : IntKind.i64.wrap (q : Int) = (q : Int) := IntWalk.i64_in _ (by omega)
        have e0 : ((q : Int) + 1 == 0) = false := by rw [beq_eq_false_iff_ne]; omega
        have e1 : (q : Int) < (N : Int) := by omega
        have e2 : 0 ≤ (q : Int) := by omega
        clear hz z1 hyr hzr hk0 dk dk0
        by_cases hgp : 65536 < y0 - u0
        ·go_upto_region 21 with fail
         refine wp_region_held_drew (S := (fun w' => w'.cell? ⟨GV, 0, none⟩ = some (.int .i64 y0) ∧ w'.cell? ⟨B3, 1, none⟩ = some (.slice (some ⟨b, off, none⟩) N p1) ∧ w'.cell? ⟨b, off + q * 2, none⟩ = some (.int .i64 u0))) (by kernel_rfl) ?_ (fun hHeld0 => ?_)
         ·(try dsimp only); go_keep
         refine zH 0 ⟨some 146, .fieldAddr 47 (.tmp 20) 0, 0, "law.go:617", #[], none⟩ rfl ?_
         simp only [Act.put, zS]
         refine zH 1 ⟨some 147, .load 3 (.tmp 146), 3, "law.go:617", #[⟨0, .data⟩], none⟩ rfl ?_
         simp only [Act.put, zS]
         refine zH 2 ⟨some 148, .fieldAddr 24 (.tmp 2) 1, 0, "law.go:617", #[], none⟩ rfl ?_
         simp only [Act.put, zS]
         refine zH 3 ⟨some 149, .load 22 (.tmp 148), 22, "law.go:617", #[⟨2, .data⟩], none⟩ rfl ?_
         simp only [Act.put, zS]
         refine zH 4 ⟨some 150, .move (.tmp 19), 3, "law.go:617", #[], none⟩ rfl ?_
         simp only [Act.put, zS]
         refine zH 5 ⟨some 151, .binOp .sub 3 (.tmp 150) (.const (.int .i64 1)) 3, 3, "law.go:617", #[⟨4, .data⟩], none⟩ rfl ?_
         simp only [Act.put, zS]
         refine zH 6 ⟨some 152, .indexAddr 22 (.tmp 149) (.tmp 151), 0, "law.go:617", #[⟨3, .data⟩, ⟨5, .data⟩], none⟩ rfl ?_
         simp only [Act.put, zS]
         refine zH 7 ⟨some 153, .fieldAddr 47 (.tmp 152) 0, 0, "law.go:617", #[⟨6, .data⟩], none⟩ rfl ?_
         simp only [Act.put, zS]
         refine zH 8 ⟨some 154, .load 3 (.tmp 153), 3, "law.go:617", #[⟨7, .data⟩], none⟩ rfl ?_
         simp only [Act.put, zS]
         refine zH 9 ⟨some 155, .binOp .sub 3 (.tmp 147) (.tmp 154) 3, 3, "law.go:617", #[⟨1, .data⟩, ⟨8, .data⟩], none⟩ rfl ?_
         simp only [Act.put, zS]
         refine zH 10 ⟨some 156, .binOp .gtr 3 (.tmp 155) (.const (.int .i64 65536)) 3, 4, "law.go:617", #[⟨9, .data⟩], none⟩ rfl ?_
         simp only [Act.put, zS]
         refine wpAnyH_done (by kernel_rfl) ?_ _
         clear hHeld0
         skip
         go_wp2
         go_ret
         exact ⟨rfl, bthen HBw.out (bthen HB.out hbr1).drew⟩
        ·have hgp2 : ¬ 65536 < y0 - u0 := hgp
         have HG2 := Lib.hid (show ∀ j x y, j + 1 < q + 2 → la[j]? = some x → la[j + 1]? = some y → y.1 - x.1 ≤ 65536 from fun j x y hj h1 h2 => by
          by_cases hjq : j < q
          ·exact HGP.out j x y (by omega) h1 h2
          ·obtain rfl : j = q := by omega
           rw [HZ.out] at h1; cases h1
           rw [HX.out] at h2; cases h2
           show y0 - u0 ≤ 65536
           omega)
         go_upto_region 21 with fail
         refine wp_region_held_drew (S := (fun w' => w'.cell? ⟨GV, 0, none⟩ = some (.int .i64 y0) ∧ w'.cell? ⟨B3, 1, none⟩ = some (.slice (some ⟨b, off, none⟩) N p1) ∧ w'.cell? ⟨b, off + q * 2, none⟩ = some (.int .i64 u0))) (by kernel_rfl) ?_ (fun hHeld0 => ?_)
         ·(try dsimp only); go_keep
         refine zH 0 ⟨some 146, .fieldAddr 47 (.tmp 20) 0, 0, "law.go:617", #[], none⟩ rfl ?_
         simp only [Act.put, zS]
         refine zH 1 ⟨some 147, .load 3 (.tmp 146), 3, "law.go:617", #[⟨0, .data⟩], none⟩ rfl ?_
         simp only [Act.put, zS]
         refine zH 2 ⟨some 148, .fieldAddr 24 (.tmp 2) 1, 0, "law.go:617", #[], none⟩ rfl ?_
         simp only [Act.put, zS]
         refine zH 3 ⟨some 149, .load 22 (.tmp 148), 22, "law.go:617", #[⟨2, .data⟩], none⟩ rfl ?_
         simp only [Act.put, zS]
         refine zH 4 ⟨some 150, .move (.tmp 19), 3, "law.go:617", #[], none⟩ rfl ?_
         simp only [Act.put, zS]
         refine zH 5 ⟨some 151, .binOp .sub 3 (.tmp 150) (.const (.int .i64 1)) 3, 3, "law.go:617", #[⟨4, .data⟩], none⟩ rfl ?_
         simp only [Act.put, zS]
         refine zH 6 ⟨some 152, .indexAddr 22 (.tmp 149) (.tmp 151), 0, "law.go:617", #[⟨3, .data⟩, ⟨5, .data⟩], none⟩ rfl ?_
         simp only [Act.put, zS]
         refine zH 7 ⟨some 153, .fieldAddr 47 (.tmp 152) 0, 0, "law.go:617", #[⟨6, .data⟩], none⟩ rfl ?_
         simp only [Act.put, zS]
         refine zH 8 ⟨some 154, .load 3 (.tmp 153), 3, "law.go:617", #[⟨7, .data⟩], none⟩ rfl ?_
         simp only [Act.put, zS]
         refine zH 9 ⟨some 155, .binOp .sub 3 (.tmp 147) (.tmp 154) 3, 3, "law.go:617", #[⟨1, .data⟩, ⟨8, .data⟩], none⟩ rfl ?_
         simp only [Act.put, zS]
         refine zH 10 ⟨some 156, .binOp .gtr 3 (.tmp 155) (.const (.int .i64 65536)) 3, 4, "law.go:617", #[⟨9, .data⟩], none⟩ rfl ?_
         simp only [Act.put, zS]
         refine wpAnyH_done (by kernel_rfl) ?_ _
         clear hHeld0
         skip
         go_wp2
         go_roundw
         case rel => exact ⟨q + 2, by omega, by go_num, rfl, HG2.out, hbr1.drew⟩
         case measure => (simp [intOf]) <;> omega
      ·obtain rfl : k = N := by omega
       have HGO := Lib.hid (show GapOk la from fun j x y h1 h2 => hgap j x y (by have := (List.getElem?_eq_some_iff.1 h2).1; have := HN.out; omega) h1 h2)
       have hst : (if k = 0 then (0 : Int) else startOf la) = startOf la := by
        by_cases h0 : k = 0
        ·rw [if_pos h0]
         have : la = [] := List.length_eq_zero_iff.1 (by have := HN.out; omega)
         rw [this]; rfl
        ·rw [if_neg h0]
       rw [hst]
       obtain ⟨SO, hSO⟩ : ∃ z, z = startOf la := ⟨_, rfl⟩
       rw [← hSO]
       have HSO := Lib.hid hSO
       have c30 := (HIw.out.carry hB).cell (j := 0) (v := .int .i64 ca) rfl
       have c31 := (HIw.out.carry hB).cell (j := 1) (v := .slice a1 k p1) rfl
       clear hst hSO hgap hlt hk hbr
       go_wp2_with fail
       refine (L1.out wr (HAw.out.carry hB)).mono ?_
       rintro e v2 ⟨⟨x2, m2, q2, rfl, hL⟩, hl⟩
       replace hB := bthen hB hl
       clear c30 c31 hl
       go_wp2_with fail
       refine (TTe.out x2 m2 q2 v2 hL).mono ?_
       rintro e v3 ⟨⟨us, rfl, hU⟩, hl⟩
       replace hB := bthen hB hl
       obtain ⟨ua, uc, hue, -⟩ := hU.slice
       rw [List.length_map, ← HN.out] at hue
       subst hue
       have c31 := (HIw.out.carry hB).cell (j := 1) (v := .slice a1 k p1) rfl
       clear hl hL L1 TTe
       go_wp2_with fail
       have HU := Lib.hid hU
       have HB3 := Lib.hid hB
       have h3 := Below.refl v3.heap.size v3
       clear hU hB c31
       go_loopw [23, 176] (fun mx i wq => ∃ j : Nat, j ≤ k ∧ i = .int .i64 j ∧ OwR wq v3.heap.size 53 6 tV mx (mixL ca (la.take j)) ∧ Below v3.heap.size v3 wq) (fun _ i _ => k - (intOf i).toNat)
       case atStart => exact ⟨0, by omega, rfl, World.ownsRow_nil _ _ _ _, h3⟩
       case round =>
        clear h3
        obtain ⟨j, hj, rfl, hown, hbq⟩ := hrel
        have hB := bthen HB3.out hbq
        by_cases hlt : j < k
        ·obtain ⟨x, hx⟩ : ∃ x, la[j]? = some x := ⟨_, List.getElem?_eq_getElem (by rw [← HN.out]; exact hlt)⟩
         have hy : (la.map (telG ca))[j]? = some (telG ca x) := by rw [List.getElem?_map, hx]; rfl
         obtain ⟨b, off, cp, he, hcs⟩ := (HU.out.carry hbq).head (by rw [List.length_map, ← HN.out]; omega)
         simp only [Value.slice.injEq] at he
         obtain ⟨rfl, -, rfl⟩ := he
         obtain ⟨d0, d1, d2, d3, d4, d5⟩ := rw6 (hcs j _ hy) (show tV (telG ca x) = [.int .i64 ca, .int .i64 (x.1.tmod 65536), .int .i64 x.2, .int .i64 0, .int .i64 0, .int .i64 0] from rfl)
         have HX := Lib.hid (show mixL ca (la.take (j + 1)) = mixL ca (la.take j) ++ [decoy ca, telG ca x] by rw [List.take_add_one, hx]; exact mixL_snoc ca x _)
         have hml := mixL_len ca (la.take j)
         rw [List.length_take] at hml
         have hN5 : k ≤ 257 := by have := HTR.out.len; have := HN.out; omega
         obtain ⟨x0, x1⟩ := x
         simp only at d0 d1 d2 d3 d4 d5
         obtain ⟨cn, hcn⟩ : ∃ z, z = x0.tmod 65536 := ⟨_, rfl⟩
         rw [← hcn] at d1
         have HCN := Lib.hid hcn
         have dk : (j : Int) < (k : Int) := by omega
         have dk0 : 0 ≤ (j : Int) := by omega
         clear hcs hx hy hcn
         go_upto_region 31 with fail
         obtain ⟨V1, hV1⟩ : ∃ v, v = World.alloc wr (Obj.cells #[.int .i64 ca, .int .i64 cn, .int .i64 x1, .int .i64 0, .int .i64 0, .int .i64 0] 53) := ⟨_, rfl⟩
         have kV1 : Below wr.heap.size wr V1 := by rw [hV1]; exact below_new _ _
         have iV1 : Blk V1 (wr.heap.size) 53 [.int .i64 ca, .int .i64 cn, .int .i64 x1, .int .i64 0, .int .i64 0, .int .i64 0] := by rw [hV1]; exact Blk.new _ _ _
         have sV1 : V1.heap.size = wr.heap.size + 1 := by rw [hV1]; simp
         rw [← hV1]
         clear hV1
         have e0 := iV1.cell (j := 0) (v := .int .i64 ca) rfl
         have e1 := iV1.cell (j := 1) (v := .int .i64 cn) rfl
         have e2 := iV1.cell (j := 2) (v := .int .i64 x1) rfl
         have e3 := iV1.cell (j := 3) (v := .int .i64 0) rfl
         have e4 := iV1.cell (j := 4) (v := .int .i64 0) rfl
         have e5 := iV1.cell (j := 5) (v := .int .i64 0) rfl
         have c30 := (HIw.out.carry (bthen hB kV1)).cell (j := 0) (v := .int .i64 ca) rfl
         have hown1 := hown.carry kV1
         have hbq1 := bthen hbq kV1
         have hc := HC.out
         have v0 : IntKind.i64.wrap (ca + 1) = ca + 1 := IntWalk.i64_in _ (by omega)
         clear d0 d1 d2 d3 d4 d5 iV1 kV1 sV1 hB hown hbq
         obtain ⟨i0, hi, hz0, hz1, hz2⟩ := info_parts Tryz.infZphasorTelegram
         have ho : V1.ownsRow v3.heap.size 53 6 u23 (mixL ca (la.take j)).length ((mixL ca (la.take j)).flatMap tV) := hown1
         obtain ⟨fa, fc, rfl⟩ := ownsRow_sl ho
         have hsz := hbq1.size
         obtain ⟨dec, hdec⟩ : ∃ z, z = Int.tmod (ca + 1) 256 := ⟨_, rfl⟩
         have v1 : Int.tmod (ca + 1) 256 = dec := hdec.symm
         have v1' : (ca + 1) % 256 = dec := by rw [hdec]; exact (Int.tmod_eq_emod_of_nonneg (by omega)).symm
         have HDEC := Lib.hid hdec
         have hb6 := below_new V1 (.cells #[.int .i64 dec, .int .i64 0, .int .i64 (-5), .int .i64 6, .int .i64 0, .int .i64 0, .int .i64 ca, .int .i64 cn, .int .i64 x1, .int .i64 0, .int .i64 0, .int .i64 0] 53)
         clear hdec hc
         go_wp2_with (at_builtin; refine wpList_append_own _ rfl _ _ 48 rfl v3.heap.size 53 i0 (.agg #[.int .i64 0, .int .i64 0, .int .i64 0, .int .i64 0, .int .i64 0, .int .i64 0]) 6 48 Tryz.undZphasorTelegram hi hz0 hz1 hz2 rfl (by decide) _ _ _ rfl (ho.alloc _) ⟨V1.heap.size, 0, none⟩ 2 2 [.int .i64 dec, .int .i64 0, .int .i64 (-5), .int .i64 6, .int .i64 0, .int .i64 0, .int .i64 ca, .int .i64 cn, .int .i64 x1, .int .i64 0, .int .i64 0, .int .i64 0] rfl rfl (fun j u hj => (Blk.new V1 53 [.int .i64 dec, .int .i64 0, .int .i64 (-5), .int .i64 6, .int .i64 0, .int .i64 0, .int .i64 ca, .int .i64 cn, .int .i64 x1, .int .i64 0, .int .i64 0, .int .i64 0]).news j u hj) (by simp [Value.oneCell']) (by unfold maxLen; omega) (by omega) (by simp; omega) ?_; intro v' w5 hown5 hgrow5 _)
         have hbq5 := (bthen hbq1 hb6).trans (below_grow (ho.alloc _) (by simp; omega) hgrow5)
         have hO5 : OwR w5 v3.heap.size 53 6 tV v' (mixL ca (la.take (j + 1))) := by
          unfold OwR
          rw [HX.out, List.length_append, List.flatMap_append]
          have e : ([decoy ca, telG ca (x0, x1)] : List Tg).flatMap tV = [.int .i64 dec, .int .i64 0, .int .i64 (-5), .int .i64 6, .int .i64 0, .int .i64 0, .int .i64 ca, .int .i64 cn, .int .i64 x1, .int .i64 0, .int .i64 0, .int .i64 0] := by rw [HDEC.out, HCN.out]; rfl
          rw [e]; exact hown5
         clear hown5 hgrow5 ho hown1 hbq1 hb6
         go_wp2_with fail
         go_roundw
         case rel => exact ⟨j + 1, by omega, by go_num, hO5, hbq5⟩
         case measure => (simp [intOf]) <;> omega
        ·obtain rfl : j = k := by omega
         have htk : la.take j = la := List.take_of_length_le (by rw [← HN.out]; exact Nat.le_refl _)
         rw [htk] at hown
         have hml := mixL_len ca la
         have hmr : Rw 6 tV wr u23 (mixL ca la) := hown.rw (fun _ => rfl)
         obtain ⟨hb1, hb2⟩ := back_ok HC.out HTR.out HGO.out
         have TRc := Received_any u23 ca SO (mixL ca la) wr (by have := HTR.out.len; omega) hmr (HPw.out.carry hB)
         rw [HSO.out, hb1, hb2, ← HSO.out] at TRc
         have TRC := Lib.hid TRc
         obtain ⟨fa, fc, rfl⟩ := ownsRow_sl hown
         have c30 := (HIw.out.carry hB).cell (j := 0) (v := .int .i64 ca) rfl
         clear htk hown hmr hb1 hb2 TRc hml
         go_wp2_with fail
         refine TRC.out.mono ?_
         rintro e v5 ⟨⟨ra, rn, rc, rfl, hR⟩, hl⟩
         replace hB := bthen hB hl
         clear hl c30 TRC
         go_upto_region 34 with fail
         obtain ⟨v6, hv6⟩ : ∃ v, v = v5.alloc (Obj.cells #[.int .i64 ca, .slice ra rn rc] 32) := ⟨_, rfl⟩
         have kb : Below v5.heap.size v5 v6 := by rw [hv6]; exact below_new _ _
         have i26 : Blk v6 v5.heap.size 32 [.int .i64 ca, .slice ra rn rc] := by rw [hv6]; exact Blk.new _ _ _
         rw [← hv6]
         clear hv6
         obtain ⟨G26, hG26⟩ : ∃ g, g = v5.heap.size := ⟨_, rfl⟩
         rw [← hG26] at i26 ⊢
         replace hR := hR.carry kb
         replace hB := bthen hB kb
         clear hG26 kb
         have c30 := (HIw.out.carry hB).cell (j := 0) (v := .int .i64 ca) rfl
         have c31 := (HIw.out.carry hB).cell (j := 1) (v := .slice a1 j p1) rfl
         have c70 := i26.cell (j := 0) (v := .int .i64 ca) rfl
         have c71 := i26.cell (j := 1) (v := .slice ra rn rc) rfl
         have hA := HAw.out.carry hB
         have h6 := Below.refl v6.heap.size v6
         clear i26
         refine wp_region_held_drew (S := (fun W => W.cell? ⟨B3, 0, none⟩ = some (.int .i64 ca) ∧ W.cell? ⟨B3, 1, none⟩ = some (.slice a1 j p1) ∧ W.cell? ⟨G26, 0, none⟩ = some (.int .i64 ca) ∧ W.cell? ⟨G26, 1, none⟩ = some (.slice ra rn rc))) (by kernel_rfl) ⟨cellb c30 h6.drew, cellb c31 h6.drew, cellb c70 h6.drew, cellb c71 h6.drew⟩ (fun hHeld0 => ?_)
         obtain ⟨wzd, hwz⟩ : ∃ v, v = v6.drew := ⟨_, rfl⟩
         rw [← hwz] at hHeld0 ⊢
         have hbzd : Below v6.heap.size v6 wzd := by rw [hwz]; exact h6.drew
         have hlzd : Below v6.heap.size v6 wzd := by rw [hwz]; exact (Below.refl _ _).drew
         have hR := hR.carry hlzd
         have hA := hA.carry hlzd
         clear hwz hlzd
         refine zH 0 ⟨some 199, .move (.tmp 27), 27, "law.go:630", #[], none⟩ rfl ?_
         simp only [Act.put, zS]
         refine zH 1 ⟨some 200, .binOp .eql 27 (.tmp 199) (.const (.int .i64 0)) 27, 4, "law.go:630", #[⟨0, .data⟩], none⟩ rfl ?_
         simp only [Act.put, zS]
         refine zH 2 ⟨some 201, .move (.tmp 200), 4, "law.go:630", #[⟨1, .data⟩], none⟩ rfl ?_
         simp only [Act.put, zS]
         refine zH 3 ⟨some 202, .fieldAddr 32 (.tmp 26) 0, 0, "law.go:630", #[⟨2, .guard⟩], some (2, true)⟩ rfl ?_
         simp only [Act.put, zS]
         refine zH 4 ⟨some 203, .load 3 (.tmp 202), 3, "law.go:630", #[⟨3, .data⟩, ⟨2, .guard⟩], some (2, true)⟩ rfl ?_
         simp only [Act.put, zS]
         refine zH 5 ⟨some 204, .fieldAddr 24 (.tmp 2) 0, 0, "law.go:630", #[⟨2, .guard⟩], some (2, true)⟩ rfl ?_
         simp only [Act.put, zS]
         refine zH 6 ⟨some 205, .load 3 (.tmp 204), 3, "law.go:630", #[⟨5, .data⟩, ⟨2, .guard⟩], some (2, true)⟩ rfl ?_
         simp only [Act.put, zS]
         refine zH 7 ⟨some 206, .binOp .eql 3 (.tmp 203) (.tmp 205) 3, 4, "law.go:630", #[⟨4, .data⟩, ⟨6, .data⟩, ⟨2, .guard⟩], some (2, true)⟩ rfl ?_
         simp only [Act.put, zS]
         refine zH 8 ⟨some 207, .pick (.tmp 201) (.tmp 206) (.const (.bool false)), 4, "law.go:630", #[⟨2, .data⟩, ⟨7, .data⟩], none⟩ rfl ?_
         simp only [Act.put, zS]
         refine zH 9 ⟨some 208, .move (.tmp 207), 4, "law.go:630", #[⟨8, .data⟩, ⟨2, .chain⟩], none⟩ rfl ?_
         simp only [Act.put, zS]
         refine zH 10 ⟨some 209, .fieldAddr 32 (.tmp 26) 1, 0, "law.go:630", #[⟨9, .guard⟩], some (9, true)⟩ rfl ?_
         simp only [Act.put, zS]
         refine zH 11 ⟨some 210, .load 30 (.tmp 209), 30, "law.go:630", #[⟨10, .data⟩, ⟨9, .guard⟩], some (9, true)⟩ rfl ?_
         simp only [Act.put, zS]
         refine zH 13 ⟨some 212, .fieldAddr 24 (.tmp 2) 1, 0, "law.go:630", #[⟨9, .guard⟩], some (9, true)⟩ rfl ?_
         simp only [Act.put, zS]
         refine zH 14 ⟨some 213, .load 22 (.tmp 212), 22, "law.go:630", #[⟨13, .data⟩, ⟨9, .guard⟩], some (9, true)⟩ rfl ?_
         simp only [Act.put, zS]
         refine wpAnyH_ready (rs := [12]) (by kernel_rfl) (by simp) ?_
         refine (AllReadyH.cons (o := ⟨some 211, .call ⟨.value (.func 14), #[.tmp 210], #[30]⟩, 22, "law.go:630", #[⟨11, .data⟩, ⟨9, .chain⟩, ⟨9, .guard⟩], some (9, true)⟩) rfl (fun K hK => ?_) AllReadyH.nil)
         go_simp
         refine (told_any _ la wzd (by have := HTR.out.len; omega) hR).mono ?_
         rintro e wz12 ⟨⟨uo, rfl, ho⟩, hl⟩
         replace ho : Prs _ _ la := ho.rw pV_len
         (try go_wp2_with fail)
         have hbz12 := bthen hbzd hl
         have hR := hR.carry hl
         have hA := hA.carry hl
         clear hl
         refine hK.out _ _ ⟨cellb c30 hbz12, cellb c31 hbz12, cellb c70 hbz12, cellb c71 hbz12⟩ (fun hHeld1 => ?_)
         clear hK K hHeld0
         try simp only [Act.put, zS]
         refine wpAnyH_ready (rs := [15]) (by kernel_rfl) (by simp) ?_
         refine (AllReadyH.cons (o := ⟨some 214, .call ⟨.value (.func 15), #[.tmp 211, .tmp 213], #[22, 22]⟩, 4, "law.go:630", #[⟨12, .data⟩, ⟨14, .data⟩, ⟨12, .chain⟩, ⟨9, .guard⟩], some (9, true)⟩) rfl (fun K hK => ?_) AllReadyH.nil)
         go_simp
         refine (TST.out _ _ wz12 ho hA).mono ?_
         rintro e wz15 ⟨rfl, hl⟩
         (try go_wp2_with fail)
         have hbz15 := bthen hbz12 hl
         have hR := hR.carry hl
         have hA := hA.carry hl
         have ho := ho.carry hl
         clear hl
         refine hK.out _ _ ⟨cellb c30 hbz15, cellb c31 hbz15, cellb c70 hbz15, cellb c71 hbz15⟩ (fun hHeld2 => ?_)
         clear hK K hHeld1
         try simp only [Act.put, zS]
         refine zH 16 ⟨some 215, .pick (.tmp 208) (.tmp 214) (.const (.bool false)), 4, "law.go:630", #[⟨9, .data⟩, ⟨15, .data⟩], none⟩ rfl ?_
         simp only [Act.put, zS]
         refine zH 17 ⟨some 4, .assign (.tmp 215), 4, "law.go:630", #[⟨16, .data⟩, ⟨15, .chain⟩, ⟨0, .phase⟩, ⟨1, .phase⟩, ⟨2, .phase⟩, ⟨3, .phase⟩, ⟨4, .phase⟩, ⟨5, .phase⟩, ⟨6, .phase⟩, ⟨7, .phase⟩, ⟨8, .phase⟩, ⟨9, .phase⟩, ⟨10, .phase⟩, ⟨11, .phase⟩, ⟨12, .phase⟩, ⟨13, .phase⟩, ⟨14, .phase⟩, ⟨15, .phase⟩, ⟨16, .phase⟩], none⟩ rfl ?_
         simp only [Act.put, zS]
         refine wpAnyH_done (by kernel_rfl) ?_ _
         clear hHeld2
         have hb2 := hbz15
         obtain ⟨W6, hW6⟩ : ∃ v, v = wz15 := ⟨_, rfl⟩
         rw [← hW6] at hb2 ⊢
         clear hW6
         go_wp2
         go_ret
         exact ⟨rfl, bthen HBw.out (bthen hB hb2)⟩
end Go.Proofs.YtpmngcffkhbofaaGreatDoor

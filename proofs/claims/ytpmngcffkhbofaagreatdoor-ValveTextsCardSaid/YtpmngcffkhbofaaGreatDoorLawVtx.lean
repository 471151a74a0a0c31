/- The law ValveTexts. -/
import Derived.Test.YtpmngcffkhbofaaGreatDoorVnK
import Derived.Test.YtpmngcffkhbofaaGreatDoorVnI
import Derived.Test.YtpmngcffkhbofaaGreatDoorVnL
import Derived.Test.YtpmngcffkhbofaaGreatDoorVfG
namespace Go.Proofs.YtpmngcffkhbofaaGreatDoor
set_option linter.unusedSimpArgs false
set_option linter.unusedVariables false
open Go.RowKit
theorem short_le {n : Nat} (h : shortB n = true) : n ≤ 257 := by
 unfold shortB at h
 simp at h; omega
theorem parT_len (s : ByteArray) (h : s.size ≤ 100000) : (parT s.data.toList).length ≤ 1000000 := by
 unfold parT
 split
 ·have := linesL_len s.data.toList
  have := data_len s
  rw [trnT_len]; omega
 ·simp
set_option maxRecDepth 100000 in
set_option maxHeartbeats 16000000 in
theorem vtx_law (TA : ∀ W, Pows W → Heads W → Calls Tryz.prog 5 #[] W fun e w' => e = .returned (.bool true) ∧ Below W.heap.size W w')
 (va : Value) (ca : Int) (la : List P2) (s : ByteArray) (w : World) (hp : Pows w) (hh : Heads w) (hm : MaxL w) (hva : Prs w va la) :
 Calls Tryz.prog 3 #[.agg #[.int .i64 ca, va], .string s] w fun e w' => e = .returned (.bool true) ∧ Below w.heap.size w w' := by
 have TA := Lib.hid TA
 obtain ⟨a1, p1, hve, -⟩ := hva.slice
 obtain ⟨N, hN⟩ : ∃ N, N = la.length := ⟨_, rfl⟩
 rw [← hN] at hve
 subst hve
 have T1 := Lib.hid (fun W => Short_any a1 N p1 W)
 have HP := Lib.hid hp
 have HH := Lib.hid hh
 have HML := Lib.hid hm
 have HA := Lib.hid hva
 have HN := Lib.hid hN
 have HS1 := Lib.hid (fun h : shortB N = true => short_le h)
 obtain ⟨s1, hs1⟩ : ∃ b, b = shortB N := ⟨_, rfl⟩
 rw [← hs1] at T1 HS1
 have TPP := Lib.hid (fun (h : s.size ≤ 100000) W (h1 : MaxL W) (h2 : Heads W) => Parse_any s W h h1 h2)
 have TPR := Lib.hid (fun (h : s.size ≤ 100000) W => ParseR_any s W h)
 obtain ⟨n, hn⟩ : ∃ n, n = s.size := ⟨_, rfl⟩
 have hn' : s.size = n := hn.symm
 rw [← hn] at TPP TPR
 clear hp hh hm hva hN hs1 hn
 go_enter Tryz.func3, Tryz.ntmps3
 go_upto_region 1 with fail
 obtain ⟨W1, hW1⟩ : ∃ v, v = World.alloc w (Obj.cells #[.int .i64 ca, .slice a1 N p1] 24) := ⟨_, rfl⟩
 have kW1 : Below w.heap.size w W1 := by rw [hW1]; exact below_new _ _
 have iW1 : Blk W1 (w.heap.size) 24 [.int .i64 ca, .slice a1 N p1] := by rw [hW1]; exact Blk.new _ _ _
 have sW1 : W1.heap.size = w.heap.size + 1 := by rw [hW1]; simp
 rw [← hW1]
 clear hW1
 have I3 := Lib.hid iW1
 have K3 := Lib.hid kW1
 obtain ⟨B3, hB3⟩ : ∃ b, b = w.heap.size := ⟨_, rfl⟩
 rw [← hB3] at I3 ⊢
 clear iW1 kW1 sW1 hB3
 obtain ⟨stop, hstop⟩ : ∃ b, b = (!s1 || decide (200 < n ∧ n ≠ 4097)) := ⟨_, rfl⟩
 have HST := Lib.hid hstop
 clear hstop
 go_cut [32] from 15 to 32 (fun u32 wn => u32 = .bool stop ∧ Below W1.heap.size W1 wn)
 case first =>
  go_wp2_with fail
  refine (TA.out W1 (HP.out.carry K3.out) (HH.out.carry K3.out)).mono ?_
  rintro e w1 ⟨rfl, hb⟩
  have c31 := (I3.out.carry hb).cell (j := 1) (v := .slice a1 N p1) rfl
  go_wp2_with fail
  refine (T1.out w1).mono ?_
  rintro e w2 ⟨rfl, rfl⟩
  clear c31
  cases s1 with
  | false =>
    go_wp2_with fail
    go_meet
    exact ⟨by rw [HST.out]; rfl, hb⟩
  | true =>
    by_cases d1 : 200 < (n : Int)
    ·by_cases d2 : n = 4097
     ·subst d2
      go_wp2_with fail
      go_meet
      exact ⟨by rw [HST.out]; rfl, hb⟩
     ·have d3 : ((n : Int) != 4097) = true := by rw [bne_iff_ne]; omega
      have HX := Lib.hid (show stop = true by rw [HST.out, decide_eq_true (show 200 < n ∧ n ≠ 4097 from ⟨by omega, d2⟩)]; rfl)
      clear d2
      go_wp2_with fail
      go_meet
      exact ⟨by rw [HX.out], hb⟩
    ·have HX := Lib.hid (show stop = false by rw [HST.out, decide_eq_false (show ¬ (200 < n ∧ n ≠ 4097) by omega)]; rfl)
     go_wp2_with fail
     go_meet
     exact ⟨by rw [HX.out], hb⟩
 case rest =>
  obtain ⟨rfl, hb⟩ := hcut
  cases stop with
  | true =>
    go_wp2_with fail
    refine (TA.out wc (HP.out.carry (bthen K3.out hb)) (HH.out.carry (bthen K3.out hb))).mono ?_
    rintro e w2 ⟨rfl, hb2⟩
    go_wp2
    go_ret
    exact ⟨rfl, bthen K3.out (bthen hb hb2)⟩
  | false =>
    have hs1t : s1 = true := by
     cases s1 with
     | true => rfl
     | false => exact absurd HST.out (by simp)
    have hnn : ¬ (200 < n ∧ n ≠ 4097) := fun h => by
     have := HST.out
     rw [decide_eq_true h, Bool.or_true] at this; cases this
    have h1 := HS1.out hs1t
    have hn5 : n ≤ 100000 := by omega
    have HPw := Lib.hid (HP.out.carry (bthen K3.out hb))
    have HHw := Lib.hid (HH.out.carry (bthen K3.out hb))
    have HMw := Lib.hid (HML.out.carry (bthen K3.out hb))
    have HAw := Lib.hid (HA.out.carry (bthen K3.out hb))
    have HIw := Lib.hid (I3.out.carry hb)
    have HBw := Lib.hid (bthen K3.out hb)
    have TPP2 := Lib.hid (fun W => TPP.out hn5 W)
    have TPR2 := Lib.hid (fun W => TPR.out hn5 W)
    have HPL := Lib.hid (show (parT s.data.toList).length ≤ 1000000 from parT_len s (by rw [hn']; exact hn5))
    simp only [ParsePost] at TPP2 TPR2
    obtain ⟨PC, hPC⟩ : ∃ c, c = parC s.data.toList := ⟨_, rfl⟩
    obtain ⟨PN, hPN⟩ : ∃ c, c = parN s.data.toList := ⟨_, rfl⟩
    obtain ⟨PE, hPE⟩ : ∃ c, c = parE s.data.toList := ⟨_, rfl⟩
    obtain ⟨PT, hPT⟩ : ∃ c, c = parT s.data.toList := ⟨_, rfl⟩
    simp only [← hPC, ← hPN, ← hPE, ← hPT] at TPP2 TPR2 HPL
    have HTX := Lib.hid (fun h : logE ca la = 0 => show prtK ca la la.length = prtS ca la by unfold prtS; rw [if_pos h])
    have HTN := Lib.hid (fun h : logE ca la ≠ 0 => show (⟨#[]⟩ : ByteArray) = prtS ca la by unfold prtS; rw [if_neg h])
    have L1 := Lib.hid (fun W (h : Prs W (.slice a1 N p1) la) => logL_any ca a1 N p1 la W (by rw [← HN.out]; omega) h)
    have TC := Lib.hid (fun W (h : Prs W (.slice a1 N p1) la) => CheckLogR_any ca a1 N p1 la W (by rw [← HN.out]; omega) h)
    have TR := Lib.hid (fun W (h : Prs W (.slice a1 N p1) la) (hE : logE ca la = 0) => PrintR_any ca a1 N p1 la W h hE)
    have TPr := Lib.hid (fun x m q W (h : Prs W (.slice x m q) la) hp hh => Print_any ca x m q la W (by rw [← HN.out]; omega) h hp hh)
    have c30 := HIw.out.cell (j := 0) (v := .int .i64 ca) rfl
    have c31 := HIw.out.cell (j := 1) (v := .slice a1 N p1) rfl
    obtain ⟨TXT, hTXT⟩ : ∃ b, b = prtS ca la := ⟨_, rfl⟩
    obtain ⟨E1, hE1⟩ : ∃ e, e = logE ca la := ⟨_, rfl⟩
    simp only [← hTXT, ← hE1] at TC TR TPr HTX HTN
    clear HS1 TA T1 HST hs1t hnn hn5 HP HH HML HA I3 K3 TPP TPR h1 hb hPC hPN hPE hPT hTXT hE1
    go_wp2_with fail
    refine (L1.out wc HAw.out).mono ?_
    rintro e w2 ⟨⟨x1, m1, q1, rfl, hL⟩, hl⟩
    have hB := hl
    clear c30 c31 hl
    go_wp2_with fail
    refine (TPr.out x1 m1 q1 w2 hL (HPw.out.carry hB) (HHw.out.carry hB)).mono ?_
    rintro e w3 ⟨rfl, hl⟩
    replace hB := bthen hB hl
    clear hl hL
    go_wp2_with fail
    refine (TPP2.out w3 (HMw.out.carry hB) (HHw.out.carry hB)).mono ?_
    rintro e w4 ⟨⟨pa, pn, pc, rfl, hP7⟩, hl⟩
    replace hB := bthen hB hl
    clear hl
    go_upto_region 5 with fail
    obtain ⟨w5, hw5⟩ : ∃ v, v = w4.alloc (Obj.cells #[.int .i64 PC, .slice pa pn pc] 32) := ⟨_, rfl⟩
    have kb : Below w4.heap.size w4 w5 := by rw [hw5]; exact below_new _ _
    have i7 : Blk w5 w4.heap.size 32 [.int .i64 PC, .slice pa pn pc] := by rw [hw5]; exact Blk.new _ _ _
    rw [← hw5]
    clear hw5
    obtain ⟨G7, hG7⟩ : ∃ g, g = w4.heap.size := ⟨_, rfl⟩
    rw [← hG7] at i7 ⊢
    replace hP7 := hP7.carry kb
    replace hB := bthen hB kb
    clear hG7 kb
    have c30 := (HIw.out.carry hB).cell (j := 0) (v := .int .i64 ca) rfl
    have c31 := (HIw.out.carry hB).cell (j := 1) (v := .slice a1 N p1) rfl
    go_wp2_with fail
    refine (TC.out w5 (HAw.out.carry hB)).mono ?_
    rintro e w6 ⟨rfl, hl⟩
    replace hB := bthen hB hl
    replace i7 := i7.carry hl
    replace hP7 := hP7.carry hl
    clear c30 c31 hl
    go_upto_if 49 with fail
    have hB0 := Below.refl w6.heap.size w6
    go_cut [11] from 50 to 51 (fun u11 wn => u11 = .string TXT ∧ Below w6.heap.size w6 wn)
    case first =>
     by_cases hz : E1 = 0
     ·have hx := HTX.out hz
      have TR2 := TR.out w6 (HAw.out.carry hB) hz
      rw [hx] at TR2
      have TR3 := Lib.hid TR2
      subst hz
      have c30 := (HIw.out.carry hB).cell (j := 0) (v := .int .i64 ca) rfl
      have c31 := (HIw.out.carry hB).cell (j := 1) (v := .slice a1 N p1) rfl
      clear hx TR2
      go_wp2_with fail
      refine TR3.out.mono ?_
      rintro e w7 ⟨rfl, hl⟩
      go_wp2_with fail
      go_meet
      exact ⟨rfl, hl⟩
     ·have z : (E1 == 0) = false := by rw [beq_eq_false_iff_ne]; exact hz
      have HX := Lib.hid (HTN.out hz)
      clear hz
      go_wp2_with fail
      go_meet
      exact ⟨by rw [HX.out], hB0⟩
    case rest =>
     obtain ⟨rfl, hl⟩ := hcut
     clear hB0
     replace hB := bthen hB hl
     replace i7 := i7.carry hl
     replace hP7 := hP7.carry hl
     clear hl
     go_wp2_with fail
     refine (TPR2.out wc).mono ?_
     rintro e w8 ⟨⟨ra, rn, rc, rfl, hR⟩, hl⟩
     replace hB := bthen hB hl
     replace i7 := i7.carry hl
     replace hP7 := hP7.carry hl
     clear hl
     go_upto_region 10 with fail
     obtain ⟨w9, hw9⟩ : ∃ v, v = w8.alloc (Obj.cells #[.int .i64 PC, .slice ra rn rc] 24) := ⟨_, rfl⟩
     have kb : Below w8.heap.size w8 w9 := by rw [hw9]; exact below_new _ _
     have i12 : Blk w9 w8.heap.size 24 [.int .i64 PC, .slice ra rn rc] := by rw [hw9]; exact Blk.new _ _ _
     rw [← hw9]
     clear hw9
     obtain ⟨G12, hG12⟩ : ∃ g, g = w8.heap.size := ⟨_, rfl⟩
     rw [← hG12] at i12 ⊢
     replace hP7 := hP7.carry kb
     replace hR := hR.carry kb
     replace i7 := i7.carry kb
     replace hB := bthen hB kb
     clear hG12 kb
     have c70 := i7.cell (j := 0) (v := .int .i64 PC) rfl
     have c71 := i7.cell (j := 1) (v := .slice pa pn pc) rfl
     have c120 := i12.cell (j := 0) (v := .int .i64 PC) rfl
     have c121 := i12.cell (j := 1) (v := .slice ra rn rc) rfl
     clear i7 i12
     have hB9 := bthen HBw.out hB
     refine wp_region_held_drew (S := (fun W => W.cell? ⟨G7, 0, none⟩ = some (.int .i64 PC) ∧ W.cell? ⟨G7, 1, none⟩ = some (.slice pa pn pc) ∧ W.cell? ⟨G12, 0, none⟩ = some (.int .i64 PC) ∧ W.cell? ⟨G12, 1, none⟩ = some (.slice ra rn rc))) (by kernel_rfl) ⟨cellb c70 (Below.refl _ _).drew, cellb c71 (Below.refl _ _).drew, cellb c120 (Below.refl _ _).drew, cellb c121 (Below.refl _ _).drew⟩ (fun hHeld0 => ?_)
     obtain ⟨wzd, hwz⟩ : ∃ v, v = w9.drew := ⟨_, rfl⟩
     rw [← hwz] at hHeld0 ⊢
     have hbzd : Below w9.heap.size w9 wzd := by rw [hwz]; exact (Below.refl _ _).drew
     have hlzd : Below w9.heap.size w9 wzd := by rw [hwz]; exact (Below.refl _ _).drew
     have hP7 := hP7.carry hlzd
     have hR := hR.carry hlzd
     clear hwz hlzd
     refine zH 0 ⟨some 58, .move (.tmp 5), 9, "law.go:335", #[], none⟩ rfl ?_
     simp only [Act.put, zS]
     refine zH 1 ⟨some 59, .move (.tmp 11), 9, "law.go:335", #[], none⟩ rfl ?_
     simp only [Act.put, zS]
     refine zH 2 ⟨some 60, .binOp .eql 9 (.tmp 58) (.tmp 59) 9, 4, "law.go:335", #[⟨0, .data⟩, ⟨1, .data⟩], none⟩ rfl ?_
     simp only [Act.put, zS]
     refine zH 3 ⟨some 61, .move (.tmp 60), 4, "law.go:335", #[⟨2, .data⟩], none⟩ rfl ?_
     simp only [Act.put, zS]
     refine zH 4 ⟨some 62, .move (.tmp 6), 27, "law.go:335", #[⟨3, .guard⟩], some (3, true)⟩ rfl ?_
     simp only [Act.put, zS]
     refine zH 5 ⟨some 63, .move (.tmp 10), 3, "law.go:335", #[⟨3, .guard⟩], some (3, true)⟩ rfl ?_
     simp only [Act.put, zS]
     refine zH 6 ⟨some 64, .binOp .eql 3 (.tmp 62) (.tmp 63) 3, 4, "law.go:335", #[⟨4, .data⟩, ⟨5, .data⟩, ⟨3, .guard⟩], some (3, true)⟩ rfl ?_
     simp only [Act.put, zS]
     refine zH 7 ⟨some 65, .pick (.tmp 61) (.tmp 64) (.const (.bool false)), 4, "law.go:335", #[⟨3, .data⟩, ⟨6, .data⟩], none⟩ rfl ?_
     simp only [Act.put, zS]
     refine zH 8 ⟨some 66, .move (.tmp 65), 4, "law.go:335", #[⟨7, .data⟩, ⟨3, .chain⟩], none⟩ rfl ?_
     simp only [Act.put, zS]
     refine zH 9 ⟨some 67, .fieldAddr 32 (.tmp 7) 0, 0, "law.go:335", #[⟨8, .guard⟩], some (8, true)⟩ rfl ?_
     simp only [Act.put, zS]
     refine zH 10 ⟨some 68, .load 3 (.tmp 67), 3, "law.go:335", #[⟨9, .data⟩, ⟨8, .guard⟩], some (8, true)⟩ rfl ?_
     simp only [Act.put, zS]
     refine zH 11 ⟨some 69, .fieldAddr 32 (.tmp 7) 1, 0, "law.go:335", #[⟨8, .guard⟩], some (8, true)⟩ rfl ?_
     simp only [Act.put, zS]
     refine zH 12 ⟨some 70, .load 30 (.tmp 69), 30, "law.go:335", #[⟨11, .data⟩, ⟨8, .guard⟩], some (8, true)⟩ rfl ?_
     simp only [Act.put, zS]
     refine zH 15 ⟨some 73, .load 24 (.tmp 12), 24, "law.go:335", #[⟨8, .guard⟩], some (8, true)⟩ rfl ?_
     simp only [Act.put, zS]
     refine wpAnyH_ready (rs := [13]) (by kernel_rfl) (by simp) ?_
     refine (AllReadyH.cons (o := ⟨some 71, .call ⟨.value (.func 14), #[.tmp 70], #[30]⟩, 22, "law.go:335", #[⟨12, .data⟩, ⟨8, .chain⟩, ⟨8, .guard⟩], some (8, true)⟩) rfl (fun K hK => ?_) AllReadyH.nil)
     go_simp
     refine (told_any _ PT wzd HPL.out hP7).mono ?_
     rintro e wz13 ⟨⟨uo, rfl, ho⟩, hl⟩
     replace ho : Prs _ _ PT := ho.rw pV_len
     obtain ⟨oa, oc, rfl, -⟩ := ho.slice
     (try go_wp2_with fail)
     have hbz13 := bthen hbzd hl
     have hP7 := hP7.carry hl
     have hR := hR.carry hl
     clear hl
     refine hK.out _ _ ⟨cellb c70 hbz13, cellb c71 hbz13, cellb c120 hbz13, cellb c121 hbz13⟩ (fun hHeld1 => ?_)
     clear hK K hHeld0
     try simp only [Act.put, zS]
     refine zH 14 ⟨some 72, .build 24 #[(0, .tmp 68), (1, .tmp 71)], 24, "law.go:335", #[⟨10, .data⟩, ⟨13, .data⟩, ⟨8, .guard⟩], some (8, true)⟩ rfl ?_
     simp only [Act.put, zS]
     refine wpAnyH_ready (rs := [16]) (by kernel_rfl) (by simp) ?_
     refine (AllReadyH.cons (o := ⟨some 74, .call ⟨.value (.func 13), #[.tmp 72, .tmp 73], #[24, 24]⟩, 4, "law.go:335", #[⟨14, .data⟩, ⟨15, .data⟩, ⟨13, .chain⟩, ⟨8, .guard⟩], some (8, true)⟩) rfl (fun K hK => ?_) AllReadyH.nil)
     go_simp
     refine (Same_self PC _ _ _ _ _ _ PT wz13 (by have := HPL.out; omega) ho hR).mono ?_
     rintro e wz16 ⟨rfl, hl⟩
     (try go_wp2_with fail)
     have hbz16 := bthen hbz13 hl
     have hP7 := hP7.carry hl
     have hR := hR.carry hl
     have ho := ho.carry hl
     clear hl
     refine hK.out _ _ ⟨cellb c70 hbz16, cellb c71 hbz16, cellb c120 hbz16, cellb c121 hbz16⟩ (fun hHeld2 => ?_)
     clear hK K hHeld1
     try simp only [Act.put, zS]
     refine zH 17 ⟨some 75, .pick (.tmp 66) (.tmp 74) (.const (.bool false)), 4, "law.go:335", #[⟨8, .data⟩, ⟨16, .data⟩], none⟩ rfl ?_
     simp only [Act.put, zS]
     refine zH 18 ⟨some 76, .move (.tmp 75), 4, "law.go:335", #[⟨17, .data⟩, ⟨16, .chain⟩], none⟩ rfl ?_
     simp only [Act.put, zS]
     refine zH 19 ⟨some 77, .move (.tmp 8), 3, "law.go:335", #[⟨18, .guard⟩], some (18, true)⟩ rfl ?_
     simp only [Act.put, zS]
     refine zH 20 ⟨some 78, .move (.tmp 13), 3, "law.go:335", #[⟨18, .guard⟩], some (18, true)⟩ rfl ?_
     simp only [Act.put, zS]
     refine zH 21 ⟨some 79, .binOp .eql 3 (.tmp 77) (.tmp 78) 3, 4, "law.go:335", #[⟨19, .data⟩, ⟨20, .data⟩, ⟨18, .guard⟩], some (18, true)⟩ rfl ?_
     simp only [Act.put, zS]
     refine zH 22 ⟨some 80, .pick (.tmp 76) (.tmp 79) (.const (.bool false)), 4, "law.go:335", #[⟨18, .data⟩, ⟨21, .data⟩], none⟩ rfl ?_
     simp only [Act.put, zS]
     refine zH 23 ⟨some 81, .move (.tmp 80), 4, "law.go:335", #[⟨22, .data⟩, ⟨18, .chain⟩], none⟩ rfl ?_
     simp only [Act.put, zS]
     refine zH 24 ⟨some 82, .move (.tmp 9), 27, "law.go:335", #[⟨23, .guard⟩], some (23, true)⟩ rfl ?_
     simp only [Act.put, zS]
     refine zH 25 ⟨some 83, .move (.tmp 14), 3, "law.go:335", #[⟨23, .guard⟩], some (23, true)⟩ rfl ?_
     simp only [Act.put, zS]
     refine zH 26 ⟨some 84, .binOp .eql 3 (.tmp 82) (.tmp 83) 3, 4, "law.go:335", #[⟨24, .data⟩, ⟨25, .data⟩, ⟨23, .guard⟩], some (23, true)⟩ rfl ?_
     simp only [Act.put, zS]
     refine zH 27 ⟨some 85, .pick (.tmp 81) (.tmp 84) (.const (.bool false)), 4, "law.go:335", #[⟨23, .data⟩, ⟨26, .data⟩], none⟩ rfl ?_
     simp only [Act.put, zS]
     refine zH 28 ⟨some 4, .assign (.tmp 85), 4, "law.go:335", #[⟨27, .data⟩, ⟨23, .chain⟩, ⟨0, .phase⟩, ⟨1, .phase⟩, ⟨2, .phase⟩, ⟨3, .phase⟩, ⟨4, .phase⟩, ⟨5, .phase⟩, ⟨6, .phase⟩, ⟨7, .phase⟩, ⟨8, .phase⟩, ⟨9, .phase⟩, ⟨10, .phase⟩, ⟨11, .phase⟩, ⟨12, .phase⟩, ⟨13, .phase⟩, ⟨14, .phase⟩, ⟨15, .phase⟩, ⟨16, .phase⟩, ⟨17, .phase⟩, ⟨18, .phase⟩, ⟨19, .phase⟩, ⟨20, .phase⟩, ⟨21, .phase⟩, ⟨22, .phase⟩, ⟨23, .phase⟩, ⟨24, .phase⟩, ⟨25, .phase⟩, ⟨26, .phase⟩, ⟨27, .phase⟩], none⟩ rfl ?_
     simp only [Act.put, zS]
     refine wpAnyH_done (by kernel_rfl) ?_ _
     clear hHeld2
     have hb2 := hbz16
     obtain ⟨W6, hW6⟩ : ∃ v, v = wz16 := ⟨_, rfl⟩
     rw [← hW6] at hb2 ⊢
     clear hW6
     go_wp2
     go_ret
     exact ⟨rfl, bthen hB9 hb2⟩
end Go.Proofs.YtpmngcffkhbofaaGreatDoor

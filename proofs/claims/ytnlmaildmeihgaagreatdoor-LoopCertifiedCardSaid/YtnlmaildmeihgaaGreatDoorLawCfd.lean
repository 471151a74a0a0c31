/- The law LoopCertified. -/
import Derived.Test.YtnlmaildmeihgaaGreatDoorRefP
import Derived.Test.YtnlmaildmeihgaaGreatDoorLawLps
import Derived.Test.YtnlmaildmeihgaaGreatDoorPlainC
import Derived.Deep.CutBlock
namespace Go.Proofs.YtnlmaildmeihgaaGreatDoor
set_option linter.unusedSimpArgs false
set_option linter.unusedVariables false
open Go.RowKit

theorem OwnI.setOther {e base B j : Nat} {w : World} {v x : Value} {l : List Int} (h : OwnI e base w v l) (hB : B < base) : OwnI e base (w.setCell ⟨B, j, none⟩ x) v l := by
  obtain ⟨h1, h2⟩ := h
  refine ⟨h1, ?_⟩
  rcases h2 with h2 | ⟨g, cap, cur, e1, hg, hh, hr⟩
  · exact .inl h2
  · exact .inr ⟨g, cap, cur, e1, hg, (Below.heap_setCell _ _ _ _ (by first | (show g ≠ B; omega) | (show B ≠ g; omega))).trans hh, hr⟩
theorem neqCx (x y : Nat) (hx : FEq x) (hy : FEq y) (w : World) : Sem.run Tryz.prog (binOp .neq 48 (.complex .f64 x y) (.complex .f64 x y)) w = .ok (.bool false) w := by
  have hu : Tryz.prog.underlying 48 = some (.complex .f64) := by kernel_rfl
  have h1 : FloatKind.f64.format.order x x = some .eq := by have h := hx; simpa [FEq, Op.floatEq] using h
  have h2 : FloatKind.f64.format.order y y = some .eq := by have h := hy; simpa [FEq, Op.floatEq] using h
  go_simp
theorem many_le {a b c d : List Int} {bx : List (Int × Int)} (h : checkBoxE a b c d bx = 0) (hl : bx.length ≤ 7) : (membersW bx).length ≤ 256 := by
  obtain ⟨h1, h2, _⟩ := checkBoxE_ok h
  obtain ⟨_, _, e3⟩ := box1E_ok h1
  have hm := many_all (intervalsE_ok e3) hl
  unfold box2E at h2
  obtain ⟨_, h2⟩ := firstE_cons_ok h2
  obtain ⟨h2, _⟩ := firstE_cons_ok h2
  have h2 := whenE_ok h2 (by decide)
  simp only [decide_eq_false_iff_not] at h2
  omega

set_option maxRecDepth 100000 in
set_option maxHeartbeats 16000000 in
theorem cfd_law (va vb vc vd vx : Value) (a b c d : List Int) (bx : List (Int × Int)) (w : World) (hq : Quarters w) (hpw : Pows w) (ha : Ints w va a) (hb : Ints w vb b) (hc : Ints w vc c) (hd : Ints w vd d) (hx : Pairs w vx bx) :
    Calls Tryz.prog 10 #[.agg #[va, vb, vc, vd], vx] w fun e w' => e = .returned (.bool true) ∧ Below w.heap.size w w' := by
  have HA := Lib.hid ha
  have HB := Lib.hid hb
  have HC := Lib.hid hc
  have HD := Lib.hid hd
  have HX := Lib.hid hx
  obtain ⟨xa, ca, rfl, _⟩ := id ha
  obtain ⟨xb, cb, rfl, _⟩ := id hb
  obtain ⟨xc, cc, rfl, _⟩ := id hc
  obtain ⟨xd, cd, rfl, _⟩ := id hd
  obtain ⟨xx, cx, rfl, _⟩ := id hx
  clear ha hb hc hd hx
  go_enter Tryz.func10, Tryz.ntmps10
  go_upto_region 1 with fail
  obtain ⟨W1, hW1⟩ : ∃ v, v = World.alloc w (Obj.cells #[.slice xa a.length ca, .slice xb b.length cb, .slice xc c.length cc, .slice xd d.length cd] 40) := ⟨_, rfl⟩
  have kW1 : Below w.heap.size w W1 := by rw [hW1]; exact below_new _ _
  have iW1 : Blk W1 (w.heap.size) 40 [.slice xa a.length ca, .slice xb b.length cb, .slice xc c.length cc, .slice xd d.length cd] := by rw [hW1]; exact Blk.new _ _ _
  have sW1 : W1.heap.size = w.heap.size + 1 := by rw [hW1]; simp
  rw [← hW1]
  clear hW1
  clear sW1
  have hB := kW1
  have iB := iW1
  clear kW1 iW1
  have e0 := iB.cell (j := 0) (v := .slice xa a.length ca) rfl
  have e1 := iB.cell (j := 1) (v := .slice xb b.length cb) rfl
  have e2 := iB.cell (j := 2) (v := .slice xc c.length cc) rfl
  have e3 := iB.cell (j := 3) (v := .slice xd d.length cd) rfl
  go_wp2_with fail
  clear e0 e1 e2 e3
  refine (ShortR_any _ _ _ _ a b c d W1 (HA.out.carry hB) (HB.out.carry hB) (HC.out.carry hB) (HD.out.carry hB)).mono ?_
  rintro e w1 ⟨rfl, hl⟩
  replace hB := bthen hB hl
  replace iB := iB.carry hl
  clear hl
  by_cases hs : shortL a b c d = true
  · have hs7 : a.length ≤ 7 ∧ b.length ≤ 7 ∧ c.length ≤ 7 ∧ d.length ≤ 7 := of_decide_eq_true hs
    obtain ⟨la, lb, lc, ld⟩ := hs7
    rw [hs]
    clear hs
    by_cases h7 : 7 < bx.length
    · have d7 : (7 : Int) < (bx.length : Int) := by omega
      go_wp2_with fail
      refine (awake_any w1 (hq.below hB hq.size) (hpw.below hB)).mono ?_
      rintro e y4 ⟨rfl, hl⟩
      go_wp2
      go_ret
      exact ⟨rfl, bthen hB hl⟩
    · have d7 : ¬ (7 : Int) < (bx.length : Int) := by omega
      have e0 := iB.cell (j := 0) (v := .slice xa a.length ca) rfl
      have e1 := iB.cell (j := 1) (v := .slice xb b.length cb) rfl
      have e2 := iB.cell (j := 2) (v := .slice xc c.length cc) rfl
      have e3 := iB.cell (j := 3) (v := .slice xd d.length cd) rfl
      go_wp2_with fail
      clear e0 e1 e2 e3
      refine (CheckBoxR_any _ _ _ _ _ a b c d bx w1 (HA.out.carry hB) (HB.out.carry hB) (HC.out.carry hB) (HD.out.carry hB) (HX.out.carry hB) (by omega) (by omega) (by omega) (by omega)).mono ?_
      rintro e w2 ⟨rfl, hl⟩
      replace hB := bthen hB hl
      replace iB := iB.carry hl
      clear hl d7
      by_cases h1 : checkBoxE a b c d bx = 0
      · have HE := Lib.hid h1
        have HLP := Lib.hid (box1E_ok (checkBoxE_ok h1).1).1
        have HIV := Lib.hid (intervalsE_ok (box1E_ok (checkBoxE_ok h1).1).2.2)
        have HML := Lib.hid (fun m (hm : m ∈ membersW bx) => member_loop h1 hm)
        have HMN := Lib.hid (fun m (hm : m ∈ membersW bx) => membersW_length hm)
        have HM2 := Lib.hid (many_le h1 (by omega))
        have hbl : bx.length = a.length := (box1E_ok (checkBoxE_ok h1).1).2.1
        have HBL := Lib.hid hbl
        have hcr : certR a b c d bx = certW b c d bx := by rw [certR, if_neg (by rw [h1]; simp)]
        have TCF := Lib.hid (fun (W : World) (va vb vc vd ux : Value) (g1 : Ints W va a) (g2 : Ints W vb b) (g3 : Ints W vc c) (g4 : Ints W vd d) (g5 : Pairs W ux bx) => Certify_any va vb vc vd ux a b c d bx W g1 g2 g3 g4 g5 (by omega) (by omega) (by omega) (by omega) (by omega))
        rw [h1, hcr] at TCF
        rw [h1]
        clear hbl h1 hcr
        go_wp2_with fail
        refine (MembersR_any _ bx w2 (HX.out.carry hB) (fun x hx => by have := HIV.out x hx; omega) (by omega) (by have := HM2.out; omega)).mono ?_
        rintro e w3 ⟨⟨um, rfl, hum⟩, hl⟩
        replace hB := bthen hB hl
        replace iB := iB.carry hl
        clear hl
        obtain ⟨L, hL⟩ : ∃ L, L = membersW bx := ⟨_, rfl⟩
        have hcw : certW b c d bx = L.find? (fun p => !stableB (closedW p b c d)) := by rw [hL]; rfl
        rw [← hL] at hum HML HMN HM2
        rw [hcw] at TCF
        clear hL hcw HE HIV
        obtain ⟨IS, hIS⟩ : ∃ x, x = (L.find? (fun p => !stableB (closedW p b c d))).isSome := ⟨_, rfl⟩
        obtain ⟨M, hM⟩ : ∃ x, x = (L.find? (fun p => !stableB (closedW p b c d))).getD [] := ⟨_, rfl⟩
        rw [← hIS, ← hM] at TCF
        have HIS := Lib.hid hIS
        have HM := Lib.hid hM
        clear hIS hM
        obtain ⟨ua, ⟨xu, cu, rfl, _, _⟩, hla, _⟩ := id hum
        rw [hla] at hum ⊢
        clear hla
        by_cases h40 : 40 < L.length
        · have d40 : (40 : Int) < (L.length : Int) := by omega
          go_wp2_with fail
          refine (awake_any w3 (hq.below hB hq.size) (hpw.below hB)).mono ?_
          rintro e y4 ⟨rfl, hl⟩
          go_wp2
          go_ret
          exact ⟨rfl, bthen hB hl⟩
        · have d40 : ¬ (40 : Int) < (L.length : Int) := by omega
          have e0 := iB.cell (j := 0) (v := .slice xa a.length ca) rfl
          have e1 := iB.cell (j := 1) (v := .slice xb b.length cb) rfl
          have e2 := iB.cell (j := 2) (v := .slice xc c.length cc) rfl
          have e3 := iB.cell (j := 3) (v := .slice xd d.length cd) rfl
          go_wp2_with fail
          clear e0 e1 e2 e3
          refine (given_any _ _ _ _ a b c d w3 (HA.out.carry hB) (HB.out.carry hB) (HC.out.carry hB) (HD.out.carry hB) (by omega) (by omega) (by omega) (by omega)).mono ?_
          rintro e w4 ⟨⟨u0, rfl, hu0⟩, hl⟩
          replace hB := bthen hB hl
          replace iB := iB.carry hl
          replace hum := hum.carry hl
          clear hl
          clear d40
          go_wp2_with fail
          refine (box_any _ bx w4 (HX.out.carry hB) (by omega)).mono ?_
          rintro e w5 ⟨⟨ux, rfl, hux⟩, hl⟩
          replace hu0 := hu0.carry hl
          replace hB := bthen hB hl
          replace iB := iB.carry hl
          replace hum := hum.carry hl
          clear hl
          obtain ⟨va, vb, vc, vd, rfl, g1, g2, g3, g4⟩ := hu0
          go_wp2_with fail
          refine (TCF.out w5 va vb vc vd ux g1 g2 g3 g4 hux).mono ?_
          rintro e w6 ⟨⟨us, rfl, hus⟩, hl⟩
          replace hB := bthen hB hl
          replace iB := iB.carry hl
          replace hum := hum.carry hl
          clear hl g1 g2 g3 g4 hux TCF
          obtain ⟨xs, cs, rfl, _⟩ := id hus
          have hab : a.length ≤ 7 := la
          go_upto_block 0 with fail
          go_cut [9, 11, 12, 13, 14, 15, 16] from 69 to 107 (fun v9 v11 v12 v13 v14 v15 v16 wn => v9 = .bool IS ∧ Below w6.heap.size w6 wn)
          case first =>
            obtain ⟨ua, ⟨xu', cu', e, _, hca⟩, hla, hra⟩ := hum
            injection e with e1 e2 e3
            subst e1
            subst e3
            clear e2
            rw [hla] at hca
            have HLA := Lib.hid hla
            have HCA := Lib.hid hca
            have HRA := Lib.hid hra
            clear hla hca hra
            obtain ⟨ws, rfl⟩ : ∃ v, v = w6 := ⟨_, rfl⟩
            go_wp2_with fail
            go_loopw [9, 69] (fun v9 v69 wr => ∃ i : Nat, i ≤ L.length ∧ v69 = .int .i64 i ∧ v9 = .bool false ∧ (∀ m ∈ L.take i, stableB (closedW m b c d) = true) ∧ Below ws.heap.size ws wr) (fun _ v69 _ => L.length - (intOf v69).toNat)
            case atStart => exact ⟨0, Nat.zero_le _, rfl, rfl, fun m h => by simp at h, Below.refl _ _⟩
            case round =>
              obtain ⟨i, hi, rfl, rfl, hno, hbr⟩ := hrel
              have HNO := Lib.hid hno
              clear hno
              by_cases hlt : i < L.length
              · obtain ⟨m, hmk⟩ : ∃ m, L[i]? = some m := ⟨_, List.getElem?_eq_getElem hlt⟩
                have hml := HML.out m (List.mem_of_getElem? hmk)
                have hmn : m.length = a.length := by rw [HMN.out m (List.mem_of_getElem? hmk), HBL.out]
                obtain ⟨f1, f2, f3⟩ := loop_facts hml
                have hcl : (closedW m b c d).length ≤ 100000 := by have := closedW_length m b c d; omega
                obtain ⟨ux, hux⟩ : ∃ y, ua[i]? = some y := ⟨_, List.getElem?_eq_getElem (by rw [HLA.out]; exact hlt)⟩
                obtain ⟨ba, oa, hax, hda⟩ := HCA.out (by omega)
                cases hax
                have cux := cellb (hda i ux hux) hbr
                have ix := HRA.out i ux m hux hmk
                obtain ⟨pa, pc, rfl, _⟩ := id ix
                have HMM := Lib.hid hmn
                have hbR := bthen hB hbr
                have iR := iB.carry hbr
                have d1 : (i : Int) < (L.length : Int) := by omega
                have TCL := Lib.hid (fun (W : World) (va vb vc vd : Value) (g1 : Ints W va m) (g2 : Ints W vb b) (g3 : Ints W vc c) (g4 : Ints W vd d) => Closed_any va vb vc vd m b c d W g1 g2 g3 g4 (by omega) (by omega) (by omega) (by omega))
                rw [f1, hml] at TCL
                have TCP := Lib.hid (fun u W (h : Ints W u (closedW m b c d)) => CheckPolyR_any u _ W h (by omega))
                rw [f2] at TCP
                have TST := Lib.hid (fun u W (h : Ints W u (closedW m b c d)) => Stable_any u _ W h (by omega))
                rw [f3, f2] at TST
                have TPL := Lib.hid (fun u W (h : Ints W u (closedW m b c d)) => polyL_any u _ W h (by omega))
                have HIX := Lib.hid ix
                have HMK := Lib.hid hmk
                generalize hS : stableB (closedW m b c d) = S at TST
                have HS := Lib.hid hS
                generalize hCL : closedW m b c d = cl at TCL TCP TST TPL
                clear hda hux ix hmk hml hmn f1 f2 f3 hcl hS hCL
                have e0 := iR.cell (j := 0) (v := .slice xa a.length ca) rfl
                have e1 := iR.cell (j := 1) (v := .slice xb b.length cb) rfl
                have e2 := iR.cell (j := 2) (v := .slice xc c.length cc) rfl
                have e3 := iR.cell (j := 3) (v := .slice xd d.length cd) rfl
                go_upto_region 14 with fail
                obtain ⟨X1, hX1⟩ : ∃ v, v = World.alloc wr (Obj.cells #[.slice xa a.length ca, .slice xb b.length cb, .slice xc c.length cc, .slice xd d.length cd] 40) := ⟨_, rfl⟩
                have kX1 : Below wr.heap.size wr X1 := by rw [hX1]; exact below_new _ _
                have iX1 : Blk X1 (wr.heap.size) 40 [.slice xa a.length ca, .slice xb b.length cb, .slice xc c.length cc, .slice xd d.length cd] := by rw [hX1]; exact Blk.new _ _ _
                have sX1 : X1.heap.size = wr.heap.size + 1 := by rw [hX1]; simp
                rw [← hX1]
                clear hX1
                clear sX1 e0 e1 e2 e3 d1
                replace cux := cellb cux kX1
                have t0 := iX1.cell (j := 0) (v := .slice xa a.length ca) rfl
                have t1 := iX1.frozen 0
                go_upto_region 15 with fail
                clear t0 t1
                have iX2 := iX1.set 0 (.slice pa m.length pc)
                have hX2 := kX1.setCell (p := ⟨wr.heap.size, 0, none⟩) (Nat.le_refl _) (.slice pa m.length pc)
                generalize X1.setCell ⟨wr.heap.size, 0, none⟩ (.slice pa m.length pc) = X2 at iX2 hX2 ⊢
                clear iX1 kX1
                have e0 := iX2.cell (j := 0) (v := .slice pa m.length pc) rfl
                have e1 := iX2.cell (j := 1) (v := .slice xb b.length cb) rfl
                have e2 := iX2.cell (j := 2) (v := .slice xc c.length cc) rfl
                have e3 := iX2.cell (j := 3) (v := .slice xd d.length cd) rfl
                have hbX := bthen hbR hX2
                have hbr2 := bthen hbr hX2
                go_wp2_with fail
                clear e0 e1 e2 e3 iX2
                refine (given_any _ _ _ _ m b c d X2 (HIX.out.carry hbr2) (HB.out.carry hbX) (HC.out.carry hbX) (HD.out.carry hbX) (by have := HMM.out; omega) (by omega) (by omega) (by omega)).mono ?_
                rintro e y1 ⟨⟨u0, rfl, hu0⟩, hl⟩
                replace hbr2 := bthen hbr2 hl
                clear hl hX2 hbX
                obtain ⟨va, vb, vc, vd, rfl, g1, g2, g3, g4⟩ := hu0
                go_wp2_with fail
                refine (TCL.out y1 va vb vc vd g1 g2 g3 g4).mono ?_
                rintro e y2 ⟨⟨uc, rfl, huc⟩, hl⟩
                replace hbr2 := bthen hbr2 hl
                clear hl g1 g2 g3 g4
                go_wp2_with fail
                refine (TCP.out uc y2 huc).mono ?_
                rintro e y3 ⟨rfl, rfl⟩
                go_wp2_with fail
                refine (TPL.out uc y2 huc).mono ?_
                rintro e y3 ⟨⟨up, rfl, hup⟩, hl⟩
                replace hbr2 := bthen hbr2 hl
                clear hl huc
                go_wp2_with fail
                refine (TST.out up y3 hup).mono ?_
                rintro e y4 ⟨rfl, hl⟩
                replace hbr2 := bthen hbr2 hl
                clear hl hup
                cases S with
                | true =>
                  have HNO2 := Lib.hid (show ∀ y ∈ L.take (i + 1), stableB (closedW y b c d) = true from fun y hy => by
                    rw [take_snoc HMK.out] at hy
                    rcases List.mem_append.1 hy with h | h
                    · exact HNO.out y h
                    · obtain rfl := List.mem_singleton.1 h
                      exact HS.out)
                  go_wp2_with fail
                  go_roundw
                  case rel => exact ⟨i + 1, by omega, by go_num, rfl, HNO2.out, hbr2⟩
                  case measure => simp [intOf]; omega
                | false =>
                  have hR : L.find? (fun p => !stableB (closedW p b c d)) = some m := find_prefix (pre := L.take i) (by rw [← take_snoc HMK.out]; exact List.take_prefix _ _) (fun y hy => by rw [HNO.out y hy]; rfl) (by rw [HS.out]; rfl)
                  obtain rfl : IS = true := by rw [HIS.out, hR]; rfl
                  obtain rfl : M = m := by rw [HM.out, hR]; rfl
                  clear hR
                  go_wp2_with fail
                  refine (sameInts _ _ _ y4 (hus.carry hbr2) (HIX.out.carry hbr2) (by have := HMM.out; omega)).mono ?_
                  rintro e y5 ⟨rfl, hl⟩
                  go_wp2_with fail
                  go_meet
                  exact ⟨rfl, bthen hbr2 hl⟩
              · obtain rfl : i = L.length := by omega
                have hR : L.find? (fun p => !stableB (closedW p b c d)) = none := by
                  have := HNO.out
                  rw [List.take_length] at this
                  rw [List.find?_eq_none]
                  intro y hy
                  rw [this y hy]; simp
                obtain rfl : IS = false := by rw [HIS.out, hR]; rfl
                clear hR
                have d1 : ¬ ((L.length : Int) < (L.length : Int)) := by omega
                go_wp2_with fail
                go_meet
                exact ⟨rfl, hbr⟩
          case rest =>
            obtain ⟨rfl, hl⟩ := hcut
            obtain ⟨w7, rfl⟩ : ∃ v, v = wc := ⟨_, rfl⟩
            replace hB := bthen hB hl
            replace iB := iB.carry hl
            clear hl hum hus HIS HM HML HMN HM2
            obtain ⟨f1, f2, f3⟩ := loop_facts HLP.out
            have hlen := closedW_length a b c d
            obtain ⟨ea, eb, ec, ed⟩ := checkLoopE_ok HLP.out
            have a1 := checkPolyE_ok ea
            have b1 := checkPolyE_ok eb
            have c1 := checkPolyE_ok ec
            have d1 := checkPolyE_ok ed
            clear ea eb ec ed
            have HLEN := Lib.hid (show (closedW a b c d).length ≤ 100000 by omega)
            have TCL := Lib.hid (fun (W : World) (va vb vc vd : Value) (g1 : Ints W va a) (g2 : Ints W vb b) (g3 : Ints W vc c) (g4 : Ints W vd d) => Closed_any va vb vc vd a b c d W g1 g2 g3 g4 (by omega) (by omega) (by omega) (by omega))
            rw [f1, HLP.out] at TCL
            have TCP := Lib.hid (fun u W (h : Ints W u (closedW a b c d)) => CheckPolyR_any u _ W h (by have := HLEN.out; omega))
            rw [f2] at TCP
            have TPL := Lib.hid (fun u W (h : Ints W u (closedW a b c d)) => polyL_any u _ W h (by have := HLEN.out; omega))
            have TVL := Lib.hid (fun u W (k : Nat) (h : Ints W u (closedW a b c d)) => Value_any u _ (quarterAt k).1 (quarterAt k).2 W h (by have := HLEN.out; omega))
            have TQV := Lib.hid (fun k => quarter_value f2 k)
            have hrr : respR a b c d = respRow (closedW a b c d) 4 := by rw [respR, if_neg (by rw [HLP.out]; simp)]
            have TRS := Lib.hid (fun (W : World) (va vb vc vd : Value) (hQ : Quarters W) (g1 : Ints W va a) (g2 : Ints W vb b) (g3 : Ints W vc c) (g4 : Ints W vd d) => Response_any va vb vc vd a b c d W hQ g1 g2 g3 g4 (by omega) (by omega) (by omega) (by omega))
            obtain ⟨r0, i0, r1, i1, r2, i2, r3, i3, hR, hF⟩ := respR_four a b c d
            rw [hR, HLP.out] at TRS
            rw [hrr] at hR
            have HR := Lib.hid hR
            have HF := Lib.hid hF
            clear hrr hR hF f1 f2 f3 hlen
            generalize closedW a b c d = cl at TCL TCP TPL TVL TQV HR HLEN
            have e0 := iB.cell (j := 0) (v := .slice xa a.length ca) rfl
            have e1 := iB.cell (j := 1) (v := .slice xb b.length cb) rfl
            have e2 := iB.cell (j := 2) (v := .slice xc c.length cc) rfl
            have e3 := iB.cell (j := 3) (v := .slice xd d.length cd) rfl
            go_wp2_with fail
            clear e0 e1 e2 e3
            refine (given_any _ _ _ _ a b c d w7 (HA.out.carry hB) (HB.out.carry hB) (HC.out.carry hB) (HD.out.carry hB) (by omega) (by omega) (by omega) (by omega)).mono ?_
            rintro e w8 ⟨⟨u0, rfl, hu0⟩, hl⟩
            replace hB := bthen hB hl
            replace iB := iB.carry hl
            clear hl
            obtain ⟨va, vb, vc, vd, rfl, g1, g2, g3, g4⟩ := hu0
            go_wp2_with fail
            refine (TCL.out w8 va vb vc vd g1 g2 g3 g4).mono ?_
            rintro e w9 ⟨⟨uc, rfl, huc⟩, hl⟩
            replace hB := bthen hB hl
            replace iB := iB.carry hl
            clear hl g1 g2 g3 g4
            obtain ⟨xc2, cc2, rfl, _⟩ := id huc
            have e0 := iB.cell (j := 0) (v := .slice xa a.length ca) rfl
            have e1 := iB.cell (j := 1) (v := .slice xb b.length cb) rfl
            have e2 := iB.cell (j := 2) (v := .slice xc c.length cc) rfl
            have e3 := iB.cell (j := 3) (v := .slice xd d.length cd) rfl
            go_wp2_with fail
            clear e0 e1 e2 e3
            refine (given_any _ _ _ _ a b c d w9 (HA.out.carry hB) (HB.out.carry hB) (HC.out.carry hB) (HD.out.carry hB) (by omega) (by omega) (by omega) (by omega)).mono ?_
            rintro e wa ⟨⟨u0, rfl, hu0⟩, hl⟩
            replace hB := bthen hB hl
            replace iB := iB.carry hl
            replace huc := huc.carry hl
            clear hl
            obtain ⟨va, vb, vc, vd, rfl, g1, g2, g3, g4⟩ := hu0
            go_wp2_with fail
            refine (TRS.out wa va vb vc vd (hq.below hB hq.size) g1 g2 g3 g4).mono ?_
            rintro e wb ⟨rfl, hl⟩
            replace hB := bthen hB hl
            replace iB := iB.carry hl
            replace huc := huc.carry hl
            clear hl g1 g2 g3 g4
            have hsx := store_cx
            go_upto_region 30 with fail
            clear hsx
            obtain ⟨W8, hW8⟩ : ∃ v, v = World.alloc wb (Obj.cells #[.complex .f64 r0 i0, .complex .f64 r1 i1, .complex .f64 r2 i2, .complex .f64 r3 i3] 49) := ⟨_, rfl⟩
            have kW8 : Below wb.heap.size wb W8 := by rw [hW8]; exact below_new _ _
            have iW8 : Blk W8 (wb.heap.size) 49 [.complex .f64 r0 i0, .complex .f64 r1 i1, .complex .f64 r2 i2, .complex .f64 r3 i3] := by rw [hW8]; exact Blk.new _ _ _
            have sW8 : W8.heap.size = wb.heap.size + 1 := by rw [hW8]; simp
            rw [← hW8]
            clear hW8
            clear sW8
            have i9 := iW8
            rw [← HR.out] at i9
            replace hB := bthen hB kW8
            replace iB := iB.carry kW8
            replace huc := huc.carry kW8
            clear kW8 iW8
            generalize wb.heap.size = R9 at i9 ⊢
            go_wp2_with fail
            refine (TCP.out _ W8 huc).mono ?_
            rintro e wd ⟨rfl, rfl⟩
            go_wp2_with fail
            refine (Quarters_any _).mono ?_
            rintro e we ⟨rfl, hv2⟩
            have hl : Below W8.heap.size W8 we := by rw [← hv2]; exact below_new _ _
            have iq : Blk we W8.heap.size 59 [.int .i64 1, .int .i64 0, .int .i64 0, .int .i64 1, .int .i64 (-1), .int .i64 0, .int .i64 0, .int .i64 (-1)] := by rw [← hv2]; exact Blk.new _ _ _
            clear hv2
            replace hB := bthen hB hl
            replace iB := iB.carry hl
            replace huc := huc.carry hl
            replace i9 := i9.carry hl
            clear hl
            generalize W8.heap.size = Q at iq ⊢
            obtain ⟨wf, rfl⟩ : ∃ v, v = we := ⟨_, rfl⟩
            go_wp2
            go_loopw [134] (fun vi wr => ∃ k : Nat, k ≤ 4 ∧ vi = .int .i64 k ∧ Below wf.heap.size wf wr) (fun vi _ => 4 - (intOf vi).toNat)
            case atStart => exact ⟨0, by omega, rfl, Below.refl _ _⟩
            case round =>
              obtain ⟨k, hk, rfl, hbr⟩ := hrel
              have iqr := iq.carry hbr
              have i9r := i9.carry hbr
              have hucr := huc.carry hbr
              by_cases hlt : k < 4
              · have hq2 : wr.cell? ⟨Q, k * 2, none⟩ = some (.int .i64 (quarterAt k).1) ∧ wr.cell? ⟨Q, k * 2 + 1, none⟩ = some (.int .i64 (quarterAt k).2) := by
                  obtain rfl | rfl | rfl | rfl : k = 0 ∨ k = 1 ∨ k = 2 ∨ k = 3 := by omega
                  all_goals exact ⟨iqr.cell rfl, iqr.cell rfl⟩
                obtain ⟨d0, d1⟩ := hq2
                have tv := fun u W h => TVL.out u W k h
                rw [(TQV.out k).1, (TQV.out k).2] at tv
                have c0 := i9r.cell (respRow_get cl k hlt)
                have hrv : respV cl k = .complex .f64 (floatOfInt .f64 (atW cl (quarterAt k).1 (quarterAt k).2).1) (floatOfInt .f64 (atW cl (quarterAt k).1 (quarterAt k).2).2) := rfl
                rw [hrv] at c0
                generalize quarterAt k = z at d0 d1 c0 tv
                have TV := Lib.hid tv
                clear tv hrv
                have hlt' : (k : Int) < 4 := by omega
                go_upto_region 35 with fail
                obtain ⟨X1, hX1⟩ : ∃ v, v = World.alloc wr (Obj.cells #[.int .i64 z.1, .int .i64 z.2] 59) := ⟨_, rfl⟩
                have kX1 : Below wr.heap.size wr X1 := by rw [hX1]; exact below_new _ _
                have iX1 : Blk X1 (wr.heap.size) 59 [.int .i64 z.1, .int .i64 z.2] := by rw [hX1]; exact Blk.new _ _ _
                have sX1 : X1.heap.size = wr.heap.size + 1 := by rw [hX1]; simp
                rw [← hX1]
                clear hX1
                clear sX1 d0 d1
                replace c0 := cellb c0 kX1
                replace hucr := hucr.carry kX1
                have hbr1 := bthen hbr kX1
                have t0 := iX1.cell (j := 0) (v := .int .i64 z.1) rfl
                have t1 := iX1.cell (j := 1) (v := .int .i64 z.2) rfl
                clear iX1 kX1
                generalize atW cl z.1 z.2 = y at TV c0
                generalize wr.heap.size = G1 at t0 t1 ⊢
                go_cut [23, 24] from 139 to 145 (fun v23 v24 wn => ∃ G2, v23 = .pointer (some ⟨G2, 0, none⟩) ∧ Blk wn G2 59 [.int .i64 y.1, .int .i64 y.2] ∧ v24 = .int .i64 0 ∧ Below X1.heap.size X1 wn)
                case first =>
                  refine wp_region_held_drew (S := (fun w' => w'.cell? ⟨G1, 0, none⟩ = some (.int .i64 z.1) ∧ w'.cell? ⟨G1, 1, none⟩ = some (.int .i64 z.2) ∧ w'.cell? ⟨R9, k, none⟩ = some (.complex .f64 (floatOfInt .f64 y.1) (floatOfInt .f64 y.2)))) (by kernel_rfl) ⟨cellb t0 (Below.refl _ _).drew, cellb t1 (Below.refl _ _).drew, cellb c0 (Below.refl _ _).drew⟩ (fun hHeld0 => ?_)
                  obtain ⟨wzd, hwz⟩ : ∃ v, v = X1.drew := ⟨_, rfl⟩
                  rw [← hwz] at hHeld0 ⊢
                  have hbzd : Below X1.heap.size X1 wzd := by rw [hwz]; exact (Below.refl _ _).drew
                  have hlzd : Below X1.heap.size X1 wzd := by rw [hwz]; exact (Below.refl _ _).drew
                  have hucr := hucr.carry hlzd
                  clear hwz hlzd
                  refine wpAnyH_take (i := 0) (oi := { dst := some 140, op := Op.move (Operand.tmp 17), type := 26, pos := "law.go:412", after := #[], guard := none }) (v := ?_) rfl (by kernel_rfl) (by kernel_rfl) (by kernel_rfl) (fun _ _ _ h => h) (Or.inl ⟨by rfl, ?_⟩) (by assumption) ?_
                  rotate_left
                  · (intro w hSw; (try dsimp only at hSw); go_simp); (try with_reducible rfl)
                  try simp only [Act.put, List.setIfInBounds_toArray, List.set_cons_zero, List.set_cons_succ]
                  refine wpAnyH_take (i := 2) (oi := { dst := some 142, op := Op.load 59 (Operand.tmp 22), type := 59, pos := "law.go:412", after := #[], guard := none }) (v := ?_) rfl (by kernel_rfl) (by kernel_rfl) (by kernel_rfl) (fun _ _ _ h => h) (Or.inl ⟨by rfl, ?_⟩) (by assumption) ?_
                  rotate_left
                  · (intro w hSw; (try dsimp only at hSw); go_simp); (try with_reducible rfl)
                  try simp only [Act.put, List.setIfInBounds_toArray, List.set_cons_zero, List.set_cons_succ]
                  refine wpAnyH_ready (rs := [1, 7]) (by kernel_rfl) (by simp) ?_
                  refine (AllReadyH.cons (o := { dst := some 141, op := Op.call { callee := Callee.value (Operand.func 20), args := #[Operand.tmp 140], argTypes := #[22] }, type := 26, pos := "law.go:412", after := #[{ on := 0, ground := Ground.data }], guard := none }) rfl (fun K hK => ?_) (AllReadyH.cons (o := { dst := some 23, op := Op.alloc 59, type := 0, pos := "law.go:412", after := #[], guard := none }) rfl (fun K hK => ?_) AllReadyH.nil))
                  · go_simp
                    refine (TPL.out _ wzd hucr).mono ?_
                    rintro e wz1 ⟨⟨up, rfl, hup⟩, hl⟩
                    (try go_wp2_with fail)
                    have hbz1 := bthen hbzd hl
                    have hucr := hucr.carry hl
                    clear hl
                    refine hK.out _ _ ⟨cellb t0 hbz1, cellb t1 hbz1, cellb c0 hbz1⟩ (fun hHeld1 => ?_)
                    clear hK K hHeld0
                    try simp only [Act.put, List.setIfInBounds_toArray, List.set_cons_zero, List.set_cons_succ]
                    refine wpAnyH_ready (rs := [3, 7]) (by kernel_rfl) (by simp) ?_
                    refine (AllReadyH.cons (o := { dst := some 143, op := Op.call { callee := Callee.value (Operand.func 61), args := #[Operand.tmp 141, Operand.tmp 142], argTypes := #[26, 59] }, type := 106, pos := "law.go:412", after := #[{ on := 1, ground := Ground.data }, { on := 2, ground := Ground.data }, { on := 1, ground := Ground.chain }], guard := none }) rfl (fun K hK => ?_) (AllReadyH.cons (o := { dst := some 23, op := Op.alloc 59, type := 0, pos := "law.go:412", after := #[], guard := none }) rfl (fun K hK => ?_) AllReadyH.nil))
                    · go_simp
                      refine (TV.out up wz1 hup).mono ?_
                      rintro e wz3 ⟨rfl, hl⟩
                      (try go_wp2_with fail)
                      have hbz3 := bthen hbz1 hl
                      have hucr := hucr.carry hl
                      have hup := hup.carry hl
                      clear hl
                      refine hK.out _ _ ⟨cellb t0 hbz3, cellb t1 hbz3, cellb c0 hbz3⟩ (fun hHeld2 => ?_)
                      clear hK K hHeld1
                      try simp only [Act.put, List.setIfInBounds_toArray, List.set_cons_zero, List.set_cons_succ]
                      refine wpAnyH_take (i := 4) (oi := { dst := some 139, op := Op.move (Operand.tmp 143), type := 106, pos := "law.go:412", after := #[{ on := 3, ground := Ground.data }], guard := none }) (v := ?_) rfl (by kernel_rfl) (by kernel_rfl) (by kernel_rfl) (fun _ _ _ h => h) (Or.inl ⟨by rfl, ?_⟩) (by assumption) ?_
                      rotate_left
                      · (intro w hSw; (try dsimp only at hSw); go_simp); (try with_reducible rfl)
                      try simp only [Act.put, List.setIfInBounds_toArray, List.set_cons_zero, List.set_cons_succ]
                      refine wpAnyH_take (i := 5) (oi := { dst := some 144, op := Op.extract (Operand.tmp 139) 0, type := 59, pos := "law.go:412", after := #[{ on := 4, ground := Ground.data }], guard := none }) (v := ?_) rfl (by kernel_rfl) (by kernel_rfl) (by kernel_rfl) (fun _ _ _ h => h) (Or.inl ⟨by rfl, ?_⟩) (by assumption) ?_
                      rotate_left
                      · (intro w hSw; (try dsimp only at hSw); go_simp); (try with_reducible rfl)
                      try simp only [Act.put, List.setIfInBounds_toArray, List.set_cons_zero, List.set_cons_succ]
                      refine wpAnyH_take (i := 6) (oi := { dst := some 145, op := Op.extract (Operand.tmp 139) 1, type := 27, pos := "law.go:412", after := #[{ on := 4, ground := Ground.data }, { on := 8, ground := Ground.gcOnly Departure.lateStores }], guard := none }) (v := ?_) rfl (by kernel_rfl) (by kernel_rfl) (by kernel_rfl) (fun _ _ _ h => h) (Or.inl ⟨by rfl, ?_⟩) (by assumption) ?_
                      rotate_left
                      · (intro w hSw; (try dsimp only at hSw); go_simp); (try with_reducible rfl)
                      try simp only [Act.put, List.setIfInBounds_toArray, List.set_cons_zero, List.set_cons_succ]
                      refine wpAnyH_ready (rs := [7]) (by kernel_rfl) (by simp) ?_
                      refine (AllReadyH.cons (o := { dst := some 23, op := Op.alloc 59, type := 0, pos := "law.go:412", after := #[], guard := none }) rfl (fun K hK => ?_) AllReadyH.nil)
                      go_simp
                      obtain ⟨wz7, hwz⟩ : ∃ v, v = wz3.alloc (Obj.cells #[.int .i64 0, .int .i64 0] 59) := ⟨_, rfl⟩
                      rw [← hwz]
                      have hl : Below wz3.heap.size wz3 wz7 := by rw [hwz]; exact below_new _ _
                      have hbz7 := bthen hbz3 hl
                      have bx7 : Blk wz7 wz3.heap.size 59 [.int .i64 0, .int .i64 0] := by rw [hwz]; exact Blk.new _ _ _
                      have hBs : X1.heap.size ≤ wz3.heap.size := (hbz3).size
                      generalize wz3.heap.size = G2 at bx7 hBs ⊢
                      clear hwz
                      have hucr := hucr.carry hl
                      have hup := hup.carry hl
                      clear hl
                      refine hK.out _ _ ⟨cellb t0 hbz7, cellb t1 hbz7, cellb c0 hbz7⟩ (fun hHeld3 => ?_)
                      clear hK K hHeld2
                      try simp only [Act.put, List.setIfInBounds_toArray, List.set_cons_zero, List.set_cons_succ]
                      refine wpAnyH_ready (rs := [8]) (by kernel_rfl) (by simp) ?_
                      refine (AllReadyH.cons (o := { dst := none, op := Op.store 59 (Operand.tmp 23) (Operand.tmp 144), type := 0, pos := "law.go:412", after := #[{ on := 7, ground := Ground.data }, { on := 5, ground := Ground.data }, { on := 3, ground := Ground.chain }, { on := 0, ground := Ground.phase }, { on := 1, ground := Ground.phase }, { on := 2, ground := Ground.phase }, { on := 3, ground := Ground.phase }, { on := 4, ground := Ground.phase }, { on := 5, ground := Ground.phase }, { on := 6, ground := Ground.textOnly Departure.lateStores }, { on := 7, ground := Ground.phase }], guard := none }) rfl (fun K hK => ?_) AllReadyH.nil)
                      have q0 := bx7.cell (j := 0) (v := .int .i64 0) rfl
                      have q1 := bx7.cell (j := 1) (v := .int .i64 0) rfl
                      have f0 := bx7.frozen 0
                      have f1 := bx7.frozen 1
                      go_simp
                      obtain ⟨wz8, hwz⟩ : ∃ v, v = (wz7.setCell ⟨G2, 0, none⟩ (.int .i64 y.1)).setCell ⟨G2, 1, none⟩ (.int .i64 y.2) := ⟨_, rfl⟩
                      rw [← hwz]
                      have hbz8 : Below X1.heap.size X1 wz8 := by rw [hwz]; exact (hbz7.setCell hBs _).setCell hBs _
                      have bx7 := bx7.set2 (.int .i64 y.1) (.int .i64 y.2)
                      rw [← hwz] at bx7
                      clear q0 q1 f0 f1
                      clear hwz
                      refine hK.out _ _ ⟨cellb t0 hbz8, cellb t1 hbz8, cellb c0 hbz8⟩ (fun hHeld4 => ?_)
                      clear hK K hHeld3
                      try simp only [Act.put, List.setIfInBounds_toArray, List.set_cons_zero, List.set_cons_succ]
                      refine wpAnyH_take (i := 9) (oi := { dst := some 24, op := Op.assign (Operand.tmp 145), type := 27, pos := "law.go:412", after := #[{ on := 6, ground := Ground.data }, { on := 8, ground := Ground.chain }, { on := 0, ground := Ground.phase }, { on := 1, ground := Ground.phase }, { on := 2, ground := Ground.phase }, { on := 3, ground := Ground.phase }, { on := 4, ground := Ground.phase }, { on := 5, ground := Ground.phase }, { on := 6, ground := Ground.phase }, { on := 7, ground := Ground.phase }, { on := 8, ground := Ground.phase }], guard := none }) (v := ?_) rfl (by kernel_rfl) (by kernel_rfl) (by kernel_rfl) (fun _ _ _ h => h) (Or.inl ⟨by rfl, ?_⟩) (by assumption) ?_
                      rotate_left
                      · (intro w hSw; (try dsimp only at hSw); go_simp); (try with_reducible rfl)
                      try simp only [Act.put, List.setIfInBounds_toArray, List.set_cons_zero, List.set_cons_succ]
                      refine wpAnyH_done (by kernel_rfl) ?_ _
                      clear hHeld4
                      go_wp2_with fail
                      go_meet
                      exact ⟨_, rfl, bx7, rfl, hbz8⟩
                    · go_simp
                      obtain ⟨wz7, hwz⟩ : ∃ v, v = wz1.alloc (Obj.cells #[.int .i64 0, .int .i64 0] 59) := ⟨_, rfl⟩
                      rw [← hwz]
                      have hl : Below wz1.heap.size wz1 wz7 := by rw [hwz]; exact below_new _ _
                      have hbz7 := bthen hbz1 hl
                      have bx7 : Blk wz7 wz1.heap.size 59 [.int .i64 0, .int .i64 0] := by rw [hwz]; exact Blk.new _ _ _
                      have hBs : X1.heap.size ≤ wz1.heap.size := (hbz1).size
                      generalize wz1.heap.size = G2 at bx7 hBs ⊢
                      clear hwz
                      have hucr := hucr.carry hl
                      have hup := hup.carry hl
                      clear hl
                      refine hK.out _ _ ⟨cellb t0 hbz7, cellb t1 hbz7, cellb c0 hbz7⟩ (fun hHeld2 => ?_)
                      clear hK K hHeld1
                      try simp only [Act.put, List.setIfInBounds_toArray, List.set_cons_zero, List.set_cons_succ]
                      refine wpAnyH_ready (rs := [3]) (by kernel_rfl) (by simp) ?_
                      refine (AllReadyH.cons (o := { dst := some 143, op := Op.call { callee := Callee.value (Operand.func 61), args := #[Operand.tmp 141, Operand.tmp 142], argTypes := #[26, 59] }, type := 106, pos := "law.go:412", after := #[{ on := 1, ground := Ground.data }, { on := 2, ground := Ground.data }, { on := 1, ground := Ground.chain }], guard := none }) rfl (fun K hK => ?_) AllReadyH.nil)
                      go_simp
                      refine (TV.out up wz7 hup).mono ?_
                      rintro e wz3 ⟨rfl, hl⟩
                      (try go_wp2_with fail)
                      have hbz3 := bthen hbz7 hl
                      have hucr := hucr.carry hl
                      have hup := hup.carry hl
                      have bx7 := bx7.carry hl
                      clear hl
                      refine hK.out _ _ ⟨cellb t0 hbz3, cellb t1 hbz3, cellb c0 hbz3⟩ (fun hHeld3 => ?_)
                      clear hK K hHeld2
                      try simp only [Act.put, List.setIfInBounds_toArray, List.set_cons_zero, List.set_cons_succ]
                      refine wpAnyH_take (i := 4) (oi := { dst := some 139, op := Op.move (Operand.tmp 143), type := 106, pos := "law.go:412", after := #[{ on := 3, ground := Ground.data }], guard := none }) (v := ?_) rfl (by kernel_rfl) (by kernel_rfl) (by kernel_rfl) (fun _ _ _ h => h) (Or.inl ⟨by rfl, ?_⟩) (by assumption) ?_
                      rotate_left
                      · (intro w hSw; (try dsimp only at hSw); go_simp); (try with_reducible rfl)
                      try simp only [Act.put, List.setIfInBounds_toArray, List.set_cons_zero, List.set_cons_succ]
                      refine wpAnyH_take (i := 5) (oi := { dst := some 144, op := Op.extract (Operand.tmp 139) 0, type := 59, pos := "law.go:412", after := #[{ on := 4, ground := Ground.data }], guard := none }) (v := ?_) rfl (by kernel_rfl) (by kernel_rfl) (by kernel_rfl) (fun _ _ _ h => h) (Or.inl ⟨by rfl, ?_⟩) (by assumption) ?_
                      rotate_left
                      · (intro w hSw; (try dsimp only at hSw); go_simp); (try with_reducible rfl)
                      try simp only [Act.put, List.setIfInBounds_toArray, List.set_cons_zero, List.set_cons_succ]
                      refine wpAnyH_take (i := 6) (oi := { dst := some 145, op := Op.extract (Operand.tmp 139) 1, type := 27, pos := "law.go:412", after := #[{ on := 4, ground := Ground.data }, { on := 8, ground := Ground.gcOnly Departure.lateStores }], guard := none }) (v := ?_) rfl (by kernel_rfl) (by kernel_rfl) (by kernel_rfl) (fun _ _ _ h => h) (Or.inl ⟨by rfl, ?_⟩) (by assumption) ?_
                      rotate_left
                      · (intro w hSw; (try dsimp only at hSw); go_simp); (try with_reducible rfl)
                      try simp only [Act.put, List.setIfInBounds_toArray, List.set_cons_zero, List.set_cons_succ]
                      refine wpAnyH_ready (rs := [8]) (by kernel_rfl) (by simp) ?_
                      refine (AllReadyH.cons (o := { dst := none, op := Op.store 59 (Operand.tmp 23) (Operand.tmp 144), type := 0, pos := "law.go:412", after := #[{ on := 7, ground := Ground.data }, { on := 5, ground := Ground.data }, { on := 3, ground := Ground.chain }, { on := 0, ground := Ground.phase }, { on := 1, ground := Ground.phase }, { on := 2, ground := Ground.phase }, { on := 3, ground := Ground.phase }, { on := 4, ground := Ground.phase }, { on := 5, ground := Ground.phase }, { on := 6, ground := Ground.textOnly Departure.lateStores }, { on := 7, ground := Ground.phase }], guard := none }) rfl (fun K hK => ?_) AllReadyH.nil)
                      have q0 := bx7.cell (j := 0) (v := .int .i64 0) rfl
                      have q1 := bx7.cell (j := 1) (v := .int .i64 0) rfl
                      have f0 := bx7.frozen 0
                      have f1 := bx7.frozen 1
                      go_simp
                      obtain ⟨wz8, hwz⟩ : ∃ v, v = (wz3.setCell ⟨G2, 0, none⟩ (.int .i64 y.1)).setCell ⟨G2, 1, none⟩ (.int .i64 y.2) := ⟨_, rfl⟩
                      rw [← hwz]
                      have hbz8 : Below X1.heap.size X1 wz8 := by rw [hwz]; exact (hbz3.setCell hBs _).setCell hBs _
                      have bx7 := bx7.set2 (.int .i64 y.1) (.int .i64 y.2)
                      rw [← hwz] at bx7
                      clear q0 q1 f0 f1
                      clear hwz
                      refine hK.out _ _ ⟨cellb t0 hbz8, cellb t1 hbz8, cellb c0 hbz8⟩ (fun hHeld4 => ?_)
                      clear hK K hHeld3
                      try simp only [Act.put, List.setIfInBounds_toArray, List.set_cons_zero, List.set_cons_succ]
                      refine wpAnyH_take (i := 9) (oi := { dst := some 24, op := Op.assign (Operand.tmp 145), type := 27, pos := "law.go:412", after := #[{ on := 6, ground := Ground.data }, { on := 8, ground := Ground.chain }, { on := 0, ground := Ground.phase }, { on := 1, ground := Ground.phase }, { on := 2, ground := Ground.phase }, { on := 3, ground := Ground.phase }, { on := 4, ground := Ground.phase }, { on := 5, ground := Ground.phase }, { on := 6, ground := Ground.phase }, { on := 7, ground := Ground.phase }, { on := 8, ground := Ground.phase }], guard := none }) (v := ?_) rfl (by kernel_rfl) (by kernel_rfl) (by kernel_rfl) (fun _ _ _ h => h) (Or.inl ⟨by rfl, ?_⟩) (by assumption) ?_
                      rotate_left
                      · (intro w hSw; (try dsimp only at hSw); go_simp); (try with_reducible rfl)
                      try simp only [Act.put, List.setIfInBounds_toArray, List.set_cons_zero, List.set_cons_succ]
                      refine wpAnyH_done (by kernel_rfl) ?_ _
                      clear hHeld4
                      go_wp2_with fail
                      go_meet
                      exact ⟨_, rfl, bx7, rfl, hbz8⟩
                  · go_simp
                    obtain ⟨wz7, hwz⟩ : ∃ v, v = wzd.alloc (Obj.cells #[.int .i64 0, .int .i64 0] 59) := ⟨_, rfl⟩
                    rw [← hwz]
                    have hl : Below wzd.heap.size wzd wz7 := by rw [hwz]; exact below_new _ _
                    have hbz7 := bthen hbzd hl
                    have bx7 : Blk wz7 wzd.heap.size 59 [.int .i64 0, .int .i64 0] := by rw [hwz]; exact Blk.new _ _ _
                    have hBs : X1.heap.size ≤ wzd.heap.size := (hbzd).size
                    generalize wzd.heap.size = G2 at bx7 hBs ⊢
                    clear hwz
                    have hucr := hucr.carry hl
                    clear hl
                    refine hK.out _ _ ⟨cellb t0 hbz7, cellb t1 hbz7, cellb c0 hbz7⟩ (fun hHeld1 => ?_)
                    clear hK K hHeld0
                    try simp only [Act.put, List.setIfInBounds_toArray, List.set_cons_zero, List.set_cons_succ]
                    refine wpAnyH_ready (rs := [1]) (by kernel_rfl) (by simp) ?_
                    refine (AllReadyH.cons (o := { dst := some 141, op := Op.call { callee := Callee.value (Operand.func 20), args := #[Operand.tmp 140], argTypes := #[22] }, type := 26, pos := "law.go:412", after := #[{ on := 0, ground := Ground.data }], guard := none }) rfl (fun K hK => ?_) AllReadyH.nil)
                    go_simp
                    refine (TPL.out _ wz7 hucr).mono ?_
                    rintro e wz1 ⟨⟨up, rfl, hup⟩, hl⟩
                    (try go_wp2_with fail)
                    have hbz1 := bthen hbz7 hl
                    have hucr := hucr.carry hl
                    have bx7 := bx7.carry hl
                    clear hl
                    refine hK.out _ _ ⟨cellb t0 hbz1, cellb t1 hbz1, cellb c0 hbz1⟩ (fun hHeld2 => ?_)
                    clear hK K hHeld1
                    try simp only [Act.put, List.setIfInBounds_toArray, List.set_cons_zero, List.set_cons_succ]
                    refine wpAnyH_ready (rs := [3]) (by kernel_rfl) (by simp) ?_
                    refine (AllReadyH.cons (o := { dst := some 143, op := Op.call { callee := Callee.value (Operand.func 61), args := #[Operand.tmp 141, Operand.tmp 142], argTypes := #[26, 59] }, type := 106, pos := "law.go:412", after := #[{ on := 1, ground := Ground.data }, { on := 2, ground := Ground.data }, { on := 1, ground := Ground.chain }], guard := none }) rfl (fun K hK => ?_) AllReadyH.nil)
                    go_simp
                    refine (TV.out up wz1 hup).mono ?_
                    rintro e wz3 ⟨rfl, hl⟩
                    (try go_wp2_with fail)
                    have hbz3 := bthen hbz1 hl
                    have hucr := hucr.carry hl
                    have bx7 := bx7.carry hl
                    have hup := hup.carry hl
                    clear hl
                    refine hK.out _ _ ⟨cellb t0 hbz3, cellb t1 hbz3, cellb c0 hbz3⟩ (fun hHeld3 => ?_)
                    clear hK K hHeld2
                    try simp only [Act.put, List.setIfInBounds_toArray, List.set_cons_zero, List.set_cons_succ]
                    refine wpAnyH_take (i := 4) (oi := { dst := some 139, op := Op.move (Operand.tmp 143), type := 106, pos := "law.go:412", after := #[{ on := 3, ground := Ground.data }], guard := none }) (v := ?_) rfl (by kernel_rfl) (by kernel_rfl) (by kernel_rfl) (fun _ _ _ h => h) (Or.inl ⟨by rfl, ?_⟩) (by assumption) ?_
                    rotate_left
                    · (intro w hSw; (try dsimp only at hSw); go_simp); (try with_reducible rfl)
                    try simp only [Act.put, List.setIfInBounds_toArray, List.set_cons_zero, List.set_cons_succ]
                    refine wpAnyH_take (i := 5) (oi := { dst := some 144, op := Op.extract (Operand.tmp 139) 0, type := 59, pos := "law.go:412", after := #[{ on := 4, ground := Ground.data }], guard := none }) (v := ?_) rfl (by kernel_rfl) (by kernel_rfl) (by kernel_rfl) (fun _ _ _ h => h) (Or.inl ⟨by rfl, ?_⟩) (by assumption) ?_
                    rotate_left
                    · (intro w hSw; (try dsimp only at hSw); go_simp); (try with_reducible rfl)
                    try simp only [Act.put, List.setIfInBounds_toArray, List.set_cons_zero, List.set_cons_succ]
                    refine wpAnyH_take (i := 6) (oi := { dst := some 145, op := Op.extract (Operand.tmp 139) 1, type := 27, pos := "law.go:412", after := #[{ on := 4, ground := Ground.data }, { on := 8, ground := Ground.gcOnly Departure.lateStores }], guard := none }) (v := ?_) rfl (by kernel_rfl) (by kernel_rfl) (by kernel_rfl) (fun _ _ _ h => h) (Or.inl ⟨by rfl, ?_⟩) (by assumption) ?_
                    rotate_left
                    · (intro w hSw; (try dsimp only at hSw); go_simp); (try with_reducible rfl)
                    try simp only [Act.put, List.setIfInBounds_toArray, List.set_cons_zero, List.set_cons_succ]
                    refine wpAnyH_ready (rs := [8]) (by kernel_rfl) (by simp) ?_
                    refine (AllReadyH.cons (o := { dst := none, op := Op.store 59 (Operand.tmp 23) (Operand.tmp 144), type := 0, pos := "law.go:412", after := #[{ on := 7, ground := Ground.data }, { on := 5, ground := Ground.data }, { on := 3, ground := Ground.chain }, { on := 0, ground := Ground.phase }, { on := 1, ground := Ground.phase }, { on := 2, ground := Ground.phase }, { on := 3, ground := Ground.phase }, { on := 4, ground := Ground.phase }, { on := 5, ground := Ground.phase }, { on := 6, ground := Ground.textOnly Departure.lateStores }, { on := 7, ground := Ground.phase }], guard := none }) rfl (fun K hK => ?_) AllReadyH.nil)
                    have q0 := bx7.cell (j := 0) (v := .int .i64 0) rfl
                    have q1 := bx7.cell (j := 1) (v := .int .i64 0) rfl
                    have f0 := bx7.frozen 0
                    have f1 := bx7.frozen 1
                    go_simp
                    obtain ⟨wz8, hwz⟩ : ∃ v, v = (wz3.setCell ⟨G2, 0, none⟩ (.int .i64 y.1)).setCell ⟨G2, 1, none⟩ (.int .i64 y.2) := ⟨_, rfl⟩
                    rw [← hwz]
                    have hbz8 : Below X1.heap.size X1 wz8 := by rw [hwz]; exact (hbz3.setCell hBs _).setCell hBs _
                    have bx7 := bx7.set2 (.int .i64 y.1) (.int .i64 y.2)
                    rw [← hwz] at bx7
                    clear q0 q1 f0 f1
                    clear hwz
                    refine hK.out _ _ ⟨cellb t0 hbz8, cellb t1 hbz8, cellb c0 hbz8⟩ (fun hHeld4 => ?_)
                    clear hK K hHeld3
                    try simp only [Act.put, List.setIfInBounds_toArray, List.set_cons_zero, List.set_cons_succ]
                    refine wpAnyH_take (i := 9) (oi := { dst := some 24, op := Op.assign (Operand.tmp 145), type := 27, pos := "law.go:412", after := #[{ on := 6, ground := Ground.data }, { on := 8, ground := Ground.chain }, { on := 0, ground := Ground.phase }, { on := 1, ground := Ground.phase }, { on := 2, ground := Ground.phase }, { on := 3, ground := Ground.phase }, { on := 4, ground := Ground.phase }, { on := 5, ground := Ground.phase }, { on := 6, ground := Ground.phase }, { on := 7, ground := Ground.phase }, { on := 8, ground := Ground.phase }], guard := none }) (v := ?_) rfl (by kernel_rfl) (by kernel_rfl) (by kernel_rfl) (fun _ _ _ h => h) (Or.inl ⟨by rfl, ?_⟩) (by assumption) ?_
                    rotate_left
                    · (intro w hSw; (try dsimp only at hSw); go_simp); (try with_reducible rfl)
                    try simp only [Act.put, List.setIfInBounds_toArray, List.set_cons_zero, List.set_cons_succ]
                    refine wpAnyH_done (by kernel_rfl) ?_ _
                    clear hHeld4
                    go_wp2_with fail
                    go_meet
                    exact ⟨_, rfl, bx7, rfl, hbz8⟩
                case rest =>
                  obtain ⟨G2, rfl, bx7, rfl, hl⟩ := hcut
                  obtain ⟨X2, rfl⟩ : ∃ v, v = wc := ⟨_, rfl⟩
                  replace c0 := cellb c0 hl
                  replace hbr1 := bthen hbr1 hl
                  clear hl
                  clear t0 t1
                  have s0 := bx7.cell (j := 0) (v := .int .i64 y.1) rfl
                  have s1 := bx7.cell (j := 1) (v := .int .i64 y.2) rfl
                  have hne := fun W => neqCx (floatOfInt .f64 y.1) (floatOfInt .f64 y.2) (feq_int _) (feq_int _) W
                  have hcf := fun n W => convF n W
                  go_upto_region 36 with fail
                  refine wp_region_held_drew (S := (fun w' => w'.cell? ⟨G2, 0, none⟩ = some (.int .i64 y.1) ∧ w'.cell? ⟨G2, 1, none⟩ = some (.int .i64 y.2) ∧ w'.cell? ⟨R9, k, none⟩ = some (.complex .f64 (floatOfInt .f64 y.1) (floatOfInt .f64 y.2)))) (by kernel_rfl) ⟨cellb s0 (Below.refl _ _).drew, cellb s1 (Below.refl _ _).drew, cellb c0 (Below.refl _ _).drew⟩ (fun hHeld0 => ?_)
                  obtain ⟨wzd, hwz⟩ : ∃ v, v = X2.drew := ⟨_, rfl⟩
                  rw [← hwz] at hHeld0 ⊢
                  have hbzd : Below X2.heap.size X2 wzd := by rw [hwz]; exact (Below.refl _ _).drew
                  have hlzd : Below X2.heap.size X2 wzd := by rw [hwz]; exact (Below.refl _ _).drew
                  clear hwz hlzd
                  refine wpAnyH_take (i := 0) (oi := { dst := some 146, op := Op.move (Operand.tmp 24), type := 27, pos := "law.go:413", after := #[], guard := none }) (v := ?_) rfl (by kernel_rfl) (by kernel_rfl) (by kernel_rfl) (fun _ _ _ h => h) (Or.inl ⟨by rfl, ?_⟩) (by assumption) ?_
                  rotate_left
                  · (intro w hSw; (try dsimp only at hSw); go_simp); (try with_reducible rfl)
                  try simp only [Act.put, List.setIfInBounds_toArray, List.set_cons_zero, List.set_cons_succ]
                  refine wpAnyH_take (i := 1) (oi := { dst := some 147, op := Op.binOp BinOp.neq 27 (Operand.tmp 146) (Operand.const (Value.int IntKind.i64 0)) 27, type := 4, pos := "law.go:413", after := #[{ on := 0, ground := Ground.data }], guard := none }) (v := ?_) rfl (by kernel_rfl) (by kernel_rfl) (by kernel_rfl) (fun _ _ _ h => h) (Or.inl ⟨by rfl, ?_⟩) (by assumption) ?_
                  rotate_left
                  · (intro w hSw; (try dsimp only at hSw); go_simp); (try with_reducible rfl)
                  try simp only [Act.put, List.setIfInBounds_toArray, List.set_cons_zero, List.set_cons_succ]
                  refine wpAnyH_take (i := 2) (oi := { dst := some 148, op := Op.move (Operand.tmp 147), type := 4, pos := "law.go:413", after := #[{ on := 1, ground := Ground.data }], guard := none }) (v := ?_) rfl (by kernel_rfl) (by kernel_rfl) (by kernel_rfl) (fun _ _ _ h => h) (Or.inl ⟨by rfl, ?_⟩) (by assumption) ?_
                  rotate_left
                  · (intro w hSw; (try dsimp only at hSw); go_simp); (try with_reducible rfl)
                  try simp only [Act.put, List.setIfInBounds_toArray, List.set_cons_zero, List.set_cons_succ]
                  refine wpAnyH_take (i := 3) (oi := { dst := some 149, op := Op.move (Operand.tmp 21), type := 3, pos := "law.go:413", after := #[{ on := 2, ground := Ground.guard }], guard := some (2, false) }) (v := ?_) rfl (by kernel_rfl) (by kernel_rfl) (by kernel_rfl) (fun _ _ _ h => h) (Or.inl ⟨by rfl, ?_⟩) (by assumption) ?_
                  rotate_left
                  · (intro w hSw; (try dsimp only at hSw); go_simp); (try with_reducible rfl)
                  try simp only [Act.put, List.setIfInBounds_toArray, List.set_cons_zero, List.set_cons_succ]
                  refine wpAnyH_take (i := 4) (oi := { dst := some 150, op := Op.indexAddr 49 (Operand.tmp 19) (Operand.tmp 149), type := 0, pos := "law.go:413", after := #[{ on := 3, ground := Ground.data }, { on := 2, ground := Ground.guard }], guard := some (2, false) }) (v := ?_) rfl (by kernel_rfl) (by kernel_rfl) (by kernel_rfl) (fun _ _ _ h => h) (Or.inl ⟨by rfl, ?_⟩) (by assumption) ?_
                  rotate_left
                  · (intro w hSw; (try dsimp only at hSw); go_simp); (try with_reducible rfl)
                  try simp only [Act.put, List.setIfInBounds_toArray, List.set_cons_zero, List.set_cons_succ]
                  refine wpAnyH_take (i := 5) (oi := { dst := some 151, op := Op.load 48 (Operand.tmp 150), type := 48, pos := "law.go:413", after := #[{ on := 4, ground := Ground.data }, { on := 2, ground := Ground.guard }], guard := some (2, false) }) (v := ?_) rfl (by kernel_rfl) (by kernel_rfl) (by kernel_rfl) (fun _ _ _ h => h) (Or.inl ⟨by rfl, ?_⟩) (by assumption) ?_
                  rotate_left
                  · (intro w hSw; (try dsimp only at hSw); go_simp); (try with_reducible rfl)
                  try simp only [Act.put, List.setIfInBounds_toArray, List.set_cons_zero, List.set_cons_succ]
                  refine wpAnyH_take (i := 6) (oi := { dst := some 152, op := Op.fieldAddr 59 (Operand.tmp 23) 0, type := 0, pos := "law.go:413", after := #[{ on := 2, ground := Ground.guard }], guard := some (2, false) }) (v := ?_) rfl (by kernel_rfl) (by kernel_rfl) (by kernel_rfl) (fun _ _ _ h => h) (Or.inl ⟨by rfl, ?_⟩) (by assumption) ?_
                  rotate_left
                  · (intro w hSw; (try dsimp only at hSw); go_simp); (try with_reducible rfl)
                  try simp only [Act.put, List.setIfInBounds_toArray, List.set_cons_zero, List.set_cons_succ]
                  refine wpAnyH_take (i := 7) (oi := { dst := some 153, op := Op.load 3 (Operand.tmp 152), type := 3, pos := "law.go:413", after := #[{ on := 6, ground := Ground.data }, { on := 2, ground := Ground.guard }], guard := some (2, false) }) (v := ?_) rfl (by kernel_rfl) (by kernel_rfl) (by kernel_rfl) (fun _ _ _ h => h) (Or.inl ⟨by rfl, ?_⟩) (by assumption) ?_
                  rotate_left
                  · (intro w hSw; (try dsimp only at hSw); go_simp); (try with_reducible rfl)
                  try simp only [Act.put, List.setIfInBounds_toArray, List.set_cons_zero, List.set_cons_succ]
                  refine wpAnyH_take (i := 8) (oi := { dst := some 154, op := Op.convert 3 61 (Operand.tmp 153), type := 61, pos := "law.go:413", after := #[{ on := 7, ground := Ground.data }, { on := 2, ground := Ground.guard }], guard := some (2, false) }) (v := ?_) rfl (by kernel_rfl) (by kernel_rfl) (by kernel_rfl) (fun _ _ _ h => h) (Or.inl ⟨by rfl, ?_⟩) (by assumption) ?_
                  rotate_left
                  · (intro w hSw; (try dsimp only at hSw); go_simp); (try with_reducible rfl)
                  try simp only [Act.put, List.setIfInBounds_toArray, List.set_cons_zero, List.set_cons_succ]
                  refine wpAnyH_take (i := 9) (oi := { dst := some 155, op := Op.fieldAddr 59 (Operand.tmp 23) 1, type := 0, pos := "law.go:413", after := #[{ on := 2, ground := Ground.guard }], guard := some (2, false) }) (v := ?_) rfl (by kernel_rfl) (by kernel_rfl) (by kernel_rfl) (fun _ _ _ h => h) (Or.inl ⟨by rfl, ?_⟩) (by assumption) ?_
                  rotate_left
                  · (intro w hSw; (try dsimp only at hSw); go_simp); (try with_reducible rfl)
                  try simp only [Act.put, List.setIfInBounds_toArray, List.set_cons_zero, List.set_cons_succ]
                  refine wpAnyH_take (i := 10) (oi := { dst := some 156, op := Op.load 3 (Operand.tmp 155), type := 3, pos := "law.go:413", after := #[{ on := 9, ground := Ground.data }, { on := 2, ground := Ground.guard }], guard := some (2, false) }) (v := ?_) rfl (by kernel_rfl) (by kernel_rfl) (by kernel_rfl) (fun _ _ _ h => h) (Or.inl ⟨by rfl, ?_⟩) (by assumption) ?_
                  rotate_left
                  · (intro w hSw; (try dsimp only at hSw); go_simp); (try with_reducible rfl)
                  try simp only [Act.put, List.setIfInBounds_toArray, List.set_cons_zero, List.set_cons_succ]
                  refine wpAnyH_take (i := 11) (oi := { dst := some 157, op := Op.convert 3 61 (Operand.tmp 156), type := 61, pos := "law.go:413", after := #[{ on := 10, ground := Ground.data }, { on := 2, ground := Ground.guard }], guard := some (2, false) }) (v := ?_) rfl (by kernel_rfl) (by kernel_rfl) (by kernel_rfl) (fun _ _ _ h => h) (Or.inl ⟨by rfl, ?_⟩) (by assumption) ?_
                  rotate_left
                  · (intro w hSw; (try dsimp only at hSw); go_simp); (try with_reducible rfl)
                  try simp only [Act.put, List.setIfInBounds_toArray, List.set_cons_zero, List.set_cons_succ]
                  refine wpAnyH_take (i := 12) (oi := { dst := some 158, op := Op.call { callee := Callee.builtin Builtin.complex, args := #[Operand.tmp 154, Operand.tmp 157], argTypes := #[61, 61] }, type := 48, pos := "law.go:413", after := #[{ on := 8, ground := Ground.data }, { on := 11, ground := Ground.data }, { on := 2, ground := Ground.guard }], guard := some (2, false) }) (v := ?_) rfl (by kernel_rfl) (by kernel_rfl) (by kernel_rfl) (fun _ _ _ h => h) (Or.inl ⟨by rfl, ?_⟩) (by assumption) ?_
                  rotate_left
                  · (intro w hSw; (try dsimp only at hSw); go_simp); (try with_reducible rfl)
                  try simp only [Act.put, List.setIfInBounds_toArray, List.set_cons_zero, List.set_cons_succ]
                  refine wpAnyH_take (i := 13) (oi := { dst := some 159, op := Op.binOp BinOp.neq 48 (Operand.tmp 151) (Operand.tmp 158) 48, type := 4, pos := "law.go:413", after := #[{ on := 5, ground := Ground.data }, { on := 12, ground := Ground.data }, { on := 2, ground := Ground.guard }], guard := some (2, false) }) (v := ?_) rfl (by kernel_rfl) (by kernel_rfl) (by kernel_rfl) (fun _ _ _ h => h) (Or.inl ⟨by rfl, ?_⟩) (by assumption) ?_
                  rotate_left
                  · (intro w hSw; (try dsimp only at hSw); go_simp); (try with_reducible rfl)
                  try simp only [Act.put, List.setIfInBounds_toArray, List.set_cons_zero, List.set_cons_succ]
                  refine wpAnyH_take (i := 14) (oi := { dst := some 160, op := Op.pick (Operand.tmp 148) (Operand.const (Value.bool true)) (Operand.tmp 159), type := 4, pos := "law.go:413", after := #[{ on := 2, ground := Ground.data }, { on := 13, ground := Ground.data }], guard := none }) (v := ?_) rfl (by kernel_rfl) (by kernel_rfl) (by kernel_rfl) (fun _ _ _ h => h) (Or.inl ⟨by rfl, ?_⟩) (by assumption) ?_
                  rotate_left
                  · (intro w hSw; (try dsimp only at hSw); go_simp); (try with_reducible rfl)
                  try simp only [Act.put, List.setIfInBounds_toArray, List.set_cons_zero, List.set_cons_succ]
                  refine wpAnyH_done (by kernel_rfl) ?_ _
                  clear hHeld0
                  replace hbr1 := bthen hbr1 hbzd
                  clear hne hcf s0 s1 c0
                  go_wp2_with fail
                  go_roundw
                  case rel => exact ⟨k + 1, by omega, by go_num, hbr1⟩
                  case measure => simp [intOf]; omega
              · obtain rfl : k = 4 := by omega
                clear iqr i9r iq i9 HR HF TPL TVL TQV TCP TCL TRS
                obtain ⟨wg, rfl⟩ : ∃ v, v = wr := ⟨_, rfl⟩
                replace hB := bthen hB hbr
                replace iB := iB.carry hbr
                clear hbr huc hucr
                have e0 := iB.cell (j := 0) (v := .slice xa a.length ca) rfl
                have e1 := iB.cell (j := 1) (v := .slice xb b.length cb) rfl
                have e2 := iB.cell (j := 2) (v := .slice xc c.length cc) rfl
                have e3 := iB.cell (j := 3) (v := .slice xd d.length cd) rfl
                go_wp2_with fail
                clear e0 e1 e2 e3
                refine (given_any _ _ _ _ a b c d wg (HA.out.carry hB) (HB.out.carry hB) (HC.out.carry hB) (HD.out.carry hB) (by omega) (by omega) (by omega) (by omega)).mono ?_
                rintro e wh ⟨⟨u0, rfl, hu0⟩, hl⟩
                replace hB := bthen hB hl
                replace iB := iB.carry hl
                clear hl
                obtain ⟨va, vb, vc, vd, rfl, g1, g2, g3, g4⟩ := hu0
                have ts := Strength_any va vb vc vd a b c d 20 wh g1 g2 g3 g4 (by omega) (by omega) (by omega) (by omega)
                have hst := strength_ok HLP.out
                go_wp2_with fail
                rcases hst with hs | hs | ⟨k, hs, hk1, hk2, hks⟩
                · rw [hs] at ts
                  clear hs
                  refine ts.mono ?_
                  clear ts
                  rintro e wi ⟨rfl, hl⟩
                  replace hB := bthen hB hl
                  replace iB := iB.carry hl
                  clear hl g1 g2 g3 g4
                  go_wp2_with fail
                  refine (awake_any wi (hq.below hB hq.size) (hpw.below hB)).mono ?_
                  rintro e y4 ⟨rfl, hl⟩
                  go_wp2
                  go_ret
                  exact ⟨rfl, bthen hB hl⟩
                · rw [hs] at ts
                  clear hs
                  refine ts.mono ?_
                  clear ts
                  rintro e wi ⟨rfl, hl⟩
                  replace hB := bthen hB hl
                  replace iB := iB.carry hl
                  clear hl g1 g2 g3 g4
                  go_wp2_with fail
                  refine (awake_any wi (hq.below hB hq.size) (hpw.below hB)).mono ?_
                  rintro e y4 ⟨rfl, hl⟩
                  go_wp2
                  go_ret
                  exact ⟨rfl, bthen hB hl⟩
                · rw [hs] at ts
                  clear hs
                  refine ts.mono ?_
                  clear ts
                  rintro e wi ⟨rfl, hl⟩
                  replace hB := bthen hB hl
                  replace iB := iB.carry hl
                  clear hl g1 g2 g3 g4
                  have HKS := Lib.hid hks
                  have q1 : ¬ (k : Int) < 1 := by omega
                  have q2 : ¬ (20 : Int) < (k : Int) := by omega
                  have q3 : decide ((k : Int) < 1) = false := decide_eq_false q1
                  have q4 : decide ((20 : Int) < (k : Int)) = false := decide_eq_false q2
                  clear hks
                  obtain ⟨wj, rfl⟩ : ∃ v, v = wi := ⟨_, rfl⟩
                  obtain ⟨ba, oa, ca', hxa, hac⟩ := HA.out.head (by omega)
                  cases hxa
                  obtain ⟨j0, hi, hz0, hz1, hz2⟩ := info_parts Tryz.infoInt
                  go_wp2_with fail
                  clear q1 q2 q3 q4
                  go_loopw [27] (fun v27 wr => ∃ f : Nat, 1 ≤ f ∧ f ≤ k + 1 ∧ v27 = .int .i64 f ∧ Below wj.heap.size wj wr) (fun v27 _ => k + 1 - (intOf v27).toNat)
                  case atStart => exact ⟨1, by omega, by omega, rfl, Below.refl _ _⟩
                  case round =>
                    obtain ⟨f, hf1, hf2, rfl, hbr⟩ := hrel
                    have hbR := bthen hB hbr
                    have iR := iB.carry hbr
                    by_cases hlt : f ≤ k
                    · have d1 : (f : Int) ≤ (k : Int) := by omega
                      have e0 := iR.cell (j := 0) (v := .slice (some ⟨ba, oa, none⟩) a.length ca) rfl
                      have e1 := iR.cell (j := 1) (v := .slice xb b.length cb) rfl
                      have e2 := iR.cell (j := 2) (v := .slice xc c.length cc) rfl
                      have e3 := iR.cell (j := 3) (v := .slice xd d.length cd) rfl
                      go_upto_region 48 with fail
                      obtain ⟨X1, hX1⟩ : ∃ v, v = World.alloc wr (Obj.cells #[.slice (some ⟨ba, oa, none⟩) a.length ca, .slice xb b.length cb, .slice xc c.length cc, .slice xd d.length cd] 40) := ⟨_, rfl⟩
                      have kX1 : Below wr.heap.size wr X1 := by rw [hX1]; exact below_new _ _
                      have iX1 : Blk X1 (wr.heap.size) 40 [.slice (some ⟨ba, oa, none⟩) a.length ca, .slice xb b.length cb, .slice xc c.length cc, .slice xd d.length cd] := by rw [hX1]; exact Blk.new _ _ _
                      have sX1 : X1.heap.size = wr.heap.size + 1 := by rw [hX1]; simp
                      rw [← hX1]
                      clear hX1
                      clear sX1 e0 e1 e2 e3 d1
                      have t0 := iX1.cell (j := 0) (v := .slice (some ⟨ba, oa, none⟩) a.length ca) rfl
                      have t1 := iX1.frozen 0
                      replace iR := iR.carry kX1
                      have hrB := iR.lt
                      go_upto_region 49 with fail
                      clear t0 t1
                      have iX2 := iX1.set 0 (.slice none 0 0)
                      have hX2 := kX1.setCell (p := ⟨wr.heap.size, 0, none⟩) (Nat.le_refl _) (.slice none 0 0)
                      have iR2 := (iB.carry hbr).carry hX2
                      have hXs : wr.heap.size + 1 ≤ (X1.setCell ⟨wr.heap.size, 0, none⟩ (.slice none 0 0)).heap.size := by have := iX2.lt; omega
                      generalize X1.setCell ⟨wr.heap.size, 0, none⟩ (.slice none 0 0) = X2 at iX2 hX2 iR2 hXs ⊢
                      have hbX := bthen hbR hX2
                      have hbr2 := bthen hbr hX2
                      have hrs := hbr.size
                      clear iX1 kX1 iR hrB hX2
                      generalize wr.heap.size = G at iX2 hXs hrs ⊢
                      have e0 := iR2.cell (j := 0) (v := .slice (some ⟨ba, oa, none⟩) a.length ca) rfl
                      go_wp2_with fail
                      clear e0
                      go_loopw [195] (fun v195 wr => ∃ (j : Nat) (xp : Option Addr) (cp : Nat), j ≤ a.length ∧ v195 = .int .i64 j ∧ Blk wr G 40 [.slice xp j cp, .slice xb b.length cb, .slice xc c.length cc, .slice xd d.length cd] ∧ OwnI 3 (G + 1) wr (.slice xp j cp) (upto (fun j => wrap64 ((f : Int) * a[j]?.getD 0)) j) ∧ G + 1 ≤ wr.heap.size ∧ Below wj.heap.size wj wr) (fun v195 _ => a.length - (intOf v195).toNat)
                      case atStart => exact ⟨0, none, 0, Nat.zero_le _, rfl, iX2, World.ownsRow_nil _ _ _ _, hXs, hbr2⟩
                      case round =>
                        clear iX2 hbr2 hXs iR2 hbX
                        obtain ⟨j, xp, cp, hj, rfl, iX, hown, hGs, hbi⟩ := hrel
                        have hbX := bthen hB hbi
                        have hU : upto (fun j => wrap64 ((f : Int) * a[j]?.getD 0)) (j + 1) = upto (fun j => wrap64 ((f : Int) * a[j]?.getD 0)) j ++ [wrap64 ((f : Int) * a[j]?.getD 0)] := upto_succ _ _
                        have hUl : (upto (fun j => wrap64 ((f : Int) * a[j]?.getD 0)) j).length = j := upto_length _ _
                        have s0 := iX.cell (j := 0) (v := .slice xp j cp) rfl
                        by_cases hlj : j < a.length
                        · have cA := cellb (hac j hlj) hbX
                          have d1 : (j : Int) < (a.length : Int) := by omega
                          generalize a[j]?.getD 0 = x at cA hU
                          generalize hl0 : upto (fun j => wrap64 ((f : Int) * a[j]?.getD 0)) j = LL at hown hU hUl
                          have HU := Lib.hid hU
                          have HUL := Lib.hid hUl
                          clear hl0 hU hUl
                          have hne : ∀ k', Value.ownBlock (.slice xp j cp) = some k' → G + 1 ≤ k' := fun k' hk' => (World.ownsRow.lt hown k' hk').1
                          have HNE := Lib.hid hne
                          clear hne
                          go_wp2_with (at_builtin; go_loud (refine wpList_append_own _ rfl _ _ 22 rfl (G + 1) 3 j0 (.int .i64 0) 1 8 Tryz.underlying22 hi hz0 hz1 hz2 rfl (by decide) _ _ _ rfl (hown.alloc _) ⟨wr.heap.size, 0, none⟩ 1 1 [.int .i64 (wrap64 ((f : Int) * x))] rfl rfl (cell_one_new _ _ _) (by simp [Value.oneCell']) (by unfold maxLen; have := HUL.out; omega) (by have := HUL.out; omega) (by simp; omega) ?_; intro v' w5 hown5 hgrow5 _; have hn5 : OwnI 3 (G + 1) w5 v' (upto (fun j => wrap64 ((f : Int) * a[j]?.getD 0)) (j + 1)) := (by rw [HU.out]; unfold OwnI; rw [List.length_append, List.map_append]; exact hown5); obtain ⟨xp5, cp5, rfl, _⟩ := id hn5.ints; rw [upto_length] at hn5 ⊢; have iX5 := (iX.carry (below_new _ _)).kept hgrow5 (fun h => by have := HNE.out _ h.symm; omega); have c5 := iX5.cell (j := 0) (v := .slice xp j cp) rfl; have f5 := iX5.frozen 0))
                          have hb5 := (hbi.alloc hbi.size (Obj.cells #[.int .i64 (wrap64 ((f : Int) * x))] 3)).grown hgrow5 (by have := hbi.size; simp; omega) (fun k' hk' => by have := HNE.out _ hk'; omega)
                          have iX6 := iX5.set 0 (.slice xp5 (j + 1) cp5)
                          have hn6 := hn5.setOther (B := G) (j := 0) (x := .slice xp5 (j + 1) cp5) (by omega)
                          have hb6 := hb5.setCell (p := ⟨G, 0, none⟩) hrs (.slice xp5 (j + 1) cp5)
                          go_roundw
                          case rel => exact ⟨j + 1, xp5, cp5, by omega, by go_num, iX6, hn6, iX6.lt, hb6⟩
                          case measure => simp [intOf]; omega
                        · obtain rfl : j = a.length := by omega
                          have d1 : ¬ ((a.length : Int) < (a.length : Int)) := by omega
                          rw [show upto (fun j => wrap64 ((f : Int) * a[j]?.getD 0)) a.length = a.map (fun x => wrap64 ((f : Int) * x)) from upto_map (fun x => wrap64 ((f : Int) * x)) a] at hown
                          have hN := hown.ints
                          clear hown hU hUl
                          have hNl : (a.map (fun x => wrap64 ((f : Int) * x))).length = a.length := List.length_map _
                          obtain ⟨k1, k2⟩ := HKS.out f hf1 hlt
                          have hcl := closedW_length (a.map (fun x => wrap64 ((f : Int) * x))) b c d
                          rw [hNl] at hcl
                          have HCL := Lib.hid (show (closedW (a.map (fun x => wrap64 ((f : Int) * x))) b c d).length ≤ 100000 by omega)
                          by_cases hp : checkPolyE (a.map (fun x => wrap64 ((f : Int) * x))) = 0
                          · have hloop := factor_loop HLP.out hp k1
                            obtain ⟨f1, f2, f3⟩ := loop_facts hloop
                            have k3 : stableR (closedW (a.map (fun x => wrap64 ((f : Int) * x))) b c d) = decide (f < k) := f3.trans k2
                            have TP := Lib.hid (CheckPolyR_any _ _ wr hN (by omega))
                            rw [hp] at TP
                            generalize a.map (fun x => wrap64 ((f : Int) * x)) = N at hN hNl TP hloop f1 f2 f3 k3 HCL hcl
                            have TCL := Lib.hid (fun (W : World) (va vb vc vd : Value) (g1 : Ints W va N) (g2 : Ints W vb b) (g3 : Ints W vc c) (g4 : Ints W vd d) => Closed_any va vb vc vd N b c d W g1 g2 g3 g4 (by omega) (by omega) (by omega) (by omega))
                            rw [f1, hloop] at TCL
                            have TCP := Lib.hid (fun u W (h : Ints W u (closedW N b c d)) => CheckPolyR_any u _ W h (by have := HCL.out; omega))
                            rw [f2] at TCP
                            have TPL := Lib.hid (fun u W (h : Ints W u (closedW N b c d)) => polyL_any u _ W h (by have := HCL.out; omega))
                            have TST := Lib.hid (fun u W (h : Ints W u (closedW N b c d)) => Stable_any u _ W h (by have := HCL.out; omega))
                            rw [k3, f2] at TST
                            have HNL := Lib.hid hNl
                            clear hloop f1 f2 f3 k1 k2 k3 hcl HCL hNl hp
                            generalize closedW N b c d = cl at TCL TCP TPL TST
                            go_wp2_with fail
                            refine TP.out.mono ?_
                            rintro e y0 ⟨rfl, rfl⟩
                            have e1 := iX.cell (j := 1) (v := .slice xb b.length cb) rfl
                            have e2 := iX.cell (j := 2) (v := .slice xc c.length cc) rfl
                            have e3 := iX.cell (j := 3) (v := .slice xd d.length cd) rfl
                            go_wp2_with fail
                            clear e1 e2 e3 s0 d1
                            refine (given_any _ _ _ _ N b c d wr hN (HB.out.carry hbX) (HC.out.carry hbX) (HD.out.carry hbX) (by have := HNL.out; omega) (by omega) (by omega) (by omega)).mono ?_
                            rintro e y1 ⟨⟨u0, rfl, hu0⟩, hl⟩
                            replace hbi := bthen hbi hl
                            clear hl
                            obtain ⟨va, vb, vc, vd, rfl, g1, g2, g3, g4⟩ := hu0
                            go_wp2_with fail
                            refine (TCL.out y1 va vb vc vd g1 g2 g3 g4).mono ?_
                            rintro e y2 ⟨⟨uc, rfl, huc⟩, hl⟩
                            replace hbi := bthen hbi hl
                            clear hl g1 g2 g3 g4
                            go_wp2_with fail
                            refine (TCP.out uc y2 huc).mono ?_
                            rintro e y3 ⟨rfl, rfl⟩
                            go_wp2_with fail
                            refine (TPL.out uc y2 huc).mono ?_
                            rintro e y3 ⟨⟨up, rfl, hup⟩, hl⟩
                            replace hbi := bthen hbi hl
                            clear hl huc
                            go_wp2_with fail
                            refine (TST.out up y3 hup).mono ?_
                            rintro e y4 ⟨rfl, hl⟩
                            replace hbi := bthen hbi hl
                            clear hl hup
                            by_cases hfk : f < k
                            · have d2 : (f : Int) < (k : Int) := by omega
                              have d3 : decide ((f : Int) < (k : Int)) = true := decide_eq_true d2
                              rw [decide_eq_true hfk]
                              go_wp2_with fail
                              go_roundw
                              case rel => exact ⟨f + 1, by omega, by omega, by go_num, hbi⟩
                              case measure => simp [intOf]; omega
                            · have d2 : ¬ (f : Int) < (k : Int) := by omega
                              have d3 : decide ((f : Int) < (k : Int)) = false := decide_eq_false d2
                              rw [decide_eq_false hfk]
                              go_wp2_with fail
                              go_roundw
                              case rel => exact ⟨f + 1, by omega, by omega, by go_num, hbi⟩
                              case measure => simp [intOf]; omega
                          · have hce : (checkPolyE (a.map (fun x => wrap64 ((f : Int) * x))) == 0) = false := by rw [beq_eq_false_iff_ne]; exact hp
                            have TP := Lib.hid (CheckPolyR_any _ _ wr hN (by omega))
                            generalize checkPolyE (a.map (fun x => wrap64 ((f : Int) * x))) = ce at hce TP hp
                            clear k1 k2 hcl HCL hNl hp hN
                            go_wp2_with fail
                            refine TP.out.mono ?_
                            rintro e y0 ⟨rfl, rfl⟩
                            go_wp2_with fail
                            refine (awake_any wr (hq.below hbX hq.size) (hpw.below hbX)).mono ?_
                            rintro e y4 ⟨rfl, hl⟩
                            go_wp2
                            go_ret
                            exact ⟨rfl, bthen hbX hl⟩
                    · obtain rfl : f = k + 1 := by omega
                      have d1 : ¬ ((k + 1 : Nat) : Int) ≤ (k : Int) := by omega
                      go_wp2_with fail
                      refine (awake_any wr (hq.below hbR hq.size) (hpw.below hbR)).mono ?_
                      rintro e y4 ⟨rfl, hl⟩
                      go_wp2
                      go_ret
                      exact ⟨rfl, bthen hbR hl⟩
      · have hce : (checkBoxE a b c d bx == 0) = false := by rw [beq_eq_false_iff_ne]; exact h1
        generalize checkBoxE a b c d bx = ce at h1 hce ⊢
        have hce2 : (ce != 0) = true := bne_iff_ne.2 h1
        go_wp2_with fail
        refine (awake_any w2 (hq.below hB hq.size) (hpw.below hB)).mono ?_
        rintro e y4 ⟨rfl, hl⟩
        go_wp2
        go_ret
        exact ⟨rfl, bthen hB hl⟩
  · have hs' : shortL a b c d = false := by simpa using hs
    rw [hs']
    clear hs hs'
    go_wp2_with fail
    refine (awake_any w1 (hq.below hB hq.size) (hpw.below hB)).mono ?_
    rintro e y4 ⟨rfl, hl⟩
    go_wp2
    go_ret
    exact ⟨rfl, bthen hB hl⟩

end Go.Proofs.YtnlmaildmeihgaaGreatDoor

/- The law LoopBoxes. -/
import Derived.Test.YtnlmaildmeihgaaGreatDoorRefP
namespace Go.Proofs.YtnlmaildmeihgaaGreatDoor
open Go.RowKit

theorem cert_len {b c d : List Int} {bx : List (Int × Int)} {m : List Int} (h : certW b c d bx = some m) : m.length = bx.length := membersW_length (List.mem_of_find?_eq_some h)

set_option maxRecDepth 100000 in
set_option maxHeartbeats 8000000 in
theorem bxs_law (va vb vc vd vx : Value) (a b c d : List Int) (bx : List (Int × Int)) (w : World) (hq : Quarters w) (hpw : Pows w) (ha : Ints w va a) (hb : Ints w vb b) (hc : Ints w vc c) (hd : Ints w vd d) (hx : Pairs w vx bx) :
    Calls Tryz.prog 5 #[.agg #[va, vb, vc, vd], vx] w fun e w' => e = .returned (.bool true) ∧ Below w.heap.size w w' := by
  have HA := Lib.hid ha
  have HB := Lib.hid hb
  have HC := Lib.hid hc
  have HD := Lib.hid hd
  have HX := Lib.hid hx
  obtain ⟨xa, ca, rfl, _⟩ := id ha
  obtain ⟨xb, cb, rfl, _⟩ := id hb
  obtain ⟨xc, cc, rfl, _⟩ := id hc
  obtain ⟨xd, cd, rfl, _⟩ := id hd
  obtain ⟨xx, cx, rfl, _⟩ := id hx
  clear ha hb hc hd hx
  go_enter Tryz.func5, Tryz.ntmps5
  go_upto_region 1 with fail
  obtain ⟨W1, hW1⟩ : ∃ v, v = World.alloc w (Obj.cells #[.slice xa a.length ca, .slice xb b.length cb, .slice xc c.length cc, .slice xd d.length cd] 40) := ⟨_, rfl⟩
  have kW1 : Below w.heap.size w W1 := by rw [hW1]; exact below_new _ _
  have iW1 : Blk W1 (w.heap.size) 40 [.slice xa a.length ca, .slice xb b.length cb, .slice xc c.length cc, .slice xd d.length cd] := by rw [hW1]; exact Blk.new _ _ _
  have sW1 : W1.heap.size = w.heap.size + 1 := by rw [hW1]; simp
  rw [← hW1]
  clear hW1
  clear sW1
  have hB := kW1
  have iB := iW1
  clear kW1 iW1
  have e0 := iB.cell (j := 0) (v := .slice xa a.length ca) rfl
  have e1 := iB.cell (j := 1) (v := .slice xb b.length cb) rfl
  have e2 := iB.cell (j := 2) (v := .slice xc c.length cc) rfl
  have e3 := iB.cell (j := 3) (v := .slice xd d.length cd) rfl
  go_wp2_with fail
  clear e0 e1 e2 e3
  refine (ShortR_any _ _ _ _ a b c d W1 (HA.out.carry hB) (HB.out.carry hB) (HC.out.carry hB) (HD.out.carry hB)).mono ?_
  rintro e w1 ⟨rfl, hl⟩
  replace hB := bthen hB hl
  replace iB := iB.carry hl
  clear hl
  by_cases hs : shortL a b c d = true
  · have hs7 : a.length ≤ 7 ∧ b.length ≤ 7 ∧ c.length ≤ 7 ∧ d.length ≤ 7 := of_decide_eq_true hs
    obtain ⟨la, lb, lc, ld⟩ := hs7
    rw [hs]
    clear hs
    by_cases h7 : 7 < bx.length
    · have d7 : (7 : Int) < (bx.length : Int) := by omega
      go_wp2_with fail
      refine (awake_any w1 (hq.below hB hq.size) (hpw.below hB)).mono ?_
      rintro e y4 ⟨rfl, hl⟩
      go_wp2
      go_ret
      exact ⟨rfl, bthen hB hl⟩
    · have d7 : ¬ (7 : Int) < (bx.length : Int) := by omega
      have e0 := iB.cell (j := 0) (v := .slice xa a.length ca) rfl
      have e1 := iB.cell (j := 1) (v := .slice xb b.length cb) rfl
      have e2 := iB.cell (j := 2) (v := .slice xc c.length cc) rfl
      have e3 := iB.cell (j := 3) (v := .slice xd d.length cd) rfl
      go_wp2_with fail
      clear e0 e1 e2 e3
      refine (given_any _ _ _ _ a b c d w1 (HA.out.carry hB) (HB.out.carry hB) (HC.out.carry hB) (HD.out.carry hB) (by omega) (by omega) (by omega) (by omega)).mono ?_
      rintro e w2 ⟨⟨u0, rfl, hu0⟩, hl⟩
      replace hB := bthen hB hl
      replace iB := iB.carry hl
      clear hl
      go_wp2_with fail
      refine (box_any _ bx w2 (HX.out.carry hB) (by omega)).mono ?_
      rintro e w3 ⟨⟨ux, rfl, hux⟩, hl⟩
      replace hu0 := hu0.carry hl
      replace hB := bthen hB hl
      replace iB := iB.carry hl
      clear hl
      obtain ⟨va, vb, vc, vd, rfl, g1, g2, g3, g4⟩ := hu0
      clear d7
      go_wp2_with fail
      refine (Certify_any va vb vc vd ux a b c d bx w3 g1 g2 g3 g4 hux (by omega) (by omega) (by omega) (by omega) (by omega)).mono ?_
      rintro e w4 ⟨⟨us, rfl, hus⟩, hl⟩
      replace hB := bthen hB hl
      replace iB := iB.carry hl
      clear hl g1 g2 g3 g4 hux
      have e0 := iB.cell (j := 0) (v := .slice xa a.length ca) rfl
      have e1 := iB.cell (j := 1) (v := .slice xb b.length cb) rfl
      have e2 := iB.cell (j := 2) (v := .slice xc c.length cc) rfl
      have e3 := iB.cell (j := 3) (v := .slice xd d.length cd) rfl
      go_wp2_with fail
      clear e0 e1 e2 e3
      refine (CheckBoxR_any _ _ _ _ _ a b c d bx w4 (HA.out.carry hB) (HB.out.carry hB) (HC.out.carry hB) (HD.out.carry hB) (HX.out.carry hB) (by omega) (by omega) (by omega) (by omega)).mono ?_
      rintro e w5 ⟨rfl, hl⟩
      replace hB := bthen hB hl
      replace iB := iB.carry hl
      replace hus := hus.carry hl
      clear hl
      have tcb := fun (W : World) (va vb vc vd ux : Value) (g1 : Ints W va a) (g2 : Ints W vb b) (g3 : Ints W vc c) (g4 : Ints W vd d) (g5 : Pairs W ux bx) => CheckBox_any va vb vc vd ux a b c d bx W g1 g2 g3 g4 g5 (by omega) (by omega) (by omega) (by omega) (by omega)
      by_cases h1 : checkBoxE a b c d bx = 0
      · have HE := Lib.hid h1
        have hcr : certR a b c d bx = certW b c d bx := by rw [certR, if_neg (by rw [h1]; simp)]
        rw [h1] at tcb ⊢
        rw [hcr] at hus ⊢
        have TCB := Lib.hid tcb
        clear hcr h1 tcb
        have e0 := iB.cell (j := 0) (v := .slice xa a.length ca) rfl
        have e1 := iB.cell (j := 1) (v := .slice xb b.length cb) rfl
        have e2 := iB.cell (j := 2) (v := .slice xc c.length cc) rfl
        have e3 := iB.cell (j := 3) (v := .slice xd d.length cd) rfl
        have tr := CertifyR_any _ _ _ _ _ a b c d bx w5 (HA.out.carry hB) (HB.out.carry hB) (HC.out.carry hB) (HD.out.carry hB) (HX.out.carry hB) HE.out
        cases how : certW b c d bx with
        | none =>
          have hml : ((none : Option (List Int)).getD []).length ≤ 7 := by simp
          rw [how] at hus tr
          clear how
          have TR := Lib.hid tr
          clear tr
          simp only [Option.isSome, Option.getD] at hus TR hml ⊢
          go_wp2_with fail
          clear e0 e1 e2 e3
          refine TR.out.mono ?_
          rintro e w6 ⟨⟨ur, rfl, hur⟩, hl⟩
          replace hB := bthen hB hl
          replace iB := iB.carry hl
          replace hus := hus.carry hl
          clear hl
          have e0 := iB.cell (j := 0) (v := .slice xa a.length ca) rfl
          have e1 := iB.cell (j := 1) (v := .slice xb b.length cb) rfl
          have e2 := iB.cell (j := 2) (v := .slice xc c.length cc) rfl
          have e3 := iB.cell (j := 3) (v := .slice xd d.length cd) rfl
          go_wp2_with fail
          clear e0 e1 e2 e3
          refine (given_any _ _ _ _ a b c d w6 (HA.out.carry hB) (HB.out.carry hB) (HC.out.carry hB) (HD.out.carry hB) (by omega) (by omega) (by omega) (by omega)).mono ?_
          rintro e y1 ⟨⟨u0, rfl, hu0⟩, hl⟩
          replace hB := bthen hB hl
          replace iB := iB.carry hl
          replace hus := hus.carry hl
          replace hur := hur.carry hl
          clear hl
          go_wp2_with fail
          refine (box_any _ bx y1 (HX.out.carry hB) (by omega)).mono ?_
          rintro e y2 ⟨⟨ux, rfl, hux⟩, hl⟩
          replace hu0 := hu0.carry hl
          replace hB := bthen hB hl
          replace iB := iB.carry hl
          replace hus := hus.carry hl
          replace hur := hur.carry hl
          clear hl
          obtain ⟨va, vb, vc, vd, rfl, g1, g2, g3, g4⟩ := hu0
          go_wp2_with fail
          refine (TCB.out y2 va vb vc vd ux g1 g2 g3 g4 hux).mono ?_
          rintro e y3 ⟨rfl, hl⟩
          replace hB := bthen hB hl
          replace iB := iB.carry hl
          replace hus := hus.carry hl
          replace hur := hur.carry hl
          clear hl g1 g2 g3 g4 hux
          go_wp2_with fail
          refine (sameInts us ur _ y3 hus hur (by omega)).mono ?_
          rintro e y5 ⟨rfl, hl⟩
          replace hB := bthen hB hl
          replace iB := iB.carry hl
          clear hl
          go_wp2_with fail
          refine (awake_any y5 (hq.below hB hq.size) (hpw.below hB)).mono ?_
          rintro e y4 ⟨rfl, hl⟩
          go_wp2
          go_ret
          exact ⟨rfl, bthen hB hl⟩
        | some m =>
          have hml : ((some m : Option (List Int)).getD []).length ≤ 7 := by have := cert_len how; simp; omega
          rw [how] at hus tr
          clear how
          have TR := Lib.hid tr
          clear tr
          simp only [Option.isSome, Option.getD] at hus TR hml ⊢
          go_wp2_with fail
          clear e0 e1 e2 e3
          refine TR.out.mono ?_
          rintro e w6 ⟨⟨ur, rfl, hur⟩, hl⟩
          replace hB := bthen hB hl
          replace iB := iB.carry hl
          replace hus := hus.carry hl
          clear hl
          have e0 := iB.cell (j := 0) (v := .slice xa a.length ca) rfl
          have e1 := iB.cell (j := 1) (v := .slice xb b.length cb) rfl
          have e2 := iB.cell (j := 2) (v := .slice xc c.length cc) rfl
          have e3 := iB.cell (j := 3) (v := .slice xd d.length cd) rfl
          go_wp2_with fail
          clear e0 e1 e2 e3
          refine (given_any _ _ _ _ a b c d w6 (HA.out.carry hB) (HB.out.carry hB) (HC.out.carry hB) (HD.out.carry hB) (by omega) (by omega) (by omega) (by omega)).mono ?_
          rintro e y1 ⟨⟨u0, rfl, hu0⟩, hl⟩
          replace hB := bthen hB hl
          replace iB := iB.carry hl
          replace hus := hus.carry hl
          replace hur := hur.carry hl
          clear hl
          go_wp2_with fail
          refine (box_any _ bx y1 (HX.out.carry hB) (by omega)).mono ?_
          rintro e y2 ⟨⟨ux, rfl, hux⟩, hl⟩
          replace hu0 := hu0.carry hl
          replace hB := bthen hB hl
          replace iB := iB.carry hl
          replace hus := hus.carry hl
          replace hur := hur.carry hl
          clear hl
          obtain ⟨va, vb, vc, vd, rfl, g1, g2, g3, g4⟩ := hu0
          go_wp2_with fail
          refine (TCB.out y2 va vb vc vd ux g1 g2 g3 g4 hux).mono ?_
          rintro e y3 ⟨rfl, hl⟩
          replace hB := bthen hB hl
          replace iB := iB.carry hl
          replace hus := hus.carry hl
          replace hur := hur.carry hl
          clear hl g1 g2 g3 g4 hux
          go_wp2_with fail
          refine (sameInts us ur _ y3 hus hur (by omega)).mono ?_
          rintro e y5 ⟨rfl, hl⟩
          replace hB := bthen hB hl
          replace iB := iB.carry hl
          clear hl
          go_wp2_with fail
          refine (awake_any y5 (hq.below hB hq.size) (hpw.below hB)).mono ?_
          rintro e y4 ⟨rfl, hl⟩
          go_wp2
          go_ret
          exact ⟨rfl, bthen hB hl⟩
      · have hcr : certR a b c d bx = none := by rw [certR, if_pos h1]
        rw [hcr] at hus ⊢
        have hce : (checkBoxE a b c d bx == 0) = false := by rw [beq_eq_false_iff_ne]; exact h1
        generalize checkBoxE a b c d bx = ce at tcb h1 hce ⊢
        have TCB := Lib.hid tcb
        clear hcr tcb
        simp only [Option.isSome, Option.getD] at hus ⊢
        have e0 := iB.cell (j := 0) (v := .slice xa a.length ca) rfl
        have e1 := iB.cell (j := 1) (v := .slice xb b.length cb) rfl
        have e2 := iB.cell (j := 2) (v := .slice xc c.length cc) rfl
        have e3 := iB.cell (j := 3) (v := .slice xd d.length cd) rfl
        go_wp2_with fail
        clear e0 e1 e2 e3
        refine (given_any _ _ _ _ a b c d w5 (HA.out.carry hB) (HB.out.carry hB) (HC.out.carry hB) (HD.out.carry hB) (by omega) (by omega) (by omega) (by omega)).mono ?_
        rintro e y1 ⟨⟨u0, rfl, hu0⟩, hl⟩
        replace hB := bthen hB hl
        replace iB := iB.carry hl
        replace hus := hus.carry hl
        clear hl
        go_wp2_with fail
        refine (box_any _ bx y1 (HX.out.carry hB) (by omega)).mono ?_
        rintro e y2 ⟨⟨ux, rfl, hux⟩, hl⟩
        replace hu0 := hu0.carry hl
        replace hB := bthen hB hl
        replace iB := iB.carry hl
        replace hus := hus.carry hl
        clear hl
        obtain ⟨va, vb, vc, vd, rfl, g1, g2, g3, g4⟩ := hu0
        go_wp2_with fail
        refine (TCB.out y2 va vb vc vd ux g1 g2 g3 g4 hux).mono ?_
        rintro e y3 ⟨rfl, hl⟩
        replace hB := bthen hB hl
        replace iB := iB.carry hl
        replace hus := hus.carry hl
        clear hl g1 g2 g3 g4 hux
        go_wp2_with fail
        refine (sameInts us _ _ y3 hus (Ints.nil _) (by simp)).mono ?_
        rintro e y5 ⟨rfl, hl⟩
        replace hB := bthen hB hl
        replace iB := iB.carry hl
        clear hl
        go_wp2_with fail
        refine (awake_any y5 (hq.below hB hq.size) (hpw.below hB)).mono ?_
        rintro e y4 ⟨rfl, hl⟩
        go_wp2
        go_ret
        exact ⟨rfl, bthen hB hl⟩
  · have hs' : shortL a b c d = false := by simpa using hs
    rw [hs']
    clear hs hs'
    go_wp2_with fail
    refine (awake_any w1 (hq.below hB hq.size) (hpw.below hB)).mono ?_
    rintro e y4 ⟨rfl, hl⟩
    go_wp2
    go_ret
    exact ⟨rfl, bthen hB hl⟩

end Go.Proofs.YtnlmaildmeihgaaGreatDoor

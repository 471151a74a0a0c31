/- The law LoopTexts. -/
import Derived.Test.YtfdehcphmmhjaaaGreatDoorLopH
import Derived.Test.YtfdehcphmmhjaaaGreatDoorLopG
import Derived.Test.YtfdehcphmmhjaaaGreatDoorLopD
namespace Go.Proofs.YtfdehcphmmhjaaaGreatDoor
set_option linter.unusedSimpArgs false
set_option linter.unusedVariables false
open Go.RowKit

/-- what Parse tells of a text, in one form. -/
theorem parse_any_told (L : List UInt8) : ∃ (n c : Int) (q0 q1 q2 q3 : List Int), Told L n c q0 q1 q2 q3 ∧ q0.length ≤ 5 ∧ q1.length ≤ 5 ∧ q2.length ≤ 5 ∧ q3.length ≤ 5 := by
  rcases parse_told L with ⟨n, c, _, h⟩ | ⟨f, hz, _, h⟩
  · exact ⟨n, c, [], [], [], [], h, by simp, by simp, by simp, by simp⟩
  · obtain ⟨l0, l1, l2, l3⟩ := told_len hz
    exact ⟨0, 0, _, _, _, _, h, l0, l1, l2, l3⟩
set_option maxRecDepth 100000 in
set_option maxHeartbeats 8000000 in
theorem ltx_law (va vb vc vd : Value) (a b c d : List Int) (s : ByteArray) (w : World) (hq : Quarters w) (hW : Base w) (ha : Ints w va a) (hb : Ints w vb b) (hc : Ints w vc c) (hd : Ints w vd d) :
    Calls Tryz.prog 3 #[.agg #[va, vb, vc, vd], .string s] w fun e w' => e = .returned (.bool true) ∧ Below w.heap.size w w' := by
  have HA := Lib.hid ha
  have HB := Lib.hid hb
  have HC := Lib.hid hc
  have HD := Lib.hid hd
  have HQ := Lib.hid hq
  have HW := Lib.hid hW
  have TAW := Lib.hid (fun W hQ hP => awake_any W hQ hP)
  obtain ⟨n, hn⟩ : ∃ n, n = s.size := ⟨_, rfl⟩
  have hn' : s.size = n := hn.symm
  obtain ⟨L, hL⟩ : ∃ L, L = s.data.toList := ⟨_, rfl⟩
  have TP := Lib.hid (fun (W : World) (h : Base W) (hs : s.size ≤ 100000) => Parse_any s W hs h)
  have TPR := Lib.hid (fun (W : World) (hs : s.size ≤ 100000) => ParseR_any s W hs)
  rw [← hL] at TP TPR
  obtain ⟨xa, ca, rfl, _⟩ := id ha
  obtain ⟨xb, cb, rfl, _⟩ := id hb
  obtain ⟨xc, cc, rfl, _⟩ := id hc
  obtain ⟨xd, cd, rfl, _⟩ := id hd
  clear ha hb hc hd hq hW hn hL
  go_enter Tryz.func3, Tryz.ntmps3
  go_upto_region 1 with fail
  obtain ⟨W1, hW1⟩ : ∃ v, v = World.alloc w (Obj.cells #[.slice xa a.length ca, .slice xb b.length cb, .slice xc c.length cc, .slice xd d.length cd] 24) := ⟨_, rfl⟩
  have kW1 : Below w.heap.size w W1 := by rw [hW1]; exact below_new _ _
  have iW1 : Blk W1 (w.heap.size) 24 [.slice xa a.length ca, .slice xb b.length cb, .slice xc c.length cc, .slice xd d.length cd] := by rw [hW1]; exact Blk.new _ _ _
  have sW1 : W1.heap.size = w.heap.size + 1 := by rw [hW1]; simp
  rw [← hW1]
  clear hW1
  clear sW1
  have hB := kW1
  have iB := iW1
  clear kW1 iW1
  have h0 := Below.refl W1.heap.size W1
  go_cut [27] from 15 to 26 (fun u27 wn => u27 = .bool (!shortL a b c d || (decide (300 < (n : Int)) && decide ((n : Int) ≠ 4097))) ∧ Below W1.heap.size W1 wn)
  case first =>
    have e0 := iB.cell (j := 0) (v := .slice xa a.length ca) rfl
    have e1 := iB.cell (j := 1) (v := .slice xb b.length cb) rfl
    have e2 := iB.cell (j := 2) (v := .slice xc c.length cc) rfl
    have e3 := iB.cell (j := 3) (v := .slice xd d.length cd) rfl
    go_wp2_with fail
    clear e0 e1 e2 e3
    refine (ShortR_any _ _ _ _ a b c d W1 (HA.out.carry hB) (HB.out.carry hB) (HC.out.carry hB) (HD.out.carry hB)).mono ?_
    rintro e w1 ⟨rfl, hl⟩
    cases hs : shortL a b c d with
    | false =>
      go_wp2_with fail
      go_meet
      exact ⟨by rw [hs]; rfl, hl⟩
    | true =>
      by_cases h3 : 300 < (n : Int)
      · by_cases h5 : (n : Int) = 4097
        · go_wp2_with fail
          go_meet
          exact ⟨by rw [hs]; simp [h5], hl⟩
        · go_wp2_with fail
          go_meet
          exact ⟨by rw [hs]; simp [h3, h5], hl⟩
      · go_wp2_with fail
        go_meet
        exact ⟨by rw [hs, decide_eq_false (show ¬ 300 < (n : Int) by omega)]; rfl, hl⟩
  case rest =>
    obtain ⟨rfl, hl⟩ := hcut
    replace hB := bthen hB hl
    replace iB := iB.carry hl
    clear hl h0
    by_cases hbad : (!shortL a b c d || (decide (300 < (n : Int)) && decide ((n : Int) ≠ 4097))) = true
    · rw [hbad]
      go_wp2_with fail
      refine (TAW.out wc (HQ.out.below hB (by have := HW.out.size; omega)) (HW.out.carry hB).pows).mono ?_
      rintro e w1 ⟨rfl, hl⟩
      go_wp2
      go_ret
      exact ⟨rfl, bthen hB hl⟩
    · have hbad' : (!shortL a b c d || (decide (300 < (n : Int)) && decide ((n : Int) ≠ 4097))) = false := by simpa using hbad
      rw [hbad']
      rw [Bool.or_eq_false_iff] at hbad'
      obtain ⟨hs, hnn⟩ := hbad'
      have hs7 : a.length ≤ 7 ∧ b.length ≤ 7 ∧ c.length ≤ 7 ∧ d.length ≤ 7 := of_decide_eq_true (show shortL a b c d = true by cases h : shortL a b c d with
        | true => rfl
        | false => rw [h] at hs; cases hs)
      obtain ⟨la, lb, lc, ld⟩ := hs7
      have hn9 : n ≤ 4097 := by
        rcases Nat.lt_or_ge 300 n with h | h
        · rw [decide_eq_true (show 300 < (n : Int) by omega)] at hnn
          simp at hnn
          omega
        · omega
      have hn10 : s.size ≤ 100000 := by omega
      clear hs hnn hbad
      have e0 := iB.cell (j := 0) (v := .slice xa a.length ca) rfl
      have e1 := iB.cell (j := 1) (v := .slice xb b.length cb) rfl
      have e2 := iB.cell (j := 2) (v := .slice xc c.length cc) rfl
      have e3 := iB.cell (j := 3) (v := .slice xd d.length cd) rfl
      go_wp2_with fail
      clear e0 e1 e2 e3
      refine (given_any _ _ _ _ a b c d wc (HA.out.carry hB) (HB.out.carry hB) (HC.out.carry hB) (HD.out.carry hB) (by omega) (by omega) (by omega) (by omega)).mono ?_
      rintro e w2 ⟨⟨u0, rfl, hu0⟩, hl⟩
      replace hB := bthen hB hl
      replace iB := iB.carry hl
      clear hl
      obtain ⟨va, vb, vc, vd, rfl, g1, g2, g3, g4⟩ := hu0
      go_wp2_with fail
      refine (Print_any _ _ _ _ a b c d w2 (HW.out.carry hB).pows g1 g2 g3 g4 (by omega) (by omega) (by omega) (by omega)).mono ?_
      rintro e w3 ⟨rfl, hl⟩
      replace hB := bthen hB hl
      replace iB := iB.carry hl
      clear hl g1 g2 g3 g4
      obtain ⟨E, hE⟩ : ∃ E, E = checkLoopE a b c d := ⟨_, rfl⟩
      obtain ⟨T, hT⟩ : ∃ T, T = printR a b c d := ⟨_, rfl⟩
      rw [← hE, ← hT]
      have HE := Lib.hid hE
      have HT := Lib.hid hT
      clear hE hT
      obtain ⟨pn, pc, q0, q1, q2, q3, hTold, l0, l1, l2, l3⟩ := parse_any_told L
      have HTD := Lib.hid hTold
      clear hTold
      go_wp2_with fail
      refine (TP.out w3 (HW.out.carry hB) hn10).mono ?_
      rintro e w4 ⟨hp, hl⟩
      obtain ⟨a0, a1, a2, a3, k0, k1, k2, k3, rfl, i0, i1, i2, i3⟩ := HTD.out _ _ hp
      replace hB := bthen hB hl
      replace iB := iB.carry hl
      clear hl hp
      go_upto_region 5 with fail
      obtain ⟨w5, hw5⟩ : ∃ v, v = w4.alloc (Obj.cells #[.slice a0 q0.length k0, .slice a1 q1.length k1, .slice a2 q2.length k2, .slice a3 q3.length k3] 32) := ⟨_, rfl⟩
      have kb : Below w4.heap.size w4 w5 := by rw [hw5]; exact below_new _ _
      have iX : Blk w5 w4.heap.size 32 [.slice a0 q0.length k0, .slice a1 q1.length k1, .slice a2 q2.length k2, .slice a3 q3.length k3] := by rw [hw5]; exact Blk.new _ _ _
      rw [← hw5]
      obtain ⟨GX, hGX⟩ : ∃ G, G = w4.heap.size := ⟨_, rfl⟩
      rw [← hGX] at iX ⊢
      clear hw5 hGX
      replace hB := bthen hB kb
      replace iB := iB.carry kb
      replace i0 := i0.carry kb
      replace i1 := i1.carry kb
      replace i2 := i2.carry kb
      replace i3 := i3.carry kb
      clear kb
      have e0 := iB.cell (j := 0) (v := .slice xa a.length ca) rfl
      have e1 := iB.cell (j := 1) (v := .slice xb b.length cb) rfl
      have e2 := iB.cell (j := 2) (v := .slice xc c.length cc) rfl
      have e3 := iB.cell (j := 3) (v := .slice xd d.length cd) rfl
      go_wp2_with fail
      clear e0 e1 e2 e3
      refine (CheckLoopR_any _ _ _ _ a b c d w5 (HA.out.carry hB) (HB.out.carry hB) (HC.out.carry hB) (HD.out.carry hB) (by omega) (by omega) (by omega) (by omega)).mono ?_
      rintro e w6 ⟨rfl, hl⟩
      rw [← HE.out]
      replace hB := bthen hB hl
      replace iB := iB.carry hl
      replace iX := iX.carry hl
      replace i0 := i0.carry hl
      replace i1 := i1.carry hl
      replace i2 := i2.carry hl
      replace i3 := i3.carry hl
      clear hl
      by_cases he : E = 0
      · have HTT := Lib.hid (show T = printT 4 (four a b c d) by rw [HT.out, printR, if_neg (by rw [← HE.out, he]; simp)])
        have hE0 : checkLoopE a b c d = 0 := by rw [← HE.out]; exact he
        subst he
        have e0 := iB.cell (j := 0) (v := .slice xa a.length ca) rfl
        have e1 := iB.cell (j := 1) (v := .slice xb b.length cb) rfl
        have e2 := iB.cell (j := 2) (v := .slice xc c.length cc) rfl
        have e3 := iB.cell (j := 3) (v := .slice xd d.length cd) rfl
        go_wp2_with fail
        clear e0 e1 e2 e3
        refine (PrintR_any _ _ _ _ a b c d w6 (HA.out.carry hB) (HB.out.carry hB) (HC.out.carry hB) (HD.out.carry hB) hE0).mono ?_
        rintro e w7 ⟨rfl, hl⟩
        rw [← HTT.out]
        replace hB := bthen hB hl
        replace iB := iB.carry hl
        replace iX := iX.carry hl
        replace i0 := i0.carry hl
        replace i1 := i1.carry hl
        replace i2 := i2.carry hl
        replace i3 := i3.carry hl
        clear hl hE0 HTT HE HT
        go_wp2_with fail
        refine (TPR.out w7 hn10).mono ?_
        rintro e w8 ⟨hp, hl⟩
        obtain ⟨b0, b1, b2, b3, m0, m1, m2, m3, rfl, j0, j1, j2, j3⟩ := HTD.out _ _ hp
        replace hB := bthen hB hl
        replace iX := iX.carry hl
        replace i0 := i0.carry hl
        replace i1 := i1.carry hl
        replace i2 := i2.carry hl
        replace i3 := i3.carry hl
        clear hl hp iB
        go_upto_region 9 with fail
        obtain ⟨w9, hw9⟩ : ∃ v, v = w8.alloc (Obj.cells #[.slice b0 q0.length m0, .slice b1 q1.length m1, .slice b2 q2.length m2, .slice b3 q3.length m3] 24) := ⟨_, rfl⟩
        have kb : Below w8.heap.size w8 w9 := by rw [hw9]; exact below_new _ _
        have iY : Blk w9 w8.heap.size 24 [.slice b0 q0.length m0, .slice b1 q1.length m1, .slice b2 q2.length m2, .slice b3 q3.length m3] := by rw [hw9]; exact Blk.new _ _ _
        rw [← hw9]
        obtain ⟨GY, hGY⟩ : ∃ G, G = w8.heap.size := ⟨_, rfl⟩
        rw [← hGY] at iY ⊢
        clear hw9 hGY
        replace hB := bthen hB kb
        replace iX := iX.carry kb
        have OW := Lib.hid (fun (X : World) (h : Below w9.heap.size w9 X) => own_any _ _ _ _ q0 q1 q2 q3 X ((i0.carry kb).carry h) ((i1.carry kb).carry h) ((i2.carry kb).carry h) ((i3.carry kb).carry h))
        have SL := Lib.hid (fun (X : World) (h : Below w9.heap.size w9 X) => SameLoop_any _ _ _ _ _ _ _ _ q0 q1 q2 q3 X ((i0.carry kb).carry h) ((i1.carry kb).carry h) ((i2.carry kb).carry h) ((i3.carry kb).carry h) ((j0.carry kb).carry h) ((j1.carry kb).carry h) ((j2.carry kb).carry h) ((j3.carry kb).carry h) (by omega) (by omega) (by omega) (by omega))
        have AW := Lib.hid (fun (X : World) (h : Below w9.heap.size w9 X) => TAW.out X (HQ.out.below (bthen hB h) (by have := HW.out.size; omega)) (HW.out.carry (bthen hB h)).pows)
        have x0 := iX.cell (j := 0) (v := .slice a0 q0.length k0) rfl
        have x1 := iX.cell (j := 1) (v := .slice a1 q1.length k1) rfl
        have x2 := iX.cell (j := 2) (v := .slice a2 q2.length k2) rfl
        have x3 := iX.cell (j := 3) (v := .slice a3 q3.length k3) rfl
        have y0 := iY.cell (j := 0) (v := .slice b0 q0.length m0) rfl
        have y1 := iY.cell (j := 1) (v := .slice b1 q1.length m1) rfl
        have y2 := iY.cell (j := 2) (v := .slice b2 q2.length m2) rfl
        have y3 := iY.cell (j := 3) (v := .slice b3 q3.length m3) rfl
        have h9 := Below.refl w9.heap.size w9
        clear kb iX iY i0 i1 i2 i3 j0 j1 j2 j3
        refine wp_region_E 99 (by kernel_rfl) ?_
        obtain ⟨wz, hwz⟩ : ∃ v, v = w9.drew := ⟨_, rfl⟩
        rw [← hwz]
        have hlz : Below w9.heap.size w9 wz := by rw [hwz]; exact (Below.refl _ _).drew
        have hbz := bthen h9 hlz
        have x0 := cellb x0 hlz
        have x1 := cellb x1 hlz
        have x2 := cellb x2 hlz
        have x3 := cellb x3 hlz
        have y0 := cellb y0 hlz
        have y1 := cellb y1 hlz
        have y2 := cellb y2 hlz
        have y3 := cellb y3 hlz
        clear hwz hlz
        refine wpAnyE_take (i := 0) (oi := { dst := some 53, op := Op.move (Operand.tmp 5), type := 9, pos := "law.go:226", after := #[], guard := none }) (v := ?_) rfl (by kernel_rfl) (by kernel_rfl) (by kernel_rfl) (by kernel_rfl) (fun _ _ _ h => h) (Or.inl ⟨by rfl, ?_⟩) ?_
        rotate_left
        · (intro w hE; have x0 := cellb x0 hE; have x1 := cellb x1 hE; have x2 := cellb x2 hE; have x3 := cellb x3 hE; have y0 := cellb y0 hE; have y1 := cellb y1 hE; have y2 := cellb y2 hE; have y3 := cellb y3 hE; (try dsimp only); go_simp); (try with_reducible rfl)
        try simp only [Act.put, List.setIfInBounds_toArray, List.set_cons_zero, List.set_cons_succ]
        refine wpAnyE_take (i := 1) (oi := { dst := some 54, op := Op.move (Operand.tmp 11), type := 9, pos := "law.go:226", after := #[], guard := none }) (v := ?_) rfl (by kernel_rfl) (by kernel_rfl) (by kernel_rfl) (by kernel_rfl) (fun _ _ _ h => h) (Or.inl ⟨by rfl, ?_⟩) ?_
        rotate_left
        · (intro w hE; have x0 := cellb x0 hE; have x1 := cellb x1 hE; have x2 := cellb x2 hE; have x3 := cellb x3 hE; have y0 := cellb y0 hE; have y1 := cellb y1 hE; have y2 := cellb y2 hE; have y3 := cellb y3 hE; (try dsimp only); go_simp); (try with_reducible rfl)
        try simp only [Act.put, List.setIfInBounds_toArray, List.set_cons_zero, List.set_cons_succ]
        refine wpAnyE_take (i := 2) (oi := { dst := some 55, op := Op.binOp BinOp.eql 9 (Operand.tmp 53) (Operand.tmp 54) 9, type := 4, pos := "law.go:226", after := #[{ on := 0, ground := Ground.data }, { on := 1, ground := Ground.data }], guard := none }) (v := ?_) rfl (by kernel_rfl) (by kernel_rfl) (by kernel_rfl) (by kernel_rfl) (fun _ _ _ h => h) (Or.inl ⟨by rfl, ?_⟩) ?_
        rotate_left
        · (intro w hE; have x0 := cellb x0 hE; have x1 := cellb x1 hE; have x2 := cellb x2 hE; have x3 := cellb x3 hE; have y0 := cellb y0 hE; have y1 := cellb y1 hE; have y2 := cellb y2 hE; have y3 := cellb y3 hE; (try dsimp only); go_simp); (try with_reducible rfl)
        try simp only [Act.put, List.setIfInBounds_toArray, List.set_cons_zero, List.set_cons_succ]
        refine wpAnyE_take (i := 3) (oi := { dst := some 56, op := Op.move (Operand.tmp 55), type := 4, pos := "law.go:226", after := #[{ on := 2, ground := Ground.data }], guard := none }) (v := ?_) rfl (by kernel_rfl) (by kernel_rfl) (by kernel_rfl) (by kernel_rfl) (fun _ _ _ h => h) (Or.inl ⟨by rfl, ?_⟩) ?_
        rotate_left
        · (intro w hE; have x0 := cellb x0 hE; have x1 := cellb x1 hE; have x2 := cellb x2 hE; have x3 := cellb x3 hE; have y0 := cellb y0 hE; have y1 := cellb y1 hE; have y2 := cellb y2 hE; have y3 := cellb y3 hE; (try dsimp only); go_simp); (try with_reducible rfl)
        try simp only [Act.put, List.setIfInBounds_toArray, List.set_cons_zero, List.set_cons_succ]
        refine wpAnyE_take (i := 4) (oi := { dst := some 57, op := Op.move (Operand.tmp 6), type := 27, pos := "law.go:226", after := #[{ on := 3, ground := Ground.guard }], guard := some (3, true) }) (v := ?_) rfl (by kernel_rfl) (by kernel_rfl) (by kernel_rfl) (by kernel_rfl) (fun _ _ _ h => h) (Or.inl ⟨by rfl, ?_⟩) ?_
        rotate_left
        · (intro w hE; have x0 := cellb x0 hE; have x1 := cellb x1 hE; have x2 := cellb x2 hE; have x3 := cellb x3 hE; have y0 := cellb y0 hE; have y1 := cellb y1 hE; have y2 := cellb y2 hE; have y3 := cellb y3 hE; (try dsimp only); go_simp); (try with_reducible rfl)
        try simp only [Act.put, List.setIfInBounds_toArray, List.set_cons_zero, List.set_cons_succ]
        refine wpAnyE_take (i := 5) (oi := { dst := some 58, op := Op.move (Operand.tmp 10), type := 3, pos := "law.go:226", after := #[{ on := 3, ground := Ground.guard }], guard := some (3, true) }) (v := ?_) rfl (by kernel_rfl) (by kernel_rfl) (by kernel_rfl) (by kernel_rfl) (fun _ _ _ h => h) (Or.inl ⟨by rfl, ?_⟩) ?_
        rotate_left
        · (intro w hE; have x0 := cellb x0 hE; have x1 := cellb x1 hE; have x2 := cellb x2 hE; have x3 := cellb x3 hE; have y0 := cellb y0 hE; have y1 := cellb y1 hE; have y2 := cellb y2 hE; have y3 := cellb y3 hE; (try dsimp only); go_simp); (try with_reducible rfl)
        try simp only [Act.put, List.setIfInBounds_toArray, List.set_cons_zero, List.set_cons_succ]
        refine wpAnyE_take (i := 6) (oi := { dst := some 59, op := Op.binOp BinOp.eql 3 (Operand.tmp 57) (Operand.tmp 58) 3, type := 4, pos := "law.go:226", after := #[{ on := 4, ground := Ground.data }, { on := 5, ground := Ground.data }, { on := 3, ground := Ground.guard }], guard := some (3, true) }) (v := ?_) rfl (by kernel_rfl) (by kernel_rfl) (by kernel_rfl) (by kernel_rfl) (fun _ _ _ h => h) (Or.inl ⟨by rfl, ?_⟩) ?_
        rotate_left
        · (intro w hE; have x0 := cellb x0 hE; have x1 := cellb x1 hE; have x2 := cellb x2 hE; have x3 := cellb x3 hE; have y0 := cellb y0 hE; have y1 := cellb y1 hE; have y2 := cellb y2 hE; have y3 := cellb y3 hE; (try dsimp only); go_simp); (try with_reducible rfl)
        try simp only [Act.put, List.setIfInBounds_toArray, List.set_cons_zero, List.set_cons_succ]
        refine wpAnyE_take (i := 7) (oi := { dst := some 60, op := Op.pick (Operand.tmp 56) (Operand.tmp 59) (Operand.const (Value.bool false)), type := 4, pos := "law.go:226", after := #[{ on := 3, ground := Ground.data }, { on := 6, ground := Ground.data }], guard := none }) (v := ?_) rfl (by kernel_rfl) (by kernel_rfl) (by kernel_rfl) (by kernel_rfl) (fun _ _ _ h => h) (Or.inl ⟨by rfl, ?_⟩) ?_
        rotate_left
        · (intro w hE; have x0 := cellb x0 hE; have x1 := cellb x1 hE; have x2 := cellb x2 hE; have x3 := cellb x3 hE; have y0 := cellb y0 hE; have y1 := cellb y1 hE; have y2 := cellb y2 hE; have y3 := cellb y3 hE; (try dsimp only); go_simp); (try with_reducible rfl)
        try simp only [Act.put, List.setIfInBounds_toArray, List.set_cons_zero, List.set_cons_succ]
        refine wpAnyE_take (i := 8) (oi := { dst := some 61, op := Op.move (Operand.tmp 60), type := 4, pos := "law.go:226", after := #[{ on := 7, ground := Ground.data }, { on := 3, ground := Ground.chain }], guard := none }) (v := ?_) rfl (by kernel_rfl) (by kernel_rfl) (by kernel_rfl) (by kernel_rfl) (fun _ _ _ h => h) (Or.inl ⟨by rfl, ?_⟩) ?_
        rotate_left
        · (intro w hE; have x0 := cellb x0 hE; have x1 := cellb x1 hE; have x2 := cellb x2 hE; have x3 := cellb x3 hE; have y0 := cellb y0 hE; have y1 := cellb y1 hE; have y2 := cellb y2 hE; have y3 := cellb y3 hE; (try dsimp only); go_simp); (try with_reducible rfl)
        try simp only [Act.put, List.setIfInBounds_toArray, List.set_cons_zero, List.set_cons_succ]
        refine wpAnyE_take (i := 9) (oi := { dst := some 62, op := Op.load 32 (Operand.tmp 7), type := 32, pos := "law.go:226", after := #[{ on := 8, ground := Ground.guard }], guard := some (8, true) }) (v := ?_) rfl (by kernel_rfl) (by kernel_rfl) (by kernel_rfl) (by kernel_rfl) (fun _ _ _ h => h) (Or.inl ⟨by rfl, ?_⟩) ?_
        rotate_left
        · (intro w hE; have x0 := cellb x0 hE; have x1 := cellb x1 hE; have x2 := cellb x2 hE; have x3 := cellb x3 hE; have y0 := cellb y0 hE; have y1 := cellb y1 hE; have y2 := cellb y2 hE; have y3 := cellb y3 hE; (try dsimp only); go_simp); (try with_reducible rfl)
        try simp only [Act.put, List.setIfInBounds_toArray, List.set_cons_zero, List.set_cons_succ]
        refine wpAnyE_take (i := 11) (oi := { dst := some 64, op := Op.load 24 (Operand.tmp 12), type := 24, pos := "law.go:226", after := #[{ on := 8, ground := Ground.guard }], guard := some (8, true) }) (v := ?_) rfl (by kernel_rfl) (by kernel_rfl) (by kernel_rfl) (by kernel_rfl) (fun _ _ _ h => h) (Or.inl ⟨by rfl, ?_⟩) ?_
        rotate_left
        · (intro w hE; have x0 := cellb x0 hE; have x1 := cellb x1 hE; have x2 := cellb x2 hE; have x3 := cellb x3 hE; have y0 := cellb y0 hE; have y1 := cellb y1 hE; have y2 := cellb y2 hE; have y3 := cellb y3 hE; (try dsimp only); go_simp); (try with_reducible rfl)
        try simp only [Act.put, List.setIfInBounds_toArray, List.set_cons_zero, List.set_cons_succ]
        refine wpAnyE_call (i := 10) (oi := { dst := some 63, op := Op.call { callee := Callee.value (Operand.func 14), args := #[Operand.tmp 62], argTypes := #[32] }, type := 24, pos := "law.go:226", after := #[{ on := 9, ground := Ground.data }, { on := 8, ground := Ground.chain }, { on := 8, ground := Ground.guard }], guard := some (8, true) }) (fun w hE => OW.out w (bthen hbz hE)) rfl (by kernel_rfl) (by kernel_rfl) (by kernel_rfl) (by kernel_rfl) (fun _ _ _ h => h) (by rfl) (fun w hE => by (try dsimp only); go_simp) ?_
        try simp only [Act.put, List.setIfInBounds_toArray, List.set_cons_zero, List.set_cons_succ]
        refine wpAnyE_call (i := 12) (oi := { dst := some 65, op := Op.call { callee := Callee.value (Operand.func 13), args := #[Operand.tmp 63, Operand.tmp 64], argTypes := #[24, 24] }, type := 4, pos := "law.go:226", after := #[{ on := 10, ground := Ground.data }, { on := 11, ground := Ground.data }, { on := 10, ground := Ground.chain }, { on := 8, ground := Ground.guard }], guard := some (8, true) }) (fun w hE => SL.out w (bthen hbz hE)) rfl (by kernel_rfl) (by kernel_rfl) (by kernel_rfl) (by kernel_rfl) (fun _ _ _ h => h) (by rfl) (fun w hE => by (try dsimp only); go_simp) ?_
        try simp only [Act.put, List.setIfInBounds_toArray, List.set_cons_zero, List.set_cons_succ]
        refine wpAnyE_take (i := 13) (oi := { dst := some 66, op := Op.pick (Operand.tmp 61) (Operand.tmp 65) (Operand.const (Value.bool false)), type := 4, pos := "law.go:226", after := #[{ on := 8, ground := Ground.data }, { on := 12, ground := Ground.data }], guard := none }) (v := ?_) rfl (by kernel_rfl) (by kernel_rfl) (by kernel_rfl) (by kernel_rfl) (fun _ _ _ h => h) (Or.inl ⟨by rfl, ?_⟩) ?_
        rotate_left
        · (intro w hE; have x0 := cellb x0 hE; have x1 := cellb x1 hE; have x2 := cellb x2 hE; have x3 := cellb x3 hE; have y0 := cellb y0 hE; have y1 := cellb y1 hE; have y2 := cellb y2 hE; have y3 := cellb y3 hE; (try dsimp only); go_simp); (try with_reducible rfl)
        try simp only [Act.put, List.setIfInBounds_toArray, List.set_cons_zero, List.set_cons_succ]
        refine wpAnyE_take (i := 14) (oi := { dst := some 67, op := Op.move (Operand.tmp 66), type := 4, pos := "law.go:226", after := #[{ on := 13, ground := Ground.data }, { on := 12, ground := Ground.chain }], guard := none }) (v := ?_) rfl (by kernel_rfl) (by kernel_rfl) (by kernel_rfl) (by kernel_rfl) (fun _ _ _ h => h) (Or.inl ⟨by rfl, ?_⟩) ?_
        rotate_left
        · (intro w hE; have x0 := cellb x0 hE; have x1 := cellb x1 hE; have x2 := cellb x2 hE; have x3 := cellb x3 hE; have y0 := cellb y0 hE; have y1 := cellb y1 hE; have y2 := cellb y2 hE; have y3 := cellb y3 hE; (try dsimp only); go_simp); (try with_reducible rfl)
        try simp only [Act.put, List.setIfInBounds_toArray, List.set_cons_zero, List.set_cons_succ]
        refine wpAnyE_take (i := 15) (oi := { dst := some 68, op := Op.move (Operand.tmp 8), type := 3, pos := "law.go:226", after := #[{ on := 14, ground := Ground.guard }], guard := some (14, true) }) (v := ?_) rfl (by kernel_rfl) (by kernel_rfl) (by kernel_rfl) (by kernel_rfl) (fun _ _ _ h => h) (Or.inl ⟨by rfl, ?_⟩) ?_
        rotate_left
        · (intro w hE; have x0 := cellb x0 hE; have x1 := cellb x1 hE; have x2 := cellb x2 hE; have x3 := cellb x3 hE; have y0 := cellb y0 hE; have y1 := cellb y1 hE; have y2 := cellb y2 hE; have y3 := cellb y3 hE; (try dsimp only); go_simp); (try with_reducible rfl)
        try simp only [Act.put, List.setIfInBounds_toArray, List.set_cons_zero, List.set_cons_succ]
        refine wpAnyE_take (i := 16) (oi := { dst := some 69, op := Op.move (Operand.tmp 13), type := 3, pos := "law.go:226", after := #[{ on := 14, ground := Ground.guard }], guard := some (14, true) }) (v := ?_) rfl (by kernel_rfl) (by kernel_rfl) (by kernel_rfl) (by kernel_rfl) (fun _ _ _ h => h) (Or.inl ⟨by rfl, ?_⟩) ?_
        rotate_left
        · (intro w hE; have x0 := cellb x0 hE; have x1 := cellb x1 hE; have x2 := cellb x2 hE; have x3 := cellb x3 hE; have y0 := cellb y0 hE; have y1 := cellb y1 hE; have y2 := cellb y2 hE; have y3 := cellb y3 hE; (try dsimp only); go_simp); (try with_reducible rfl)
        try simp only [Act.put, List.setIfInBounds_toArray, List.set_cons_zero, List.set_cons_succ]
        refine wpAnyE_take (i := 17) (oi := { dst := some 70, op := Op.binOp BinOp.eql 3 (Operand.tmp 68) (Operand.tmp 69) 3, type := 4, pos := "law.go:226", after := #[{ on := 15, ground := Ground.data }, { on := 16, ground := Ground.data }, { on := 14, ground := Ground.guard }], guard := some (14, true) }) (v := ?_) rfl (by kernel_rfl) (by kernel_rfl) (by kernel_rfl) (by kernel_rfl) (fun _ _ _ h => h) (Or.inl ⟨by rfl, ?_⟩) ?_
        rotate_left
        · (intro w hE; have x0 := cellb x0 hE; have x1 := cellb x1 hE; have x2 := cellb x2 hE; have x3 := cellb x3 hE; have y0 := cellb y0 hE; have y1 := cellb y1 hE; have y2 := cellb y2 hE; have y3 := cellb y3 hE; (try dsimp only); go_simp); (try with_reducible rfl)
        try simp only [Act.put, List.setIfInBounds_toArray, List.set_cons_zero, List.set_cons_succ]
        refine wpAnyE_take (i := 18) (oi := { dst := some 71, op := Op.pick (Operand.tmp 67) (Operand.tmp 70) (Operand.const (Value.bool false)), type := 4, pos := "law.go:226", after := #[{ on := 14, ground := Ground.data }, { on := 17, ground := Ground.data }], guard := none }) (v := ?_) rfl (by kernel_rfl) (by kernel_rfl) (by kernel_rfl) (by kernel_rfl) (fun _ _ _ h => h) (Or.inl ⟨by rfl, ?_⟩) ?_
        rotate_left
        · (intro w hE; have x0 := cellb x0 hE; have x1 := cellb x1 hE; have x2 := cellb x2 hE; have x3 := cellb x3 hE; have y0 := cellb y0 hE; have y1 := cellb y1 hE; have y2 := cellb y2 hE; have y3 := cellb y3 hE; (try dsimp only); go_simp); (try with_reducible rfl)
        try simp only [Act.put, List.setIfInBounds_toArray, List.set_cons_zero, List.set_cons_succ]
        refine wpAnyE_take (i := 19) (oi := { dst := some 72, op := Op.move (Operand.tmp 71), type := 4, pos := "law.go:226", after := #[{ on := 18, ground := Ground.data }, { on := 14, ground := Ground.chain }], guard := none }) (v := ?_) rfl (by kernel_rfl) (by kernel_rfl) (by kernel_rfl) (by kernel_rfl) (fun _ _ _ h => h) (Or.inl ⟨by rfl, ?_⟩) ?_
        rotate_left
        · (intro w hE; have x0 := cellb x0 hE; have x1 := cellb x1 hE; have x2 := cellb x2 hE; have x3 := cellb x3 hE; have y0 := cellb y0 hE; have y1 := cellb y1 hE; have y2 := cellb y2 hE; have y3 := cellb y3 hE; (try dsimp only); go_simp); (try with_reducible rfl)
        try simp only [Act.put, List.setIfInBounds_toArray, List.set_cons_zero, List.set_cons_succ]
        refine wpAnyE_take (i := 20) (oi := { dst := some 73, op := Op.move (Operand.tmp 9), type := 27, pos := "law.go:226", after := #[{ on := 19, ground := Ground.guard }], guard := some (19, true) }) (v := ?_) rfl (by kernel_rfl) (by kernel_rfl) (by kernel_rfl) (by kernel_rfl) (fun _ _ _ h => h) (Or.inl ⟨by rfl, ?_⟩) ?_
        rotate_left
        · (intro w hE; have x0 := cellb x0 hE; have x1 := cellb x1 hE; have x2 := cellb x2 hE; have x3 := cellb x3 hE; have y0 := cellb y0 hE; have y1 := cellb y1 hE; have y2 := cellb y2 hE; have y3 := cellb y3 hE; (try dsimp only); go_simp); (try with_reducible rfl)
        try simp only [Act.put, List.setIfInBounds_toArray, List.set_cons_zero, List.set_cons_succ]
        refine wpAnyE_take (i := 21) (oi := { dst := some 74, op := Op.move (Operand.tmp 14), type := 3, pos := "law.go:226", after := #[{ on := 19, ground := Ground.guard }], guard := some (19, true) }) (v := ?_) rfl (by kernel_rfl) (by kernel_rfl) (by kernel_rfl) (by kernel_rfl) (fun _ _ _ h => h) (Or.inl ⟨by rfl, ?_⟩) ?_
        rotate_left
        · (intro w hE; have x0 := cellb x0 hE; have x1 := cellb x1 hE; have x2 := cellb x2 hE; have x3 := cellb x3 hE; have y0 := cellb y0 hE; have y1 := cellb y1 hE; have y2 := cellb y2 hE; have y3 := cellb y3 hE; (try dsimp only); go_simp); (try with_reducible rfl)
        try simp only [Act.put, List.setIfInBounds_toArray, List.set_cons_zero, List.set_cons_succ]
        refine wpAnyE_take (i := 22) (oi := { dst := some 75, op := Op.binOp BinOp.eql 3 (Operand.tmp 73) (Operand.tmp 74) 3, type := 4, pos := "law.go:226", after := #[{ on := 20, ground := Ground.data }, { on := 21, ground := Ground.data }, { on := 19, ground := Ground.guard }], guard := some (19, true) }) (v := ?_) rfl (by kernel_rfl) (by kernel_rfl) (by kernel_rfl) (by kernel_rfl) (fun _ _ _ h => h) (Or.inl ⟨by rfl, ?_⟩) ?_
        rotate_left
        · (intro w hE; have x0 := cellb x0 hE; have x1 := cellb x1 hE; have x2 := cellb x2 hE; have x3 := cellb x3 hE; have y0 := cellb y0 hE; have y1 := cellb y1 hE; have y2 := cellb y2 hE; have y3 := cellb y3 hE; (try dsimp only); go_simp); (try with_reducible rfl)
        try simp only [Act.put, List.setIfInBounds_toArray, List.set_cons_zero, List.set_cons_succ]
        refine wpAnyE_take (i := 23) (oi := { dst := some 76, op := Op.pick (Operand.tmp 72) (Operand.tmp 75) (Operand.const (Value.bool false)), type := 4, pos := "law.go:226", after := #[{ on := 19, ground := Ground.data }, { on := 22, ground := Ground.data }], guard := none }) (v := ?_) rfl (by kernel_rfl) (by kernel_rfl) (by kernel_rfl) (by kernel_rfl) (fun _ _ _ h => h) (Or.inl ⟨by rfl, ?_⟩) ?_
        rotate_left
        · (intro w hE; have x0 := cellb x0 hE; have x1 := cellb x1 hE; have x2 := cellb x2 hE; have x3 := cellb x3 hE; have y0 := cellb y0 hE; have y1 := cellb y1 hE; have y2 := cellb y2 hE; have y3 := cellb y3 hE; (try dsimp only); go_simp); (try with_reducible rfl)
        try simp only [Act.put, List.setIfInBounds_toArray, List.set_cons_zero, List.set_cons_succ]
        refine wpAnyE_take (i := 24) (oi := { dst := some 77, op := Op.move (Operand.tmp 76), type := 4, pos := "law.go:226", after := #[{ on := 23, ground := Ground.data }, { on := 19, ground := Ground.chain }], guard := none }) (v := ?_) rfl (by kernel_rfl) (by kernel_rfl) (by kernel_rfl) (by kernel_rfl) (fun _ _ _ h => h) (Or.inl ⟨by rfl, ?_⟩) ?_
        rotate_left
        · (intro w hE; have x0 := cellb x0 hE; have x1 := cellb x1 hE; have x2 := cellb x2 hE; have x3 := cellb x3 hE; have y0 := cellb y0 hE; have y1 := cellb y1 hE; have y2 := cellb y2 hE; have y3 := cellb y3 hE; (try dsimp only); go_simp); (try with_reducible rfl)
        try simp only [Act.put, List.setIfInBounds_toArray, List.set_cons_zero, List.set_cons_succ]
        refine wpAnyE_call (i := 25) (oi := { dst := some 78, op := Op.call { callee := Callee.value (Operand.func 6), args := #[], argTypes := #[] }, type := 4, pos := "law.go:226", after := #[{ on := 24, ground := Ground.chain }, { on := 24, ground := Ground.guard }], guard := some (24, true) }) (fun w hE => AW.out w (bthen hbz hE)) rfl (by kernel_rfl) (by kernel_rfl) (by kernel_rfl) (by kernel_rfl) (fun _ _ _ h => h) (by rfl) (fun w hE => by (try dsimp only); go_simp) ?_
        try simp only [Act.put, List.setIfInBounds_toArray, List.set_cons_zero, List.set_cons_succ]
        refine wpAnyE_take (i := 26) (oi := { dst := some 79, op := Op.pick (Operand.tmp 77) (Operand.tmp 78) (Operand.const (Value.bool false)), type := 4, pos := "law.go:226", after := #[{ on := 24, ground := Ground.data }, { on := 25, ground := Ground.data }], guard := none }) (v := ?_) rfl (by kernel_rfl) (by kernel_rfl) (by kernel_rfl) (by kernel_rfl) (fun _ _ _ h => h) (Or.inl ⟨by rfl, ?_⟩) ?_
        rotate_left
        · (intro w hE; have x0 := cellb x0 hE; have x1 := cellb x1 hE; have x2 := cellb x2 hE; have x3 := cellb x3 hE; have y0 := cellb y0 hE; have y1 := cellb y1 hE; have y2 := cellb y2 hE; have y3 := cellb y3 hE; (try dsimp only); go_simp); (try with_reducible rfl)
        try simp only [Act.put, List.setIfInBounds_toArray, List.set_cons_zero, List.set_cons_succ]
        refine wpAnyE_take (i := 27) (oi := { dst := some 4, op := Op.assign (Operand.tmp 79), type := 4, pos := "law.go:226", after := #[{ on := 26, ground := Ground.data }, { on := 25, ground := Ground.chain }, { on := 0, ground := Ground.phase }, { on := 1, ground := Ground.phase }, { on := 2, ground := Ground.phase }, { on := 3, ground := Ground.phase }, { on := 4, ground := Ground.phase }, { on := 5, ground := Ground.phase }, { on := 6, ground := Ground.phase }, { on := 7, ground := Ground.phase }, { on := 8, ground := Ground.phase }, { on := 9, ground := Ground.phase }, { on := 10, ground := Ground.phase }, { on := 11, ground := Ground.phase }, { on := 12, ground := Ground.phase }, { on := 13, ground := Ground.phase }, { on := 14, ground := Ground.phase }, { on := 15, ground := Ground.phase }, { on := 16, ground := Ground.phase }, { on := 17, ground := Ground.phase }, { on := 18, ground := Ground.phase }, { on := 19, ground := Ground.phase }, { on := 20, ground := Ground.phase }, { on := 21, ground := Ground.phase }, { on := 22, ground := Ground.phase }, { on := 23, ground := Ground.phase }, { on := 24, ground := Ground.phase }, { on := 25, ground := Ground.phase }, { on := 26, ground := Ground.phase }], guard := none }) (v := ?_) rfl (by kernel_rfl) (by kernel_rfl) (by kernel_rfl) (by kernel_rfl) (fun _ _ _ h => h) (Or.inl ⟨by rfl, ?_⟩) ?_
        rotate_left
        · (intro w hE; have x0 := cellb x0 hE; have x1 := cellb x1 hE; have x2 := cellb x2 hE; have x3 := cellb x3 hE; have y0 := cellb y0 hE; have y1 := cellb y1 hE; have y2 := cellb y2 hE; have y3 := cellb y3 hE; (try dsimp only); go_simp); (try with_reducible rfl)
        try simp only [Act.put, List.setIfInBounds_toArray, List.set_cons_zero, List.set_cons_succ]
        refine wpAnyE_done (by kernel_rfl) (fun wy1 hE => ?_) _
        have hbz1 := bthen hbz hE
        have x0 := cellb x0 hE
        have x1 := cellb x1 hE
        have x2 := cellb x2 hE
        have x3 := cellb x3 hE
        have y0 := cellb y0 hE
        have y1 := cellb y1 hE
        have y2 := cellb y2 hE
        have y3 := cellb y3 hE
        clear hE
        have hz := hbz1
        go_wp2_with fail
        go_ret
        exact ⟨rfl, bthen hB hz⟩
      · have HTT : T = ⟨#[]⟩ := by rw [HT.out, printR, if_pos (by rw [← HE.out]; exact he)]
        have z : (E == 0) = false := by rw [beq_eq_false_iff_ne]; exact he
        clear HE HT
        subst HTT
        go_wp2_with fail
        refine (TPR.out w6 hn10).mono ?_
        rintro e w8 ⟨hp, hl⟩
        obtain ⟨b0, b1, b2, b3, m0, m1, m2, m3, rfl, j0, j1, j2, j3⟩ := HTD.out _ _ hp
        replace hB := bthen hB hl
        replace iX := iX.carry hl
        replace i0 := i0.carry hl
        replace i1 := i1.carry hl
        replace i2 := i2.carry hl
        replace i3 := i3.carry hl
        clear hl hp iB
        go_upto_region 9 with fail
        obtain ⟨w9, hw9⟩ : ∃ v, v = w8.alloc (Obj.cells #[.slice b0 q0.length m0, .slice b1 q1.length m1, .slice b2 q2.length m2, .slice b3 q3.length m3] 24) := ⟨_, rfl⟩
        have kb : Below w8.heap.size w8 w9 := by rw [hw9]; exact below_new _ _
        have iY : Blk w9 w8.heap.size 24 [.slice b0 q0.length m0, .slice b1 q1.length m1, .slice b2 q2.length m2, .slice b3 q3.length m3] := by rw [hw9]; exact Blk.new _ _ _
        rw [← hw9]
        obtain ⟨GY, hGY⟩ : ∃ G, G = w8.heap.size := ⟨_, rfl⟩
        rw [← hGY] at iY ⊢
        clear hw9 hGY
        replace hB := bthen hB kb
        replace iX := iX.carry kb
        have OW := Lib.hid (fun (X : World) (h : Below w9.heap.size w9 X) => own_any _ _ _ _ q0 q1 q2 q3 X ((i0.carry kb).carry h) ((i1.carry kb).carry h) ((i2.carry kb).carry h) ((i3.carry kb).carry h))
        have SL := Lib.hid (fun (X : World) (h : Below w9.heap.size w9 X) => SameLoop_any _ _ _ _ _ _ _ _ q0 q1 q2 q3 X ((i0.carry kb).carry h) ((i1.carry kb).carry h) ((i2.carry kb).carry h) ((i3.carry kb).carry h) ((j0.carry kb).carry h) ((j1.carry kb).carry h) ((j2.carry kb).carry h) ((j3.carry kb).carry h) (by omega) (by omega) (by omega) (by omega))
        have AW := Lib.hid (fun (X : World) (h : Below w9.heap.size w9 X) => TAW.out X (HQ.out.below (bthen hB h) (by have := HW.out.size; omega)) (HW.out.carry (bthen hB h)).pows)
        have x0 := iX.cell (j := 0) (v := .slice a0 q0.length k0) rfl
        have x1 := iX.cell (j := 1) (v := .slice a1 q1.length k1) rfl
        have x2 := iX.cell (j := 2) (v := .slice a2 q2.length k2) rfl
        have x3 := iX.cell (j := 3) (v := .slice a3 q3.length k3) rfl
        have y0 := iY.cell (j := 0) (v := .slice b0 q0.length m0) rfl
        have y1 := iY.cell (j := 1) (v := .slice b1 q1.length m1) rfl
        have y2 := iY.cell (j := 2) (v := .slice b2 q2.length m2) rfl
        have y3 := iY.cell (j := 3) (v := .slice b3 q3.length m3) rfl
        have h9 := Below.refl w9.heap.size w9
        clear kb iX iY i0 i1 i2 i3 j0 j1 j2 j3
        refine wp_region_E 99 (by kernel_rfl) ?_
        obtain ⟨wz, hwz⟩ : ∃ v, v = w9.drew := ⟨_, rfl⟩
        rw [← hwz]
        have hlz : Below w9.heap.size w9 wz := by rw [hwz]; exact (Below.refl _ _).drew
        have hbz := bthen h9 hlz
        have x0 := cellb x0 hlz
        have x1 := cellb x1 hlz
        have x2 := cellb x2 hlz
        have x3 := cellb x3 hlz
        have y0 := cellb y0 hlz
        have y1 := cellb y1 hlz
        have y2 := cellb y2 hlz
        have y3 := cellb y3 hlz
        clear hwz hlz
        refine wpAnyE_take (i := 0) (oi := { dst := some 53, op := Op.move (Operand.tmp 5), type := 9, pos := "law.go:226", after := #[], guard := none }) (v := ?_) rfl (by kernel_rfl) (by kernel_rfl) (by kernel_rfl) (by kernel_rfl) (fun _ _ _ h => h) (Or.inl ⟨by rfl, ?_⟩) ?_
        rotate_left
        · (intro w hE; have x0 := cellb x0 hE; have x1 := cellb x1 hE; have x2 := cellb x2 hE; have x3 := cellb x3 hE; have y0 := cellb y0 hE; have y1 := cellb y1 hE; have y2 := cellb y2 hE; have y3 := cellb y3 hE; (try dsimp only); go_simp); (try with_reducible rfl)
        try simp only [Act.put, List.setIfInBounds_toArray, List.set_cons_zero, List.set_cons_succ]
        refine wpAnyE_take (i := 1) (oi := { dst := some 54, op := Op.move (Operand.tmp 11), type := 9, pos := "law.go:226", after := #[], guard := none }) (v := ?_) rfl (by kernel_rfl) (by kernel_rfl) (by kernel_rfl) (by kernel_rfl) (fun _ _ _ h => h) (Or.inl ⟨by rfl, ?_⟩) ?_
        rotate_left
        · (intro w hE; have x0 := cellb x0 hE; have x1 := cellb x1 hE; have x2 := cellb x2 hE; have x3 := cellb x3 hE; have y0 := cellb y0 hE; have y1 := cellb y1 hE; have y2 := cellb y2 hE; have y3 := cellb y3 hE; (try dsimp only); go_simp); (try with_reducible rfl)
        try simp only [Act.put, List.setIfInBounds_toArray, List.set_cons_zero, List.set_cons_succ]
        refine wpAnyE_take (i := 2) (oi := { dst := some 55, op := Op.binOp BinOp.eql 9 (Operand.tmp 53) (Operand.tmp 54) 9, type := 4, pos := "law.go:226", after := #[{ on := 0, ground := Ground.data }, { on := 1, ground := Ground.data }], guard := none }) (v := ?_) rfl (by kernel_rfl) (by kernel_rfl) (by kernel_rfl) (by kernel_rfl) (fun _ _ _ h => h) (Or.inl ⟨by rfl, ?_⟩) ?_
        rotate_left
        · (intro w hE; have x0 := cellb x0 hE; have x1 := cellb x1 hE; have x2 := cellb x2 hE; have x3 := cellb x3 hE; have y0 := cellb y0 hE; have y1 := cellb y1 hE; have y2 := cellb y2 hE; have y3 := cellb y3 hE; (try dsimp only); go_simp); (try with_reducible rfl)
        try simp only [Act.put, List.setIfInBounds_toArray, List.set_cons_zero, List.set_cons_succ]
        refine wpAnyE_take (i := 3) (oi := { dst := some 56, op := Op.move (Operand.tmp 55), type := 4, pos := "law.go:226", after := #[{ on := 2, ground := Ground.data }], guard := none }) (v := ?_) rfl (by kernel_rfl) (by kernel_rfl) (by kernel_rfl) (by kernel_rfl) (fun _ _ _ h => h) (Or.inl ⟨by rfl, ?_⟩) ?_
        rotate_left
        · (intro w hE; have x0 := cellb x0 hE; have x1 := cellb x1 hE; have x2 := cellb x2 hE; have x3 := cellb x3 hE; have y0 := cellb y0 hE; have y1 := cellb y1 hE; have y2 := cellb y2 hE; have y3 := cellb y3 hE; (try dsimp only); go_simp); (try with_reducible rfl)
        try simp only [Act.put, List.setIfInBounds_toArray, List.set_cons_zero, List.set_cons_succ]
        refine wpAnyE_take (i := 4) (oi := { dst := some 57, op := Op.move (Operand.tmp 6), type := 27, pos := "law.go:226", after := #[{ on := 3, ground := Ground.guard }], guard := some (3, true) }) (v := ?_) rfl (by kernel_rfl) (by kernel_rfl) (by kernel_rfl) (by kernel_rfl) (fun _ _ _ h => h) (Or.inl ⟨by rfl, ?_⟩) ?_
        rotate_left
        · (intro w hE; have x0 := cellb x0 hE; have x1 := cellb x1 hE; have x2 := cellb x2 hE; have x3 := cellb x3 hE; have y0 := cellb y0 hE; have y1 := cellb y1 hE; have y2 := cellb y2 hE; have y3 := cellb y3 hE; (try dsimp only); go_simp); (try with_reducible rfl)
        try simp only [Act.put, List.setIfInBounds_toArray, List.set_cons_zero, List.set_cons_succ]
        refine wpAnyE_take (i := 5) (oi := { dst := some 58, op := Op.move (Operand.tmp 10), type := 3, pos := "law.go:226", after := #[{ on := 3, ground := Ground.guard }], guard := some (3, true) }) (v := ?_) rfl (by kernel_rfl) (by kernel_rfl) (by kernel_rfl) (by kernel_rfl) (fun _ _ _ h => h) (Or.inl ⟨by rfl, ?_⟩) ?_
        rotate_left
        · (intro w hE; have x0 := cellb x0 hE; have x1 := cellb x1 hE; have x2 := cellb x2 hE; have x3 := cellb x3 hE; have y0 := cellb y0 hE; have y1 := cellb y1 hE; have y2 := cellb y2 hE; have y3 := cellb y3 hE; (try dsimp only); go_simp); (try with_reducible rfl)
        try simp only [Act.put, List.setIfInBounds_toArray, List.set_cons_zero, List.set_cons_succ]
        refine wpAnyE_take (i := 6) (oi := { dst := some 59, op := Op.binOp BinOp.eql 3 (Operand.tmp 57) (Operand.tmp 58) 3, type := 4, pos := "law.go:226", after := #[{ on := 4, ground := Ground.data }, { on := 5, ground := Ground.data }, { on := 3, ground := Ground.guard }], guard := some (3, true) }) (v := ?_) rfl (by kernel_rfl) (by kernel_rfl) (by kernel_rfl) (by kernel_rfl) (fun _ _ _ h => h) (Or.inl ⟨by rfl, ?_⟩) ?_
        rotate_left
        · (intro w hE; have x0 := cellb x0 hE; have x1 := cellb x1 hE; have x2 := cellb x2 hE; have x3 := cellb x3 hE; have y0 := cellb y0 hE; have y1 := cellb y1 hE; have y2 := cellb y2 hE; have y3 := cellb y3 hE; (try dsimp only); go_simp); (try with_reducible rfl)
        try simp only [Act.put, List.setIfInBounds_toArray, List.set_cons_zero, List.set_cons_succ]
        refine wpAnyE_take (i := 7) (oi := { dst := some 60, op := Op.pick (Operand.tmp 56) (Operand.tmp 59) (Operand.const (Value.bool false)), type := 4, pos := "law.go:226", after := #[{ on := 3, ground := Ground.data }, { on := 6, ground := Ground.data }], guard := none }) (v := ?_) rfl (by kernel_rfl) (by kernel_rfl) (by kernel_rfl) (by kernel_rfl) (fun _ _ _ h => h) (Or.inl ⟨by rfl, ?_⟩) ?_
        rotate_left
        · (intro w hE; have x0 := cellb x0 hE; have x1 := cellb x1 hE; have x2 := cellb x2 hE; have x3 := cellb x3 hE; have y0 := cellb y0 hE; have y1 := cellb y1 hE; have y2 := cellb y2 hE; have y3 := cellb y3 hE; (try dsimp only); go_simp); (try with_reducible rfl)
        try simp only [Act.put, List.setIfInBounds_toArray, List.set_cons_zero, List.set_cons_succ]
        refine wpAnyE_take (i := 8) (oi := { dst := some 61, op := Op.move (Operand.tmp 60), type := 4, pos := "law.go:226", after := #[{ on := 7, ground := Ground.data }, { on := 3, ground := Ground.chain }], guard := none }) (v := ?_) rfl (by kernel_rfl) (by kernel_rfl) (by kernel_rfl) (by kernel_rfl) (fun _ _ _ h => h) (Or.inl ⟨by rfl, ?_⟩) ?_
        rotate_left
        · (intro w hE; have x0 := cellb x0 hE; have x1 := cellb x1 hE; have x2 := cellb x2 hE; have x3 := cellb x3 hE; have y0 := cellb y0 hE; have y1 := cellb y1 hE; have y2 := cellb y2 hE; have y3 := cellb y3 hE; (try dsimp only); go_simp); (try with_reducible rfl)
        try simp only [Act.put, List.setIfInBounds_toArray, List.set_cons_zero, List.set_cons_succ]
        refine wpAnyE_take (i := 9) (oi := { dst := some 62, op := Op.load 32 (Operand.tmp 7), type := 32, pos := "law.go:226", after := #[{ on := 8, ground := Ground.guard }], guard := some (8, true) }) (v := ?_) rfl (by kernel_rfl) (by kernel_rfl) (by kernel_rfl) (by kernel_rfl) (fun _ _ _ h => h) (Or.inl ⟨by rfl, ?_⟩) ?_
        rotate_left
        · (intro w hE; have x0 := cellb x0 hE; have x1 := cellb x1 hE; have x2 := cellb x2 hE; have x3 := cellb x3 hE; have y0 := cellb y0 hE; have y1 := cellb y1 hE; have y2 := cellb y2 hE; have y3 := cellb y3 hE; (try dsimp only); go_simp); (try with_reducible rfl)
        try simp only [Act.put, List.setIfInBounds_toArray, List.set_cons_zero, List.set_cons_succ]
        refine wpAnyE_take (i := 11) (oi := { dst := some 64, op := Op.load 24 (Operand.tmp 12), type := 24, pos := "law.go:226", after := #[{ on := 8, ground := Ground.guard }], guard := some (8, true) }) (v := ?_) rfl (by kernel_rfl) (by kernel_rfl) (by kernel_rfl) (by kernel_rfl) (fun _ _ _ h => h) (Or.inl ⟨by rfl, ?_⟩) ?_
        rotate_left
        · (intro w hE; have x0 := cellb x0 hE; have x1 := cellb x1 hE; have x2 := cellb x2 hE; have x3 := cellb x3 hE; have y0 := cellb y0 hE; have y1 := cellb y1 hE; have y2 := cellb y2 hE; have y3 := cellb y3 hE; (try dsimp only); go_simp); (try with_reducible rfl)
        try simp only [Act.put, List.setIfInBounds_toArray, List.set_cons_zero, List.set_cons_succ]
        refine wpAnyE_call (i := 10) (oi := { dst := some 63, op := Op.call { callee := Callee.value (Operand.func 14), args := #[Operand.tmp 62], argTypes := #[32] }, type := 24, pos := "law.go:226", after := #[{ on := 9, ground := Ground.data }, { on := 8, ground := Ground.chain }, { on := 8, ground := Ground.guard }], guard := some (8, true) }) (fun w hE => OW.out w (bthen hbz hE)) rfl (by kernel_rfl) (by kernel_rfl) (by kernel_rfl) (by kernel_rfl) (fun _ _ _ h => h) (by rfl) (fun w hE => by (try dsimp only); go_simp) ?_
        try simp only [Act.put, List.setIfInBounds_toArray, List.set_cons_zero, List.set_cons_succ]
        refine wpAnyE_call (i := 12) (oi := { dst := some 65, op := Op.call { callee := Callee.value (Operand.func 13), args := #[Operand.tmp 63, Operand.tmp 64], argTypes := #[24, 24] }, type := 4, pos := "law.go:226", after := #[{ on := 10, ground := Ground.data }, { on := 11, ground := Ground.data }, { on := 10, ground := Ground.chain }, { on := 8, ground := Ground.guard }], guard := some (8, true) }) (fun w hE => SL.out w (bthen hbz hE)) rfl (by kernel_rfl) (by kernel_rfl) (by kernel_rfl) (by kernel_rfl) (fun _ _ _ h => h) (by rfl) (fun w hE => by (try dsimp only); go_simp) ?_
        try simp only [Act.put, List.setIfInBounds_toArray, List.set_cons_zero, List.set_cons_succ]
        refine wpAnyE_take (i := 13) (oi := { dst := some 66, op := Op.pick (Operand.tmp 61) (Operand.tmp 65) (Operand.const (Value.bool false)), type := 4, pos := "law.go:226", after := #[{ on := 8, ground := Ground.data }, { on := 12, ground := Ground.data }], guard := none }) (v := ?_) rfl (by kernel_rfl) (by kernel_rfl) (by kernel_rfl) (by kernel_rfl) (fun _ _ _ h => h) (Or.inl ⟨by rfl, ?_⟩) ?_
        rotate_left
        · (intro w hE; have x0 := cellb x0 hE; have x1 := cellb x1 hE; have x2 := cellb x2 hE; have x3 := cellb x3 hE; have y0 := cellb y0 hE; have y1 := cellb y1 hE; have y2 := cellb y2 hE; have y3 := cellb y3 hE; (try dsimp only); go_simp); (try with_reducible rfl)
        try simp only [Act.put, List.setIfInBounds_toArray, List.set_cons_zero, List.set_cons_succ]
        refine wpAnyE_take (i := 14) (oi := { dst := some 67, op := Op.move (Operand.tmp 66), type := 4, pos := "law.go:226", after := #[{ on := 13, ground := Ground.data }, { on := 12, ground := Ground.chain }], guard := none }) (v := ?_) rfl (by kernel_rfl) (by kernel_rfl) (by kernel_rfl) (by kernel_rfl) (fun _ _ _ h => h) (Or.inl ⟨by rfl, ?_⟩) ?_
        rotate_left
        · (intro w hE; have x0 := cellb x0 hE; have x1 := cellb x1 hE; have x2 := cellb x2 hE; have x3 := cellb x3 hE; have y0 := cellb y0 hE; have y1 := cellb y1 hE; have y2 := cellb y2 hE; have y3 := cellb y3 hE; (try dsimp only); go_simp); (try with_reducible rfl)
        try simp only [Act.put, List.setIfInBounds_toArray, List.set_cons_zero, List.set_cons_succ]
        refine wpAnyE_take (i := 15) (oi := { dst := some 68, op := Op.move (Operand.tmp 8), type := 3, pos := "law.go:226", after := #[{ on := 14, ground := Ground.guard }], guard := some (14, true) }) (v := ?_) rfl (by kernel_rfl) (by kernel_rfl) (by kernel_rfl) (by kernel_rfl) (fun _ _ _ h => h) (Or.inl ⟨by rfl, ?_⟩) ?_
        rotate_left
        · (intro w hE; have x0 := cellb x0 hE; have x1 := cellb x1 hE; have x2 := cellb x2 hE; have x3 := cellb x3 hE; have y0 := cellb y0 hE; have y1 := cellb y1 hE; have y2 := cellb y2 hE; have y3 := cellb y3 hE; (try dsimp only); go_simp); (try with_reducible rfl)
        try simp only [Act.put, List.setIfInBounds_toArray, List.set_cons_zero, List.set_cons_succ]
        refine wpAnyE_take (i := 16) (oi := { dst := some 69, op := Op.move (Operand.tmp 13), type := 3, pos := "law.go:226", after := #[{ on := 14, ground := Ground.guard }], guard := some (14, true) }) (v := ?_) rfl (by kernel_rfl) (by kernel_rfl) (by kernel_rfl) (by kernel_rfl) (fun _ _ _ h => h) (Or.inl ⟨by rfl, ?_⟩) ?_
        rotate_left
        · (intro w hE; have x0 := cellb x0 hE; have x1 := cellb x1 hE; have x2 := cellb x2 hE; have x3 := cellb x3 hE; have y0 := cellb y0 hE; have y1 := cellb y1 hE; have y2 := cellb y2 hE; have y3 := cellb y3 hE; (try dsimp only); go_simp); (try with_reducible rfl)
        try simp only [Act.put, List.setIfInBounds_toArray, List.set_cons_zero, List.set_cons_succ]
        refine wpAnyE_take (i := 17) (oi := { dst := some 70, op := Op.binOp BinOp.eql 3 (Operand.tmp 68) (Operand.tmp 69) 3, type := 4, pos := "law.go:226", after := #[{ on := 15, ground := Ground.data }, { on := 16, ground := Ground.data }, { on := 14, ground := Ground.guard }], guard := some (14, true) }) (v := ?_) rfl (by kernel_rfl) (by kernel_rfl) (by kernel_rfl) (by kernel_rfl) (fun _ _ _ h => h) (Or.inl ⟨by rfl, ?_⟩) ?_
        rotate_left
        · (intro w hE; have x0 := cellb x0 hE; have x1 := cellb x1 hE; have x2 := cellb x2 hE; have x3 := cellb x3 hE; have y0 := cellb y0 hE; have y1 := cellb y1 hE; have y2 := cellb y2 hE; have y3 := cellb y3 hE; (try dsimp only); go_simp); (try with_reducible rfl)
        try simp only [Act.put, List.setIfInBounds_toArray, List.set_cons_zero, List.set_cons_succ]
        refine wpAnyE_take (i := 18) (oi := { dst := some 71, op := Op.pick (Operand.tmp 67) (Operand.tmp 70) (Operand.const (Value.bool false)), type := 4, pos := "law.go:226", after := #[{ on := 14, ground := Ground.data }, { on := 17, ground := Ground.data }], guard := none }) (v := ?_) rfl (by kernel_rfl) (by kernel_rfl) (by kernel_rfl) (by kernel_rfl) (fun _ _ _ h => h) (Or.inl ⟨by rfl, ?_⟩) ?_
        rotate_left
        · (intro w hE; have x0 := cellb x0 hE; have x1 := cellb x1 hE; have x2 := cellb x2 hE; have x3 := cellb x3 hE; have y0 := cellb y0 hE; have y1 := cellb y1 hE; have y2 := cellb y2 hE; have y3 := cellb y3 hE; (try dsimp only); go_simp); (try with_reducible rfl)
        try simp only [Act.put, List.setIfInBounds_toArray, List.set_cons_zero, List.set_cons_succ]
        refine wpAnyE_take (i := 19) (oi := { dst := some 72, op := Op.move (Operand.tmp 71), type := 4, pos := "law.go:226", after := #[{ on := 18, ground := Ground.data }, { on := 14, ground := Ground.chain }], guard := none }) (v := ?_) rfl (by kernel_rfl) (by kernel_rfl) (by kernel_rfl) (by kernel_rfl) (fun _ _ _ h => h) (Or.inl ⟨by rfl, ?_⟩) ?_
        rotate_left
        · (intro w hE; have x0 := cellb x0 hE; have x1 := cellb x1 hE; have x2 := cellb x2 hE; have x3 := cellb x3 hE; have y0 := cellb y0 hE; have y1 := cellb y1 hE; have y2 := cellb y2 hE; have y3 := cellb y3 hE; (try dsimp only); go_simp); (try with_reducible rfl)
        try simp only [Act.put, List.setIfInBounds_toArray, List.set_cons_zero, List.set_cons_succ]
        refine wpAnyE_take (i := 20) (oi := { dst := some 73, op := Op.move (Operand.tmp 9), type := 27, pos := "law.go:226", after := #[{ on := 19, ground := Ground.guard }], guard := some (19, true) }) (v := ?_) rfl (by kernel_rfl) (by kernel_rfl) (by kernel_rfl) (by kernel_rfl) (fun _ _ _ h => h) (Or.inl ⟨by rfl, ?_⟩) ?_
        rotate_left
        · (intro w hE; have x0 := cellb x0 hE; have x1 := cellb x1 hE; have x2 := cellb x2 hE; have x3 := cellb x3 hE; have y0 := cellb y0 hE; have y1 := cellb y1 hE; have y2 := cellb y2 hE; have y3 := cellb y3 hE; (try dsimp only); go_simp); (try with_reducible rfl)
        try simp only [Act.put, List.setIfInBounds_toArray, List.set_cons_zero, List.set_cons_succ]
        refine wpAnyE_take (i := 21) (oi := { dst := some 74, op := Op.move (Operand.tmp 14), type := 3, pos := "law.go:226", after := #[{ on := 19, ground := Ground.guard }], guard := some (19, true) }) (v := ?_) rfl (by kernel_rfl) (by kernel_rfl) (by kernel_rfl) (by kernel_rfl) (fun _ _ _ h => h) (Or.inl ⟨by rfl, ?_⟩) ?_
        rotate_left
        · (intro w hE; have x0 := cellb x0 hE; have x1 := cellb x1 hE; have x2 := cellb x2 hE; have x3 := cellb x3 hE; have y0 := cellb y0 hE; have y1 := cellb y1 hE; have y2 := cellb y2 hE; have y3 := cellb y3 hE; (try dsimp only); go_simp); (try with_reducible rfl)
        try simp only [Act.put, List.setIfInBounds_toArray, List.set_cons_zero, List.set_cons_succ]
        refine wpAnyE_take (i := 22) (oi := { dst := some 75, op := Op.binOp BinOp.eql 3 (Operand.tmp 73) (Operand.tmp 74) 3, type := 4, pos := "law.go:226", after := #[{ on := 20, ground := Ground.data }, { on := 21, ground := Ground.data }, { on := 19, ground := Ground.guard }], guard := some (19, true) }) (v := ?_) rfl (by kernel_rfl) (by kernel_rfl) (by kernel_rfl) (by kernel_rfl) (fun _ _ _ h => h) (Or.inl ⟨by rfl, ?_⟩) ?_
        rotate_left
        · (intro w hE; have x0 := cellb x0 hE; have x1 := cellb x1 hE; have x2 := cellb x2 hE; have x3 := cellb x3 hE; have y0 := cellb y0 hE; have y1 := cellb y1 hE; have y2 := cellb y2 hE; have y3 := cellb y3 hE; (try dsimp only); go_simp); (try with_reducible rfl)
        try simp only [Act.put, List.setIfInBounds_toArray, List.set_cons_zero, List.set_cons_succ]
        refine wpAnyE_take (i := 23) (oi := { dst := some 76, op := Op.pick (Operand.tmp 72) (Operand.tmp 75) (Operand.const (Value.bool false)), type := 4, pos := "law.go:226", after := #[{ on := 19, ground := Ground.data }, { on := 22, ground := Ground.data }], guard := none }) (v := ?_) rfl (by kernel_rfl) (by kernel_rfl) (by kernel_rfl) (by kernel_rfl) (fun _ _ _ h => h) (Or.inl ⟨by rfl, ?_⟩) ?_
        rotate_left
        · (intro w hE; have x0 := cellb x0 hE; have x1 := cellb x1 hE; have x2 := cellb x2 hE; have x3 := cellb x3 hE; have y0 := cellb y0 hE; have y1 := cellb y1 hE; have y2 := cellb y2 hE; have y3 := cellb y3 hE; (try dsimp only); go_simp); (try with_reducible rfl)
        try simp only [Act.put, List.setIfInBounds_toArray, List.set_cons_zero, List.set_cons_succ]
        refine wpAnyE_take (i := 24) (oi := { dst := some 77, op := Op.move (Operand.tmp 76), type := 4, pos := "law.go:226", after := #[{ on := 23, ground := Ground.data }, { on := 19, ground := Ground.chain }], guard := none }) (v := ?_) rfl (by kernel_rfl) (by kernel_rfl) (by kernel_rfl) (by kernel_rfl) (fun _ _ _ h => h) (Or.inl ⟨by rfl, ?_⟩) ?_
        rotate_left
        · (intro w hE; have x0 := cellb x0 hE; have x1 := cellb x1 hE; have x2 := cellb x2 hE; have x3 := cellb x3 hE; have y0 := cellb y0 hE; have y1 := cellb y1 hE; have y2 := cellb y2 hE; have y3 := cellb y3 hE; (try dsimp only); go_simp); (try with_reducible rfl)
        try simp only [Act.put, List.setIfInBounds_toArray, List.set_cons_zero, List.set_cons_succ]
        refine wpAnyE_call (i := 25) (oi := { dst := some 78, op := Op.call { callee := Callee.value (Operand.func 6), args := #[], argTypes := #[] }, type := 4, pos := "law.go:226", after := #[{ on := 24, ground := Ground.chain }, { on := 24, ground := Ground.guard }], guard := some (24, true) }) (fun w hE => AW.out w (bthen hbz hE)) rfl (by kernel_rfl) (by kernel_rfl) (by kernel_rfl) (by kernel_rfl) (fun _ _ _ h => h) (by rfl) (fun w hE => by (try dsimp only); go_simp) ?_
        try simp only [Act.put, List.setIfInBounds_toArray, List.set_cons_zero, List.set_cons_succ]
        refine wpAnyE_take (i := 26) (oi := { dst := some 79, op := Op.pick (Operand.tmp 77) (Operand.tmp 78) (Operand.const (Value.bool false)), type := 4, pos := "law.go:226", after := #[{ on := 24, ground := Ground.data }, { on := 25, ground := Ground.data }], guard := none }) (v := ?_) rfl (by kernel_rfl) (by kernel_rfl) (by kernel_rfl) (by kernel_rfl) (fun _ _ _ h => h) (Or.inl ⟨by rfl, ?_⟩) ?_
        rotate_left
        · (intro w hE; have x0 := cellb x0 hE; have x1 := cellb x1 hE; have x2 := cellb x2 hE; have x3 := cellb x3 hE; have y0 := cellb y0 hE; have y1 := cellb y1 hE; have y2 := cellb y2 hE; have y3 := cellb y3 hE; (try dsimp only); go_simp); (try with_reducible rfl)
        try simp only [Act.put, List.setIfInBounds_toArray, List.set_cons_zero, List.set_cons_succ]
        refine wpAnyE_take (i := 27) (oi := { dst := some 4, op := Op.assign (Operand.tmp 79), type := 4, pos := "law.go:226", after := #[{ on := 26, ground := Ground.data }, { on := 25, ground := Ground.chain }, { on := 0, ground := Ground.phase }, { on := 1, ground := Ground.phase }, { on := 2, ground := Ground.phase }, { on := 3, ground := Ground.phase }, { on := 4, ground := Ground.phase }, { on := 5, ground := Ground.phase }, { on := 6, ground := Ground.phase }, { on := 7, ground := Ground.phase }, { on := 8, ground := Ground.phase }, { on := 9, ground := Ground.phase }, { on := 10, ground := Ground.phase }, { on := 11, ground := Ground.phase }, { on := 12, ground := Ground.phase }, { on := 13, ground := Ground.phase }, { on := 14, ground := Ground.phase }, { on := 15, ground := Ground.phase }, { on := 16, ground := Ground.phase }, { on := 17, ground := Ground.phase }, { on := 18, ground := Ground.phase }, { on := 19, ground := Ground.phase }, { on := 20, ground := Ground.phase }, { on := 21, ground := Ground.phase }, { on := 22, ground := Ground.phase }, { on := 23, ground := Ground.phase }, { on := 24, ground := Ground.phase }, { on := 25, ground := Ground.phase }, { on := 26, ground := Ground.phase }], guard := none }) (v := ?_) rfl (by kernel_rfl) (by kernel_rfl) (by kernel_rfl) (by kernel_rfl) (fun _ _ _ h => h) (Or.inl ⟨by rfl, ?_⟩) ?_
        rotate_left
        · (intro w hE; have x0 := cellb x0 hE; have x1 := cellb x1 hE; have x2 := cellb x2 hE; have x3 := cellb x3 hE; have y0 := cellb y0 hE; have y1 := cellb y1 hE; have y2 := cellb y2 hE; have y3 := cellb y3 hE; (try dsimp only); go_simp); (try with_reducible rfl)
        try simp only [Act.put, List.setIfInBounds_toArray, List.set_cons_zero, List.set_cons_succ]
        refine wpAnyE_done (by kernel_rfl) (fun wy1 hE => ?_) _
        have hbz1 := bthen hbz hE
        have x0 := cellb x0 hE
        have x1 := cellb x1 hE
        have x2 := cellb x2 hE
        have x3 := cellb x3 hE
        have y0 := cellb y0 hE
        have y1 := cellb y1 hE
        have y2 := cellb y2 hE
        have y3 := cellb y3 hE
        clear hE
        have hz := hbz1
        go_wp2_with fail
        go_ret
        exact ⟨rfl, bthen hB hz⟩
end Go.Proofs.YtfdehcphmmhjaaaGreatDoor

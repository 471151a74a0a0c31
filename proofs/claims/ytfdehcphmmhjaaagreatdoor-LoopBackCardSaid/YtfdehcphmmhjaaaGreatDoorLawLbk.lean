/- The law LoopBack. -/
import Derived.Test.YtfdehcphmmhjaaaGreatDoorLopH
import Derived.Test.YtfdehcphmmhjaaaGreatDoorLopD
namespace Go.Proofs.YtfdehcphmmhjaaaGreatDoor
set_option linter.unusedSimpArgs false
set_option linter.unusedVariables false
open Go.RowKit

theorem lineT_len {l : List Int} (k : Nat) (h5 : l.length ≤ 5) (h : ∀ x ∈ l, -100 ≤ x ∧ x ≤ 100) : (lineT k l).data.toList.length ≤ 201 := by
  have h1 := line_len k l h5 h
  unfold lineT joinB
  rw [data_append, List.length_append]
  show (Lib.join ((lineW k l).map (·.data.toList)) [32]).toArray.toList.length + 1 ≤ 201
  simp only [List.toList_toArray]
  omega
theorem print_len {f : Nat → List Int} (h : checkLoopE (f 0) (f 1) (f 2) (f 3) = 0) : (printT 4 f).data.toList.length ≤ 804 := by
  obtain ⟨h1, h2, h3, h4⟩ := checkLoopE_ok h
  have l0 := lineT_len 0 (checkPolyE_ok h1).2 (checkPolyE_range h1).1
  have l1 := lineT_len 1 (checkPolyE_ok h2).2 (checkPolyE_range h2).1
  have l2 := lineT_len 2 (checkPolyE_ok h3).2 (checkPolyE_range h3).1
  have l3 := lineT_len 3 (checkPolyE_ok h4).2 (checkPolyE_range h4).1
  have e : printT 4 f = (((⟨#[]⟩ ++ lineT 0 (f 0)) ++ lineT 1 (f 1)) ++ lineT 2 (f 2)) ++ lineT 3 (f 3) := rfl
  rw [e]
  simp only [data_append, List.length_append]
  show 0 + _ + _ + _ + _ ≤ 804
  omega
theorem print_five (f : Nat → List Int) : (splitC 10 (printT 4 f).data.toList).length = 5 := by
  have h := split_print f 4 []
  rw [List.append_nil] at h
  rw [h]
  simp [splitC]
theorem print_pos (f : Nat → List Int) : ∃ m, (printT 4 f).size = m + 1 := by
  have e : printT 4 f = printT 3 f ++ lineT 3 (f 3) := rfl
  have e2 : (printT 4 f).size = (printT 3 f).size + (lineT 3 (f 3)).size := by rw [e, ByteArray.size_append]
  have e3 : (lineT 3 (f 3)).size = (bodyK 3 (f 3)).length + 1 := by
    rw [← data_len, lineT_data, List.length_append]; rfl
  exact ⟨(printT 3 f).size + (bodyK 3 (f 3)).length, by omega⟩
theorem cut_last (b : ByteArray) (m : Nat) (h : b.size = m + 1) : (b.extract 0 m).data.toList = b.data.toList.dropLast := by
  have hs : b.data.toList.length = b.size := data_len _
  rw [ByteArray.data_extract, Array.toList_extract, List.dropLast_eq_take, hs, h]
  simp [List.extract]
theorem split_text (f : Nat → List Int) (w : World) (hl : (printT 4 f).data.toList.length ≤ 804) :
    Calls Tryz.prog 15 #[.string (printT 4 f), .int .u8 10] w fun e w' => (∃ g cap, e = .returned (.slice (some ⟨g, 0, none⟩) 5 cap)) ∧ Below w.heap.size w w' := by
  refine (Split_any (printT 4 f) 10 w (by rw [← data_len]; omega)).mono ?_
  rintro e w' ⟨⟨u, rfl, hu⟩, hb⟩
  have hu' : OwnS w.heap.size w' u (splitC 10 (printT 4 f).data.toList) := hu
  unfold OwnS at hu'
  rw [print_five f] at hu'
  obtain ⟨g, cap, rfl⟩ := ownsRow_succ hu'
  exact ⟨⟨g, cap, rfl⟩, hb⟩
set_option maxRecDepth 100000 in
set_option maxHeartbeats 8000000 in
theorem lbk_law (va vb vc vd : Value) (a b c d : List Int) (s : ByteArray) (w : World) (hq : Quarters w) (hW : Base w) (ha : Ints w va a) (hb : Ints w vb b) (hc : Ints w vc c) (hd : Ints w vd d) :
    Calls Tryz.prog 4 #[.agg #[va, vb, vc, vd], .string s] w fun e w' => e = .returned (.bool true) ∧ Below w.heap.size w w' := by
  have HA := Lib.hid ha
  have HB := Lib.hid hb
  have HC := Lib.hid hc
  have HD := Lib.hid hd
  have HQ := Lib.hid hq
  have HW := Lib.hid hW
  have TAW := Lib.hid (fun W hQ hP => awake_any W hQ hP)
  obtain ⟨n, hn⟩ : ∃ n, n = s.size := ⟨_, rfl⟩
  have hn' : s.size = n := hn.symm
  obtain ⟨xa, ca, rfl, _⟩ := id ha
  obtain ⟨xb, cb, rfl, _⟩ := id hb
  obtain ⟨xc, cc, rfl, _⟩ := id hc
  obtain ⟨xd, cd, rfl, _⟩ := id hd
  clear ha hb hc hd hq hW hn
  go_enter Tryz.func4, Tryz.ntmps4
  go_upto_region 1 with fail
  obtain ⟨W1, hW1⟩ : ∃ v, v = World.alloc w (Obj.cells #[.slice xa a.length ca, .slice xb b.length cb, .slice xc c.length cc, .slice xd d.length cd] 24) := ⟨_, rfl⟩
  have kW1 : Below w.heap.size w W1 := by rw [hW1]; exact below_new _ _
  have iW1 : Blk W1 (w.heap.size) 24 [.slice xa a.length ca, .slice xb b.length cb, .slice xc c.length cc, .slice xd d.length cd] := by rw [hW1]; exact Blk.new _ _ _
  have sW1 : W1.heap.size = w.heap.size + 1 := by rw [hW1]; simp
  rw [← hW1]
  clear hW1
  clear sW1
  have hB := kW1
  have iB := iW1
  clear kW1 iW1
  have h0 := Below.refl W1.heap.size W1
  go_cut [30] from 18 to 29 (fun u30 wn => u30 = .bool (!shortL a b c d || (decide (checkLoopE a b c d ≠ 0) || decide (300 < (n : Int)))) ∧ Below W1.heap.size W1 wn)
  case first =>
    have e0 := iB.cell (j := 0) (v := .slice xa a.length ca) rfl
    have e1 := iB.cell (j := 1) (v := .slice xb b.length cb) rfl
    have e2 := iB.cell (j := 2) (v := .slice xc c.length cc) rfl
    have e3 := iB.cell (j := 3) (v := .slice xd d.length cd) rfl
    go_wp2_with fail
    clear e0 e1 e2 e3
    refine (ShortR_any _ _ _ _ a b c d W1 (HA.out.carry hB) (HB.out.carry hB) (HC.out.carry hB) (HD.out.carry hB)).mono ?_
    rintro e w1 ⟨rfl, hl⟩
    cases hs : shortL a b c d with
    | false =>
      go_wp2_with fail
      go_meet
      exact ⟨by rw [hs]; rfl, hl⟩
    | true =>
      have hs7 : a.length ≤ 7 ∧ b.length ≤ 7 ∧ c.length ≤ 7 ∧ d.length ≤ 7 := of_decide_eq_true hs
      obtain ⟨la, lb, lc, ld⟩ := hs7
      replace hB := bthen hB hl
      replace iB := iB.carry hl
      have e0 := iB.cell (j := 0) (v := .slice xa a.length ca) rfl
      have e1 := iB.cell (j := 1) (v := .slice xb b.length cb) rfl
      have e2 := iB.cell (j := 2) (v := .slice xc c.length cc) rfl
      have e3 := iB.cell (j := 3) (v := .slice xd d.length cd) rfl
      go_wp2_with fail
      clear e0 e1 e2 e3
      refine (CheckLoopR_any _ _ _ _ a b c d w1 (HA.out.carry hB) (HB.out.carry hB) (HC.out.carry hB) (HD.out.carry hB) (by omega) (by omega) (by omega) (by omega)).mono ?_
      rintro e w2 ⟨rfl, hl2⟩
      have hl3 := bthen hl hl2
      by_cases he : checkLoopE a b c d = 0
      · have z : (checkLoopE a b c d != 0) = false := by rw [he]; rfl
        go_wp2_with fail
        go_meet
        exact ⟨by rw [hs]; simp [he], hl3⟩
      · have z : (checkLoopE a b c d != 0) = true := by rw [bne_iff_ne]; exact he
        go_wp2_with fail
        go_meet
        exact ⟨by rw [hs]; simp [he], hl3⟩
  case rest =>
    obtain ⟨rfl, hl⟩ := hcut
    replace hB := bthen hB hl
    replace iB := iB.carry hl
    clear hl h0
    by_cases hbad : (!shortL a b c d || (decide (checkLoopE a b c d ≠ 0) || decide (300 < (n : Int)))) = true
    · rw [hbad]
      go_wp2_with fail
      refine (TAW.out wc (HQ.out.below hB (by have := HW.out.size; omega)) (HW.out.carry hB).pows).mono ?_
      rintro e w1 ⟨rfl, hl⟩
      go_wp2
      go_ret
      exact ⟨rfl, bthen hB hl⟩
    · have hbad' : (!shortL a b c d || (decide (checkLoopE a b c d ≠ 0) || decide (300 < (n : Int)))) = false := by simpa using hbad
      rw [hbad']
      rw [Bool.or_eq_false_iff, Bool.or_eq_false_iff] at hbad'
      obtain ⟨hs, hnn, hn3⟩ := hbad'
      have hs7 : a.length ≤ 7 ∧ b.length ≤ 7 ∧ c.length ≤ 7 ∧ d.length ≤ 7 := of_decide_eq_true (show shortL a b c d = true by cases h : shortL a b c d with
        | true => rfl
        | false => rw [h] at hs; cases hs)
      obtain ⟨la, lb, lc, ld⟩ := hs7
      have hE : checkLoopE a b c d = 0 := by
        have h := of_decide_eq_false hnn
        exact Classical.byContradiction fun e => h e
      have hn10 : s.size ≤ 100000 := by
        have h := of_decide_eq_false hn3
        omega
      clear hs hnn hbad hn3
      have hT : printR a b c d = printT 4 (four a b c d) := by rw [printR, if_neg (by rw [hE]; simp)]
      have hlen := print_len (f := four a b c d) hE
      have hTold : Told (printT 4 (four a b c d)).data.toList 0 0 a b c d := parse_own (f := four a b c d) hE (by omega)
      have hCut := parse_cut (f := four a b c d) hE (by omega)
      have SPL := Lib.hid (fun (W : World) => split_text (four a b c d) W hlen)
      obtain ⟨m, hm⟩ := print_pos (four a b c d)
      have hcl := cut_last (printT 4 (four a b c d)) m hm
      obtain ⟨T, hTe⟩ : ∃ T, T = printT 4 (four a b c d) := ⟨_, rfl⟩
      rw [← hTe] at hT hlen hTold hCut SPL hm hcl
      have HCUT := Lib.hid (hCut _ hcl)
      have HTD := Lib.hid hTold
      have hTs : T.size ≤ 804 := by rw [← data_len]; exact hlen
      have HTT := Lib.hid hT
      have HEE := Lib.hid hE
      clear hTe hcl hCut hTold hT hlen hE
      have e0 := iB.cell (j := 0) (v := .slice xa a.length ca) rfl
      have e1 := iB.cell (j := 1) (v := .slice xb b.length cb) rfl
      have e2 := iB.cell (j := 2) (v := .slice xc c.length cc) rfl
      have e3 := iB.cell (j := 3) (v := .slice xd d.length cd) rfl
      go_wp2_with fail
      clear e0 e1 e2 e3
      refine (given_any _ _ _ _ a b c d wc (HA.out.carry hB) (HB.out.carry hB) (HC.out.carry hB) (HD.out.carry hB) (by omega) (by omega) (by omega) (by omega)).mono ?_
      rintro e w2 ⟨⟨u0, rfl, hu0⟩, hl⟩
      replace hB := bthen hB hl
      replace iB := iB.carry hl
      clear hl
      obtain ⟨va, vb, vc, vd, rfl, g1, g2, g3, g4⟩ := hu0
      go_wp2_with fail
      refine (Print_any _ _ _ _ a b c d w2 (HW.out.carry hB).pows g1 g2 g3 g4 (by omega) (by omega) (by omega) (by omega)).mono ?_
      rintro e w3 ⟨rfl, hl⟩
      replace hB := bthen hB hl
      replace iB := iB.carry hl
      clear hl g1 g2 g3 g4
      rw [HTT.out, HEE.out]
      go_wp2_with fail
      refine (Parse_any T w3 (by omega) (HW.out.carry hB)).mono ?_
      rintro e w4 ⟨hp, hl⟩
      obtain ⟨a0, a1, a2, a3, k0, k1, k2, k3, rfl, i0, i1, i2, i3⟩ := HTD.out _ _ hp
      replace hB := bthen hB hl
      replace iB := iB.carry hl
      clear hl hp
      go_upto_region 5 with fail
      obtain ⟨w5, hw5⟩ : ∃ v, v = w4.alloc (Obj.cells #[.slice a0 a.length k0, .slice a1 b.length k1, .slice a2 c.length k2, .slice a3 d.length k3] 32) := ⟨_, rfl⟩
      have kb : Below w4.heap.size w4 w5 := by rw [hw5]; exact below_new _ _
      have iX : Blk w5 w4.heap.size 32 [.slice a0 a.length k0, .slice a1 b.length k1, .slice a2 c.length k2, .slice a3 d.length k3] := by rw [hw5]; exact Blk.new _ _ _
      rw [← hw5]
      obtain ⟨GX, hGX⟩ : ∃ G, G = w4.heap.size := ⟨_, rfl⟩
      rw [← hGX] at iX ⊢
      clear hw5 hGX
      replace hB := bthen hB kb
      replace iB := iB.carry kb
      have OW := Lib.hid (fun (X : World) (h : Below w5.heap.size w5 X) => own_any _ _ _ _ a b c d X ((i0.carry kb).carry h) ((i1.carry kb).carry h) ((i2.carry kb).carry h) ((i3.carry kb).carry h))
      have SL := Lib.hid (fun (X : World) (h : Below w5.heap.size w5 X) => SameLoop_any _ _ _ _ _ _ _ _ a b c d X ((i0.carry kb).carry h) ((i1.carry kb).carry h) ((i2.carry kb).carry h) ((i3.carry kb).carry h) (HA.out.carry (bthen hB h)) (HB.out.carry (bthen hB h)) (HC.out.carry (bthen hB h)) (HD.out.carry (bthen hB h)) (by omega) (by omega) (by omega) (by omega))
      have x0 := iX.cell (j := 0) (v := .slice a0 a.length k0) rfl
      have x1 := iX.cell (j := 1) (v := .slice a1 b.length k1) rfl
      have x2 := iX.cell (j := 2) (v := .slice a2 c.length k2) rfl
      have x3 := iX.cell (j := 3) (v := .slice a3 d.length k3) rfl
      have e0 := iB.cell (j := 0) (v := .slice xa a.length ca) rfl
      have e1 := iB.cell (j := 1) (v := .slice xb b.length cb) rfl
      have e2 := iB.cell (j := 2) (v := .slice xc c.length cc) rfl
      have e3 := iB.cell (j := 3) (v := .slice xd d.length cd) rfl
      have h5 := Below.refl w5.heap.size w5
      clear i0 i1 i2 i3 kb iX iB
      refine wp_region_held_drew (S := (fun W => W.cell? ⟨GX, 0, none⟩ = some (.slice a0 a.length k0) ∧ W.cell? ⟨GX, 1, none⟩ = some (.slice a1 b.length k1) ∧ W.cell? ⟨GX, 2, none⟩ = some (.slice a2 c.length k2) ∧ W.cell? ⟨GX, 3, none⟩ = some (.slice a3 d.length k3) ∧ W.cell? ⟨w.heap.size, 0, none⟩ = some (.slice xa a.length ca) ∧ W.cell? ⟨w.heap.size, 1, none⟩ = some (.slice xb b.length cb) ∧ W.cell? ⟨w.heap.size, 2, none⟩ = some (.slice xc c.length cc) ∧ W.cell? ⟨w.heap.size, 3, none⟩ = some (.slice xd d.length cd))) (by kernel_rfl) ⟨cellb x0 h5.drew, cellb x1 h5.drew, cellb x2 h5.drew, cellb x3 h5.drew, cellb e0 h5.drew, cellb e1 h5.drew, cellb e2 h5.drew, cellb e3 h5.drew⟩ (fun hHeld0 => ?_)
      obtain ⟨wzd, hwz⟩ : ∃ v, v = w5.drew := ⟨_, rfl⟩
      rw [← hwz] at hHeld0 ⊢
      have hbzd : Below w5.heap.size w5 wzd := by rw [hwz]; exact h5.drew
      have hlzd : Below w5.heap.size w5 wzd := by rw [hwz]; exact (Below.refl _ _).drew
      clear hwz hlzd
      refine wpAnyH_take (i := 0) (oi := { dst := some 44, op := Op.move (Operand.tmp 6), type := 27, pos := "law.go:491", after := #[], guard := none }) (v := ?_) rfl (by kernel_rfl) (by kernel_rfl) (by kernel_rfl) (fun _ _ _ h => h) (Or.inl ⟨by rfl, ?_⟩) (by assumption) ?_
      rotate_left
      · (intro w hSw; (try dsimp only at hSw); go_simp); (try with_reducible rfl)
      try simp only [Act.put, List.setIfInBounds_toArray, List.set_cons_zero, List.set_cons_succ]
      refine wpAnyH_take (i := 1) (oi := { dst := some 45, op := Op.binOp BinOp.neq 27 (Operand.tmp 44) (Operand.const (Value.int IntKind.i64 0)) 27, type := 4, pos := "law.go:491", after := #[{ on := 0, ground := Ground.data }], guard := none }) (v := ?_) rfl (by kernel_rfl) (by kernel_rfl) (by kernel_rfl) (fun _ _ _ h => h) (Or.inl ⟨by rfl, ?_⟩) (by assumption) ?_
      rotate_left
      · (intro w hSw; (try dsimp only at hSw); go_simp); (try with_reducible rfl)
      try simp only [Act.put, List.setIfInBounds_toArray, List.set_cons_zero, List.set_cons_succ]
      refine wpAnyH_take (i := 2) (oi := { dst := some 46, op := Op.move (Operand.tmp 45), type := 4, pos := "law.go:491", after := #[{ on := 1, ground := Ground.data }], guard := none }) (v := ?_) rfl (by kernel_rfl) (by kernel_rfl) (by kernel_rfl) (fun _ _ _ h => h) (Or.inl ⟨by rfl, ?_⟩) (by assumption) ?_
      rotate_left
      · (intro w hSw; (try dsimp only at hSw); go_simp); (try with_reducible rfl)
      try simp only [Act.put, List.setIfInBounds_toArray, List.set_cons_zero, List.set_cons_succ]
      refine wpAnyH_take (i := 3) (oi := { dst := some 47, op := Op.move (Operand.tmp 9), type := 27, pos := "law.go:491", after := #[{ on := 2, ground := Ground.guard }], guard := some (2, false) }) (v := ?_) rfl (by kernel_rfl) (by kernel_rfl) (by kernel_rfl) (fun _ _ _ h => h) (Or.inl ⟨by rfl, ?_⟩) (by assumption) ?_
      rotate_left
      · (intro w hSw; (try dsimp only at hSw); go_simp); (try with_reducible rfl)
      try simp only [Act.put, List.setIfInBounds_toArray, List.set_cons_zero, List.set_cons_succ]
      refine wpAnyH_take (i := 4) (oi := { dst := some 48, op := Op.binOp BinOp.neq 27 (Operand.tmp 47) (Operand.const (Value.int IntKind.i64 0)) 27, type := 4, pos := "law.go:491", after := #[{ on := 3, ground := Ground.data }, { on := 2, ground := Ground.guard }], guard := some (2, false) }) (v := ?_) rfl (by kernel_rfl) (by kernel_rfl) (by kernel_rfl) (fun _ _ _ h => h) (Or.inl ⟨by rfl, ?_⟩) (by assumption) ?_
      rotate_left
      · (intro w hSw; (try dsimp only at hSw); go_simp); (try with_reducible rfl)
      try simp only [Act.put, List.setIfInBounds_toArray, List.set_cons_zero, List.set_cons_succ]
      refine wpAnyH_take (i := 5) (oi := { dst := some 49, op := Op.pick (Operand.tmp 46) (Operand.const (Value.bool true)) (Operand.tmp 48), type := 4, pos := "law.go:491", after := #[{ on := 2, ground := Ground.data }, { on := 4, ground := Ground.data }], guard := none }) (v := ?_) rfl (by kernel_rfl) (by kernel_rfl) (by kernel_rfl) (fun _ _ _ h => h) (Or.inl ⟨by rfl, ?_⟩) (by assumption) ?_
      rotate_left
      · (intro w hSw; (try dsimp only at hSw); go_simp); (try with_reducible rfl)
      try simp only [Act.put, List.setIfInBounds_toArray, List.set_cons_zero, List.set_cons_succ]
      refine wpAnyH_take (i := 6) (oi := { dst := some 50, op := Op.move (Operand.tmp 49), type := 4, pos := "law.go:491", after := #[{ on := 5, ground := Ground.data }, { on := 2, ground := Ground.chain }], guard := none }) (v := ?_) rfl (by kernel_rfl) (by kernel_rfl) (by kernel_rfl) (fun _ _ _ h => h) (Or.inl ⟨by rfl, ?_⟩) (by assumption) ?_
      rotate_left
      · (intro w hSw; (try dsimp only at hSw); go_simp); (try with_reducible rfl)
      try simp only [Act.put, List.setIfInBounds_toArray, List.set_cons_zero, List.set_cons_succ]
      refine wpAnyH_take (i := 7) (oi := { dst := some 51, op := Op.move (Operand.tmp 8), type := 3, pos := "law.go:491", after := #[{ on := 6, ground := Ground.guard }], guard := some (6, false) }) (v := ?_) rfl (by kernel_rfl) (by kernel_rfl) (by kernel_rfl) (fun _ _ _ h => h) (Or.inl ⟨by rfl, ?_⟩) (by assumption) ?_
      rotate_left
      · (intro w hSw; (try dsimp only at hSw); go_simp); (try with_reducible rfl)
      try simp only [Act.put, List.setIfInBounds_toArray, List.set_cons_zero, List.set_cons_succ]
      refine wpAnyH_take (i := 8) (oi := { dst := some 52, op := Op.binOp BinOp.neq 3 (Operand.tmp 51) (Operand.const (Value.int IntKind.i64 0)) 3, type := 4, pos := "law.go:491", after := #[{ on := 7, ground := Ground.data }, { on := 6, ground := Ground.guard }], guard := some (6, false) }) (v := ?_) rfl (by kernel_rfl) (by kernel_rfl) (by kernel_rfl) (fun _ _ _ h => h) (Or.inl ⟨by rfl, ?_⟩) (by assumption) ?_
      rotate_left
      · (intro w hSw; (try dsimp only at hSw); go_simp); (try with_reducible rfl)
      try simp only [Act.put, List.setIfInBounds_toArray, List.set_cons_zero, List.set_cons_succ]
      refine wpAnyH_take (i := 9) (oi := { dst := some 53, op := Op.pick (Operand.tmp 50) (Operand.const (Value.bool true)) (Operand.tmp 52), type := 4, pos := "law.go:491", after := #[{ on := 6, ground := Ground.data }, { on := 8, ground := Ground.data }], guard := none }) (v := ?_) rfl (by kernel_rfl) (by kernel_rfl) (by kernel_rfl) (fun _ _ _ h => h) (Or.inl ⟨by rfl, ?_⟩) (by assumption) ?_
      rotate_left
      · (intro w hSw; (try dsimp only at hSw); go_simp); (try with_reducible rfl)
      try simp only [Act.put, List.setIfInBounds_toArray, List.set_cons_zero, List.set_cons_succ]
      refine wpAnyH_take (i := 10) (oi := { dst := some 54, op := Op.move (Operand.tmp 53), type := 4, pos := "law.go:491", after := #[{ on := 9, ground := Ground.data }, { on := 6, ground := Ground.chain }], guard := none }) (v := ?_) rfl (by kernel_rfl) (by kernel_rfl) (by kernel_rfl) (fun _ _ _ h => h) (Or.inl ⟨by rfl, ?_⟩) (by assumption) ?_
      rotate_left
      · (intro w hSw; (try dsimp only at hSw); go_simp); (try with_reducible rfl)
      try simp only [Act.put, List.setIfInBounds_toArray, List.set_cons_zero, List.set_cons_succ]
      refine wpAnyH_take (i := 11) (oi := { dst := some 55, op := Op.load 32 (Operand.tmp 7), type := 32, pos := "law.go:491", after := #[{ on := 10, ground := Ground.guard }], guard := some (10, false) }) (v := ?_) rfl (by kernel_rfl) (by kernel_rfl) (by kernel_rfl) (fun _ _ _ h => h) (Or.inl ⟨by rfl, ?_⟩) (by assumption) ?_
      rotate_left
      · (intro w hSw; (try dsimp only at hSw); go_simp); (try with_reducible rfl)
      try simp only [Act.put, List.setIfInBounds_toArray, List.set_cons_zero, List.set_cons_succ]
      refine wpAnyH_take (i := 13) (oi := { dst := some 57, op := Op.load 24 (Operand.tmp 2), type := 24, pos := "law.go:491", after := #[{ on := 10, ground := Ground.guard }], guard := some (10, false) }) (v := ?_) rfl (by kernel_rfl) (by kernel_rfl) (by kernel_rfl) (fun _ _ _ h => h) (Or.inl ⟨by rfl, ?_⟩) (by assumption) ?_
      rotate_left
      · (intro w hSw; (try dsimp only at hSw); go_simp); (try with_reducible rfl)
      try simp only [Act.put, List.setIfInBounds_toArray, List.set_cons_zero, List.set_cons_succ]
      refine wpAnyH_ready (rs := [12]) (by kernel_rfl) (by simp) ?_
      refine (AllReadyH.cons (o := { dst := some 56, op := Op.call { callee := Callee.value (Operand.func 14), args := #[Operand.tmp 55], argTypes := #[32] }, type := 24, pos := "law.go:491", after := #[{ on := 11, ground := Ground.data }, { on := 10, ground := Ground.chain }, { on := 10, ground := Ground.guard }], guard := some (10, false) }) rfl (fun K hK => ?_) AllReadyH.nil)
      go_simp
      refine (OW.out wzd hbzd).mono ?_
      rintro e wz12 ⟨rfl, hl⟩
      (try go_wp2_with fail)
      have hbz12 := bthen hbzd hl
      clear hl
      refine hK.out _ _ ⟨cellb x0 hbz12, cellb x1 hbz12, cellb x2 hbz12, cellb x3 hbz12, cellb e0 hbz12, cellb e1 hbz12, cellb e2 hbz12, cellb e3 hbz12⟩ (fun hHeld1 => ?_)
      clear hK K hHeld0
      try simp only [Act.put, List.setIfInBounds_toArray, List.set_cons_zero, List.set_cons_succ]
      refine wpAnyH_ready (rs := [14]) (by kernel_rfl) (by simp) ?_
      refine (AllReadyH.cons (o := { dst := some 58, op := Op.call { callee := Callee.value (Operand.func 13), args := #[Operand.tmp 56, Operand.tmp 57], argTypes := #[24, 24] }, type := 4, pos := "law.go:491", after := #[{ on := 12, ground := Ground.data }, { on := 13, ground := Ground.data }, { on := 12, ground := Ground.chain }, { on := 10, ground := Ground.guard }], guard := some (10, false) }) rfl (fun K hK => ?_) AllReadyH.nil)
      go_simp
      refine (SL.out wz12 hbz12).mono ?_
      rintro e wz14 ⟨rfl, hl⟩
      (try go_wp2_with fail)
      have hbz14 := bthen hbz12 hl
      clear hl
      refine hK.out _ _ ⟨cellb x0 hbz14, cellb x1 hbz14, cellb x2 hbz14, cellb x3 hbz14, cellb e0 hbz14, cellb e1 hbz14, cellb e2 hbz14, cellb e3 hbz14⟩ (fun hHeld2 => ?_)
      clear hK K hHeld1
      try simp only [Act.put, List.setIfInBounds_toArray, List.set_cons_zero, List.set_cons_succ]
      refine wpAnyH_take (i := 15) (oi := { dst := some 59, op := Op.unOp UnOp.not 4 (Operand.tmp 58), type := 4, pos := "law.go:491", after := #[{ on := 14, ground := Ground.data }, { on := 10, ground := Ground.guard }], guard := some (10, false) }) (v := ?_) rfl (by kernel_rfl) (by kernel_rfl) (by kernel_rfl) (fun _ _ _ h => h) (Or.inl ⟨by rfl, ?_⟩) (by assumption) ?_
      rotate_left
      · (intro w hSw; (try dsimp only at hSw); go_simp); (try with_reducible rfl)
      try simp only [Act.put, List.setIfInBounds_toArray, List.set_cons_zero, List.set_cons_succ]
      refine wpAnyH_take (i := 16) (oi := { dst := some 60, op := Op.pick (Operand.tmp 54) (Operand.const (Value.bool true)) (Operand.tmp 59), type := 4, pos := "law.go:491", after := #[{ on := 10, ground := Ground.data }, { on := 15, ground := Ground.data }], guard := none }) (v := ?_) rfl (by kernel_rfl) (by kernel_rfl) (by kernel_rfl) (fun _ _ _ h => h) (Or.inl ⟨by rfl, ?_⟩) (by assumption) ?_
      rotate_left
      · (intro w hSw; (try dsimp only at hSw); go_simp); (try with_reducible rfl)
      try simp only [Act.put, List.setIfInBounds_toArray, List.set_cons_zero, List.set_cons_succ]
      refine wpAnyH_take (i := 17) (oi := { dst := some 61, op := Op.move (Operand.tmp 60), type := 4, pos := "law.go:491", after := #[{ on := 16, ground := Ground.data }, { on := 14, ground := Ground.chain }], guard := none }) (v := ?_) rfl (by kernel_rfl) (by kernel_rfl) (by kernel_rfl) (fun _ _ _ h => h) (Or.inl ⟨by rfl, ?_⟩) (by assumption) ?_
      rotate_left
      · (intro w hSw; (try dsimp only at hSw); go_simp); (try with_reducible rfl)
      try simp only [Act.put, List.setIfInBounds_toArray, List.set_cons_zero, List.set_cons_succ]
      refine wpAnyH_take (i := 18) (oi := { dst := some 62, op := Op.move (Operand.tmp 5), type := 9, pos := "law.go:491", after := #[{ on := 17, ground := Ground.guard }], guard := some (17, false) }) (v := ?_) rfl (by kernel_rfl) (by kernel_rfl) (by kernel_rfl) (fun _ _ _ h => h) (Or.inl ⟨by rfl, ?_⟩) (by assumption) ?_
      rotate_left
      · (intro w hSw; (try dsimp only at hSw); go_simp); (try with_reducible rfl)
      try simp only [Act.put, List.setIfInBounds_toArray, List.set_cons_zero, List.set_cons_succ]
      refine wpAnyH_ready (rs := [19]) (by kernel_rfl) (by simp) ?_
      refine (AllReadyH.cons (o := { dst := some 63, op := Op.call { callee := Callee.value (Operand.func 15), args := #[Operand.tmp 62, Operand.const (Value.int IntKind.u8 10)], argTypes := #[9, 5] }, type := 43, pos := "law.go:491", after := #[{ on := 18, ground := Ground.data }, { on := 17, ground := Ground.chain }, { on := 17, ground := Ground.guard }], guard := some (17, false) }) rfl (fun K hK => ?_) AllReadyH.nil)
      go_simp
      refine (SPL.out wz14).mono ?_
      rintro e wz19 ⟨⟨gs, cs, rfl⟩, hl⟩
      (try go_wp2_with fail)
      have hbz19 := bthen hbz14 hl
      clear hl
      refine hK.out _ _ ⟨cellb x0 hbz19, cellb x1 hbz19, cellb x2 hbz19, cellb x3 hbz19, cellb e0 hbz19, cellb e1 hbz19, cellb e2 hbz19, cellb e3 hbz19⟩ (fun hHeld3 => ?_)
      clear hK K hHeld2
      try simp only [Act.put, List.setIfInBounds_toArray, List.set_cons_zero, List.set_cons_succ]
      refine wpAnyH_take (i := 20) (oi := { dst := some 64, op := Op.call { callee := Callee.builtin Builtin.len, args := #[Operand.tmp 63], argTypes := #[43] }, type := 3, pos := "law.go:491", after := #[{ on := 19, ground := Ground.data }, { on := 17, ground := Ground.guard }], guard := some (17, false) }) (v := ?_) rfl (by kernel_rfl) (by kernel_rfl) (by kernel_rfl) (fun _ _ _ h => h) (Or.inl ⟨by rfl, ?_⟩) (by assumption) ?_
      rotate_left
      · (intro w hSw; (try dsimp only at hSw); go_simp); (try with_reducible rfl)
      try simp only [Act.put, List.setIfInBounds_toArray, List.set_cons_zero, List.set_cons_succ]
      refine wpAnyH_take (i := 21) (oi := { dst := some 65, op := Op.binOp BinOp.neq 3 (Operand.tmp 64) (Operand.const (Value.int IntKind.i64 5)) 3, type := 4, pos := "law.go:491", after := #[{ on := 20, ground := Ground.data }, { on := 17, ground := Ground.guard }], guard := some (17, false) }) (v := ?_) rfl (by kernel_rfl) (by kernel_rfl) (by kernel_rfl) (fun _ _ _ h => h) (Or.inl ⟨by rfl, ?_⟩) (by assumption) ?_
      rotate_left
      · (intro w hSw; (try dsimp only at hSw); go_simp); (try with_reducible rfl)
      try simp only [Act.put, List.setIfInBounds_toArray, List.set_cons_zero, List.set_cons_succ]
      refine wpAnyH_take (i := 22) (oi := { dst := some 66, op := Op.pick (Operand.tmp 61) (Operand.const (Value.bool true)) (Operand.tmp 65), type := 4, pos := "law.go:491", after := #[{ on := 17, ground := Ground.data }, { on := 21, ground := Ground.data }], guard := none }) (v := ?_) rfl (by kernel_rfl) (by kernel_rfl) (by kernel_rfl) (fun _ _ _ h => h) (Or.inl ⟨by rfl, ?_⟩) (by assumption) ?_
      rotate_left
      · (intro w hSw; (try dsimp only at hSw); go_simp); (try with_reducible rfl)
      try simp only [Act.put, List.setIfInBounds_toArray, List.set_cons_zero, List.set_cons_succ]
      refine wpAnyH_done (by kernel_rfl) ?_ _
      clear hHeld3
      have hz := hbz19
      obtain ⟨w6, hw6⟩ : ∃ v, v = wz19 := ⟨_, rfl⟩
      rw [← hw6] at hz ⊢
      clear hw6
      replace hB := bthen hB hz
      clear hz x0 x1 x2 x3 e0 e1 e2 e3 OW SL SPL h5
      have v0 : IntKind.i64.wrap ((m : Int) + 1 - 1) = (m : Int) := (IntWalk.i64_in _ (by omega)).trans (by omega)
      have v1 : IntKind.i64.wrap (m : Int) = (m : Int) := IntWalk.i64_in _ (by omega)
      have hexs : (T.extract 0 m).size ≤ 100000 := by rw [ByteArray.size_extract]; omega
      have d0 : (0 : Int) ≤ (m : Int) := by omega
      have d1 : (m : Int) ≤ (m : Int) + 1 := by omega
      go_wp2_with fail
      refine (Parse_any s w6 hn10 (HW.out.carry hB)).mono ?_
      rintro e w7 ⟨hp, hl⟩
      replace hB := bthen hB hl
      clear hl
      rcases parse_told s.data.toList with ⟨pn, pc, hpc, hT2⟩ | ⟨f, hz, hpr, hT2⟩
      · obtain ⟨a0, a1, a2, a3, k0, k1, k2, k3, rfl, _⟩ := hT2 _ _ hp
        have z : (pc == 0) = false := by rw [beq_eq_false_iff_ne]; exact hpc
        clear hp hT2
        go_upto_region 8 with fail
        obtain ⟨w8, hw8⟩ : ∃ v, v = w7.alloc (Obj.cells #[.slice a0 ([] : List Int).length k0, .slice a1 ([] : List Int).length k1, .slice a2 ([] : List Int).length k2, .slice a3 ([] : List Int).length k3] 32) := ⟨_, rfl⟩
        have kb : Below w7.heap.size w7 w8 := by rw [hw8]; exact below_new _ _
        simp only [List.length_nil] at hw8
        first | rw [← hw8] | (simp only [List.length_nil]; rw [← hw8])
        replace hB := bthen hB kb
        clear hw8 kb
        go_wp2_with fail
        refine (Parse_any (T.extract 0 m) w8 hexs (HW.out.carry hB)).mono ?_
        rintro e wp ⟨hp, hl⟩
        obtain ⟨b0, b1, b2, b3, m0, m1, m2, m3, rfl, _⟩ := HCUT.out _ _ hp
        replace hB := bthen hB hl
        clear hl hp
        go_upto_region 13 with fail
        obtain ⟨wr, hwr⟩ : ∃ v, v = wp.alloc (Obj.cells #[.slice b0 ([] : List Int).length m0, .slice b1 ([] : List Int).length m1, .slice b2 ([] : List Int).length m2, .slice b3 ([] : List Int).length m3] 32) := ⟨_, rfl⟩
        have kb : Below wp.heap.size wp wr := by rw [hwr]; exact below_new _ _
        simp only [List.length_nil] at hwr
        first | rw [← hwr] | (simp only [List.length_nil]; rw [← hwr])
        replace hB := bthen hB kb
        clear hwr kb
        go_wp2_with fail
        refine (TAW.out wr (HQ.out.below hB (by have := HW.out.size; omega)) (HW.out.carry hB).pows).mono ?_
        rintro e wq ⟨rfl, hl⟩
        go_wp2
        go_ret
        exact ⟨rfl, bthen hB hl⟩
      · obtain ⟨a0, a1, a2, a3, k0, k1, k2, k3, rfl, i0, i1, i2, i3⟩ := hT2 _ _ hp
        obtain ⟨l0, l1, l2, l3⟩ := told_len hz
        have hst : printR (f 0) (f 1) (f 2) (f 3) = s := by
          rw [printR, if_neg (by rw [hz]; simp)]
          exact baEq hpr
        clear hp hT2 hpr
        go_upto_region 8 with fail
        obtain ⟨w8, hw8⟩ : ∃ v, v = w7.alloc (Obj.cells #[.slice a0 (f 0).length k0, .slice a1 (f 1).length k1, .slice a2 (f 2).length k2, .slice a3 (f 3).length k3] 32) := ⟨_, rfl⟩
        have kb : Below w7.heap.size w7 w8 := by rw [hw8]; exact below_new _ _
        have iY : Blk w8 w7.heap.size 32 [.slice a0 (f 0).length k0, .slice a1 (f 1).length k1, .slice a2 (f 2).length k2, .slice a3 (f 3).length k3] := by rw [hw8]; exact Blk.new _ _ _
        rw [← hw8]
        obtain ⟨GY, hGY⟩ : ∃ G, G = w7.heap.size := ⟨_, rfl⟩
        rw [← hGY] at iY ⊢
        clear hw8 hGY
        replace hB := bthen hB kb
        have y0 := iY.cell (j := 0) (v := .slice a0 (f 0).length k0) rfl
        have y1 := iY.cell (j := 1) (v := .slice a1 (f 1).length k1) rfl
        have y2 := iY.cell (j := 2) (v := .slice a2 (f 2).length k2) rfl
        have y3 := iY.cell (j := 3) (v := .slice a3 (f 3).length k3) rfl
        have TPP := Lib.hid (Print_any _ _ _ _ (f 0) (f 1) (f 2) (f 3) w8 (HW.out.carry hB).pows (i0.carry kb) (i1.carry kb) (i2.carry kb) (i3.carry kb) (by omega) (by omega) (by omega) (by omega))
        rw [hst, hz] at TPP
        clear i0 i1 i2 i3 kb iY hst hz
        go_wp2_with fail
        clear y0 y1 y2 y3
        refine TPP.out.mono ?_
        rintro e w9 ⟨rfl, hl⟩
        replace hB := bthen hB hl
        clear hl TPP
        go_wp2_with fail
        refine (Parse_any (T.extract 0 m) w9 hexs (HW.out.carry hB)).mono ?_
        rintro e wp ⟨hp, hl⟩
        obtain ⟨b0, b1, b2, b3, m0, m1, m2, m3, rfl, _⟩ := HCUT.out _ _ hp
        replace hB := bthen hB hl
        clear hl hp
        go_upto_region 13 with fail
        obtain ⟨wr, hwr⟩ : ∃ v, v = wp.alloc (Obj.cells #[.slice b0 ([] : List Int).length m0, .slice b1 ([] : List Int).length m1, .slice b2 ([] : List Int).length m2, .slice b3 ([] : List Int).length m3] 32) := ⟨_, rfl⟩
        have kb : Below wp.heap.size wp wr := by rw [hwr]; exact below_new _ _
        simp only [List.length_nil] at hwr
        first | rw [← hwr] | (simp only [List.length_nil]; rw [← hwr])
        replace hB := bthen hB kb
        clear hwr kb
        go_wp2_with fail
        refine (TAW.out wr (HQ.out.below hB (by have := HW.out.size; omega)) (HW.out.carry hB).pows).mono ?_
        rintro e wq ⟨rfl, hl⟩
        go_wp2
        go_ret
        exact ⟨rfl, bthen hB hl⟩
end Go.Proofs.YtfdehcphmmhjaaaGreatDoor

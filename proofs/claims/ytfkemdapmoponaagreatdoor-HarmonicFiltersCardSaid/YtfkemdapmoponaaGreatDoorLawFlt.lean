/- The law HarmonicFilters: the walk. (printed by gen/lawflt.py) -/
import Derived.Test.YtfkemdapmoponaaGreatDoorHqG
namespace Go.Proofs.YtfkemdapmoponaaGreatDoor
set_option linter.unusedSimpArgs false
set_option linter.unusedVariables false
open Go.RowKit

theorem Ints.apart {w : World} {v u x : Value} {l : List Int} {B j : Nat} {T : TypeId} (h : Ints w v l) (hb : Blk w B T [u]) (hu : ∀ y : Int, u ≠ .int .i64 y) : Ints (w.setCell ⟨B, j, none⟩ x) v l := by
  obtain ⟨a, c, hv, hc, hr⟩ := h
  refine ⟨a, c, hv, hc, fun h0 => ?_⟩
  obtain ⟨b, off, ha, hd⟩ := hr h0
  refine ⟨b, off, ha, fun k hk => ?_⟩
  have c0 := hd k hk
  have hne : b ≠ B := by
    rintro rfl
    have hq : w.cell? ⟨b, off + k, none⟩ = ([u] : List Value)[off + k]? := by simp [World.cell?, show w.heap[b]? = _ from hb]
    rw [c0] at hq
    rcases Nat.eq_zero_or_pos (off + k) with e | e
    · rw [e] at hq; simp at hq; exact hu _ hq.symm
    · rw [show ([u] : List Value)[off + k]? = none from List.getElem?_eq_none (by simp; omega)] at hq; simp at hq
  rw [← c0]
  exact World.cell?_of_block (Below.heap_setCell _ _ _ _ (show b ≠ B from hne))
theorem Ints.nilQ (w : World) : Ints w (.slice none 0 0) [] := ⟨none, 0, rfl, Nat.le_refl _, fun h => by simp at h⟩
theorem firstE_nestL (a b c : Int) : firstE [firstE [a, b], c] = firstE [a, b, c] := by
  by_cases ha : a = 0 <;> by_cases hb : b = 0 <;> by_cases hc : c = 0 <;> simp [firstE, ha, hb, hc]
theorem tapP_flat (ls : List (Int × Int)) (h tap : Int) : firstE [fltE ls, whenE (decide (h < 1) || decide ((ls.length : Int) < h)) 10, withinE tap (-8) 8] = tapP ls (h - 1) tap := by
  rw [tapP, braE, firstE_nestL]
  have e1 : decide (h < 1) = decide (h - 1 < 0) := by by_cases c : h < 1 <;> simp [c] <;> omega
  have e2 : decide ((ls.length : Int) < h) = decide ((ls.length : Int) ≤ h - 1) := by by_cases c : (ls.length : Int) < h <;> simp [c] <;> omega
  rw [e1, e2]
theorem resL_len (ls : List (Int × Int)) : (resL ls).length ≤ 1000000000 := by
  have := chosenL_le (resB ls) 1 11
  exact Nat.le_trans this (by omega)
theorem tapX_ok {ls : List (Int × Int)} {b tap : Int} (h : tapP ls b tap = 0) : tapX ls b tap = tapE (fltE (tapL ls b.toNat tap)) ∧ tapZ ls b tap = lsIf (fltE (tapL ls b.toNat tap)) (tapL ls b.toNat tap) := by
  unfold tapX tapZ; rw [h]; exact ⟨rfl, rfl⟩
theorem tapX_bad {ls : List (Int × Int)} {b tap : Int} (h : tapP ls b tap ≠ 0) : tapX ls b tap = tapP ls b tap ∧ tapZ ls b tap = [] := by
  unfold tapX tapZ
  have : (tapP ls b tap == 0) = false := by rw [beq_eq_false_iff_ne]; exact h
  rw [this]; exact ⟨rfl, rfl⟩
theorem tapZ_nil {ls : List (Int × Int)} {b tap : Int} (h : tapX ls b tap ≠ 0) : tapZ ls b tap = [] := by
  by_cases c : tapP ls b tap = 0
  · obtain ⟨h1, h2⟩ := tapX_ok c
    rw [h1, tapE] at h
    rw [h2, lsIf]
    by_cases e : fltE (tapL ls b.toNat tap) = 0
    · rw [e] at h; exact absurd rfl h
    · have : (fltE (tapL ls b.toNat tap) == 0) = false := by rw [beq_eq_false_iff_ne]; exact e
      rw [this]; rfl
  · exact (tapX_bad c).2
theorem tapZ_len (ls : List (Int × Int)) (b tap : Int) (hl : ls.length ≤ 1000000) : (tapZ ls b tap).length ≤ 1000000 := by
  unfold tapZ lsIf
  cases (tapP ls b tap == 0) <;> simp only [cond_true, cond_false]
  · simp
  · cases (fltE (tapL ls b.toNat tap) == 0) <;> simp only [cond_true, cond_false]
    · simp
    · rw [tapL, List.length_set]; exact hl
theorem eqRatioV (a b : Int) (W : World) : Sem.run Tryz.prog (binOp .eql 65 (.agg #[.int .i64 a, .int .i64 b]) (.agg #[.int .i64 a, .int .i64 b])) W = .ok (.bool true) W := by
  go_simp

set_option maxRecDepth 100000 in
set_option maxHeartbeats 40000000 in
theorem flt_law (v : Value) (ls : List (Int × Int)) (h tap : Int) (w : World) (hw : Powers w) (hp : Pows w) (hv : Pairs w v ls) (hh : h ≤ 9223372036854775807) :
    Calls Tryz.prog 5 #[.agg #[v], .int .i64 h, .int .i64 tap] w fun e w' => e = .returned (.bool true) ∧ Below w.heap.size w w' := by
  have T0 := Lib.hid (fun W hP => ShortR_any v ls W hP)
  obtain ⟨a, cp, rfl, _, _⟩ := id hv
  have HV := Lib.hid hv
  by_cases hlen : (ls.length : Int) ≤ 4
  · have hdl : decide ((ls.length : Int) ≤ 4) = true := decide_eq_true hlen
    rw [hdl] at T0
    by_cases hlo : h < -1000
    · clear hv hdl
      go_enter Tryz.func5, Tryz.ntmps5
      go_upto_region 1 with fail
      obtain ⟨W1, hW1⟩ : ∃ v, v = World.alloc w (Obj.cells #[.slice a ls.length cp] 62) := ⟨_, rfl⟩
      have kW1 : Below w.heap.size w W1 := by rw [hW1]; exact below_new _ _
      have iW1 : Blk W1 (w.heap.size) 62 [.slice a ls.length cp] := by rw [hW1]; exact Blk.new _ _ _
      have sW1 : W1.heap.size = w.heap.size + 1 := by rw [hW1]; simp
      rw [← hW1]
      clear hW1
      have a0 := iW1.cell (j := 0) (v := .slice a ls.length cp) rfl
      have hB := kW1
      clear iW1 kW1 sW1
      go_wp2_with fail
      refine (T0.out W1 (HV.out.carry hB)).mono ?_
      rintro e W2 ⟨rfl, hb⟩
      replace hB := bthen hB hb
      clear hb a0
      go_wp2_with fail
      refine (awake_any W2 (hw.carry hB) (hp.carry hB)).mono ?_
      rintro e X3 ⟨rfl, hb⟩
      go_wp2_with fail
      go_ret
      exact ⟨rfl, bthen hB hb⟩
    · have hl : ls.length ≤ 1000000 := by omega
      have ew : IntKind.i64.wrap (h - 1) = h - 1 := IntWalk.i64_in _ (by omega)
      have TG := Lib.hid (fun W hP => given_any (.slice a ls.length cp) ls W hP hl)
      have TS := Lib.hid (fun u W hP => Susceptance_any u ls h W hP hl)
      have TR := Lib.hid (fun u W hP => Resonances_any u ls W hP hl)
      have TT := Lib.hid (fun u W hP => Tapped_any u ls (h - 1) tap W hP hl)
      have TC := Lib.hid (fun u W hP => CheckFilter_any u ls W hP hl)
      have R0 := Lib.hid (fun W hP => CheckFilterR_any (.slice a ls.length cp) ls W hP hl)
      have R1 := Lib.hid (fun W => CheckOrderR_any h W)
      have F1 := Lib.hid (fun (u : Value) (W : World) (h : Ints W u [fltE ls, withinE h 1 12]) => firstL_any u _ W (by simp) h)
      rw [show firstE [fltE ls, withinE h 1 12] = susE ls h from rfl] at F1
      obtain ⟨cb, hcb⟩ : ∃ c, c = (decide (h < 1) || decide ((ls.length : Int) < h)) := ⟨_, rfl⟩
      have RW := Lib.hid (fun W => WhenR_any cb 10 W)
      have RR := Lib.hid (fun W => CheckRange_any tap (-8) 8 W)
      have F2 := Lib.hid (fun (u : Value) (W : World) (h : Ints W u [fltE ls, whenE cb 10, withinE tap (-8) 8]) => firstL_any u _ W (by simp) h)
      rw [hcb, tapP_flat, ← hcb] at F2
      have sus0 : susE ls h = 0 → fltE ls = 0 ∧ (0 ≤ h ∧ h ≤ 13) := fun he => by
        obtain ⟨f1, h1⟩ := firstE_cons_ok he
        obtain ⟨f2, _⟩ := firstE_cons_ok h1
        have := withinE_zero f2
        exact ⟨f1, by omega⟩
      have R2 := Lib.hid (fun (he : susE ls h = 0) W hP => by
        have := IsTunedR_any (.slice a ls.length cp) ls h W hP hl
        rw [tuned_same (sus0 he).1 (sus0 he).2] at this
        exact this)
      have RQ := Lib.hid (fun b W => WhenR_any b 17 W)
      have R3 := Lib.hid (fun (he : susE ls h = 0) (ht : tunedB ls h = false) W hP => SusceptanceR_any (.slice a ls.length cp) ls h W hP hl (susOk_of (sus0 he).1 (sus0 he).2 ht))
      have R4 := Lib.hid (fun (he : fltE ls = 0) W hP => ResonancesR_any (.slice a ls.length cp) ls W hP hl he)
      have R5 := Lib.hid (fun (he : tapP ls (h - 1) tap = 0) W hP => by
        obtain ⟨_, hb0, hb1⟩ := tapP_zero he
        have := TappedR_any (.slice a ls.length cp) ls (h - 1).toNat tap W hP hl (by omega)
        rw [Int.toNat_of_nonneg hb0, ← (tapX_ok he).1, ← (tapX_ok he).2] at this
        exact this)
      have hx1 : susE ls h = 0 → fltE ls = 0 := fun he => (sus0 he).1
      have hx2 : tapP ls (h - 1) tap = 0 → fltE ls = 0 := fun he => (tapP_zero he).1
      have hz1 : tapP ls (h - 1) tap ≠ 0 → tapX ls (h - 1) tap = tapP ls (h - 1) tap ∧ tapZ ls (h - 1) tap = [] := tapX_bad
      have hz2 : tapX ls (h - 1) tap ≠ 0 → tapZ ls (h - 1) tap = [] := tapZ_nil
      have hz3 : (tapZ ls (h - 1) tap).length ≤ 1000000 := tapZ_len _ _ _ hl
      have hrl := resL_len ls
      clear sus0
      generalize tapX ls (h - 1) tap = X at TT R5 hz1 hz2
      generalize tapZ ls (h - 1) tap = Z at TT R5 hz1 hz2 hz3
      generalize tapP ls (h - 1) tap = two at F2 R5 hz1 hx2
      obtain ⟨sx, hsx⟩ : ∃ v, v = susX ls h := ⟨_, rfl⟩
      rw [← hsx] at TS
      rw [susX] at hsx
      generalize susE ls h = one at hsx F1 R2 R3 hx1
      generalize tunedB ls h = tb at hsx R2 R3
      generalize susR ls h = sr at hsx R3
      obtain ⟨r1, r2⟩ := sr
      obtain ⟨⟨s1, s2⟩, se⟩ := sx
      generalize resL ls = RL at TR R4 hrl
      obtain ⟨L1, hL1⟩ : ∃ L, L = lsOr (fltE ls) RL := ⟨_, rfl⟩
      rw [← hL1] at TR
      generalize fltE ls = bad at TC TR R0 F1 F2 R4 hx1 hx2 hL1
      generalize withinE h 1 12 = eo at R1 F1
      generalize whenE cb 10 = ec at RW F2
      generalize withinE tap (-8) 8 = et at RR F2
      simp only at TS R3
      have SI := Lib.hid (fun va vb (l : List Int) W ha hb (hl : l.length ≤ 1000000000) => by
        have := SameInts_any va vb l l W ha hb hl
        rw [decide_eq_true rfl] at this
        exact this)
      have heq := fun W => eqRatioV s1 s2 W
      have HSX := Lib.hid hsx
      have HX := Lib.hid (And.intro hx1 hx2)
      have HZ := Lib.hid (And.intro hz1 hz2)
      have HZ3 := Lib.hid hz3
      have HL1 := Lib.hid hL1
      have HRL := Lib.hid hrl
      have HCB := Lib.hid hcb
      clear hv hdl hsx hx1 hx2 hz1 hz2 hz3 hL1 hrl hcb
      go_enter Tryz.func5, Tryz.ntmps5
      go_upto_region 1 with fail
      obtain ⟨W1, hW1⟩ : ∃ v, v = World.alloc w (Obj.cells #[.slice a ls.length cp] 62) := ⟨_, rfl⟩
      have kW1 : Below w.heap.size w W1 := by rw [hW1]; exact below_new _ _
      have iW1 : Blk W1 (w.heap.size) 62 [.slice a ls.length cp] := by rw [hW1]; exact Blk.new _ _ _
      have sW1 : W1.heap.size = w.heap.size + 1 := by rw [hW1]; simp
      rw [← hW1]
      clear hW1
      have i0 := iW1
      have a0 := iW1.cell (j := 0) (v := .slice a ls.length cp) rfl
      have hB := kW1
      clear iW1 kW1 sW1
      go_wp2_with fail
      refine (T0.out W1 (HV.out.carry hB)).mono ?_
      rintro e W2 ⟨rfl, hb⟩
      have a0 := cellb a0 hb
      replace i0 := i0.carry hb
      replace hB := bthen hB hb
      clear hb T0
      go_wp2_with fail
      refine (TG.out W2 (HV.out.carry hB)).mono ?_
      rintro e W3 ⟨⟨u, rfl, hu⟩, hb⟩
      have a0 := cellb a0 hb
      replace i0 := i0.carry hb
      replace hB := bthen hB hb
      clear hb
      go_wp2_with fail
      refine (TS.out u W3 hu).mono ?_
      rintro e W4 ⟨rfl, hb⟩
      have a0 := cellb a0 hb
      replace i0 := i0.carry hb
      replace hB := bthen hB hb
      clear hb hu TS
      go_upto_region 4 with (refine wpList_storeA rfl _ _ _ rfl W4.heap.size [s1, s2] (List.replicate 2 0) rfl rfl (BlkI.new W4 65 (List.replicate 2 0)) rfl Tryz.infoRatio ?_)
      obtain ⟨W5, hW5⟩ : ∃ v, v = World.setRow (World.alloc W4 (Obj.cells #[.int .i64 0, .int .i64 0] 65)) W4.heap.size (ia ([s1, s2])) := ⟨_, rfl⟩
      have kW5 : Below W4.heap.size W4 W5 := by rw [hW5]; exact zrow_below _ _ _ _
      have iW5 : BlkI W5 W4.heap.size 65 ([s1, s2]) := by rw [hW5]; exact zrow_blk W4 _ (List.replicate 2 0) _
      rw [← hW5]
      clear hW5
      have a0 := cellb a0 kW5
      replace i0 := i0.carry kW5
      have i7 := iW5
      replace hB := bthen hB kW5
      clear kW5 iW5
      obtain ⟨G7, hG⟩ : ∃ G, G = W4.heap.size := ⟨_, rfl⟩
      rw [← hG] at i7 ⊢
      clear hG
      go_wp2_with fail
      refine (TG.out W5 (HV.out.carry hB)).mono ?_
      rintro e W6 ⟨⟨u, rfl, hu⟩, hb⟩
      have a0 := cellb a0 hb
      replace i0 := i0.carry hb
      replace i7 := i7.carry hb
      replace hB := bthen hB hb
      clear hb
      go_wp2_with fail
      refine (TR.out u W6 hu).mono ?_
      rintro e W7 ⟨⟨u9, rfl, hu9⟩, hb⟩
      have a0 := cellb a0 hb
      replace i0 := i0.carry hb
      replace i7 := i7.carry hb
      replace hB := bthen hB hb
      clear hb hu TR
      go_wp2_with fail
      refine (TG.out W7 (HV.out.carry hB)).mono ?_
      rintro e W8 ⟨⟨u, rfl, hu⟩, hb⟩
      have a0 := cellb a0 hb
      replace i0 := i0.carry hb
      replace i7 := i7.carry hb
      replace hu9 := hu9.carry hb
      replace hB := bthen hB hb
      clear hb
      go_wp2_with fail
      refine (TT.out u W8 hu).mono ?_
      rintro e W9 ⟨⟨u11, rfl, hu11⟩, hb⟩
      have a0 := cellb a0 hb
      replace i0 := i0.carry hb
      replace i7 := i7.carry hb
      replace hu9 := hu9.carry hb
      replace hB := bthen hB hb
      obtain ⟨xa, xc, rfl, _, _⟩ := id hu11
      clear hb hu TT
      go_upto_region 6 with fail
      obtain ⟨Wa, hWa⟩ : ∃ v, v = World.alloc W9 (Obj.cells #[.slice xa Z.length xc] 70) := ⟨_, rfl⟩
      have kWa : Below W9.heap.size W9 Wa := by rw [hWa]; exact below_new _ _
      have iWa : Blk Wa (W9.heap.size) 70 [.slice xa Z.length xc] := by rw [hWa]; exact Blk.new _ _ _
      have sWa : Wa.heap.size = W9.heap.size + 1 := by rw [hWa]; simp
      rw [← hWa]
      clear hWa
      replace i0 := i0.carry kWa
      replace i7 := i7.carry kWa
      replace hu9 := hu9.carry kWa
      replace hu11 := hu11.carry kWa
      have i11 := iWa
      have a0 := cellb a0 kWa
      replace hB := bthen hB kWa
      clear kWa iWa sWa
      obtain ⟨G11, hG⟩ : ∃ G, G = W9.heap.size := ⟨_, rfl⟩
      rw [← hG] at i11 ⊢
      clear hG
      have HI0 := Lib.hid i0
      have HI7 := Lib.hid i7
      have HI11 := Lib.hid i11
      have HU9 := Lib.hid hu9
      have HU11 := Lib.hid hu11
      have HBA := Lib.hid hB
      clear i0 i7 i11 hu9 hu11 hB
      go_wp2_with fail
      refine (R0.out Wa (HV.out.carry HBA.out)).mono ?_
      rintro e Wb ⟨rfl, hA⟩
      have a0 := cellb a0 hA
      clear R0
      go_upto_region 7 with fail
      go_cut [14, 15] from 51 to 71 (fun u14 u15 wn => u14 = .int .i64 one ∧ u15 = .int .i64 two ∧ Below Wb.heap.size Wb wn)
      case first =>
        have hBb := Below.refl Wb.heap.size Wb
        by_cases hc1 : h < 1
        · obtain rfl : cb = true := by rw [HCB.out, decide_eq_true hc1]; rfl
          go_wp2_with fail
          refine (R1.out Wb).mono ?_
          rintro e Wb ⟨rfl, rfl⟩
          go_wp2_with fail
          obtain ⟨Y1, hY1⟩ : ∃ v, v = World.alloc Wb (Obj.cells #[.int .i64 bad, .int .i64 eo] 3) := ⟨_, rfl⟩
          have kY1 : Below Wb.heap.size Wb Y1 := by rw [hY1]; exact below_new _ _
          have iY1 : Blk Y1 (Wb.heap.size) 3 [.int .i64 bad, .int .i64 eo] := by rw [hY1]; exact Blk.new _ _ _
          have sY1 : Y1.heap.size = Wb.heap.size + 1 := by rw [hY1]; simp
          rw [← hY1]
          clear hY1
          refine (F1.out _ Y1 (BlkI.ints (l := [bad, eo]) iY1 rfl)).mono ?_
          rintro e Y1 ⟨rfl, rfl⟩
          have a0 := cellb a0 kY1
          clear sY1
          go_wp2_with fail
          refine (RW.out Y1).mono ?_
          rintro e Y1 ⟨rfl, rfl⟩
          go_wp2_with fail
          refine (RR.out Y1).mono ?_
          rintro e Y1 ⟨rfl, rfl⟩
          go_wp2_with fail
          obtain ⟨Y2, hY2⟩ : ∃ v, v = World.alloc Y1 (Obj.cells #[.int .i64 bad, .int .i64 ec, .int .i64 et] 3) := ⟨_, rfl⟩
          have kY2 : Below Y1.heap.size Y1 Y2 := by rw [hY2]; exact below_new _ _
          have iY2 : Blk Y2 (Y1.heap.size) 3 [.int .i64 bad, .int .i64 ec, .int .i64 et] := by rw [hY2]; exact Blk.new _ _ _
          have sY2 : Y2.heap.size = Y1.heap.size + 1 := by rw [hY2]; simp
          rw [← hY2]
          clear hY2
          refine (F2.out _ Y2 (BlkI.ints (l := [bad, ec, et]) iY2 rfl)).mono ?_
          rintro e Y2 ⟨rfl, rfl⟩
          go_wp2_with fail
          go_meet
          exact ⟨rfl, rfl, bthen kY1 kY2⟩
        · have RW2 := Lib.hid (show ∀ W, Calls Tryz.prog 37 #[.bool (decide (h < 1) || decide ((ls.length : Int) < h)), .int .i64 10] W fun r w' => r = .returned (.int .i64 ec) ∧ W = w' by rw [← HCB.out]; exact RW.out)
          go_wp2_with fail
          refine (R1.out Wb).mono ?_
          rintro e Wb ⟨rfl, rfl⟩
          go_wp2_with fail
          obtain ⟨Y1, hY1⟩ : ∃ v, v = World.alloc Wb (Obj.cells #[.int .i64 bad, .int .i64 eo] 3) := ⟨_, rfl⟩
          have kY1 : Below Wb.heap.size Wb Y1 := by rw [hY1]; exact below_new _ _
          have iY1 : Blk Y1 (Wb.heap.size) 3 [.int .i64 bad, .int .i64 eo] := by rw [hY1]; exact Blk.new _ _ _
          have sY1 : Y1.heap.size = Wb.heap.size + 1 := by rw [hY1]; simp
          rw [← hY1]
          clear hY1
          refine (F1.out _ Y1 (BlkI.ints (l := [bad, eo]) iY1 rfl)).mono ?_
          rintro e Y1 ⟨rfl, rfl⟩
          have a0 := cellb a0 kY1
          clear sY1
          go_wp2_with fail
          refine (RW2.out Y1).mono ?_
          rintro e Y1 ⟨rfl, rfl⟩
          go_wp2_with fail
          refine (RR.out Y1).mono ?_
          rintro e Y1 ⟨rfl, rfl⟩
          go_wp2_with fail
          obtain ⟨Y2, hY2⟩ : ∃ v, v = World.alloc Y1 (Obj.cells #[.int .i64 bad, .int .i64 ec, .int .i64 et] 3) := ⟨_, rfl⟩
          have kY2 : Below Y1.heap.size Y1 Y2 := by rw [hY2]; exact below_new _ _
          have iY2 : Blk Y2 (Y1.heap.size) 3 [.int .i64 bad, .int .i64 ec, .int .i64 et] := by rw [hY2]; exact Blk.new _ _ _
          have sY2 : Y2.heap.size = Y1.heap.size + 1 := by rw [hY2]; simp
          rw [← hY2]
          clear hY2
          refine (F2.out _ Y2 (BlkI.ints (l := [bad, ec, et]) iY2 rfl)).mono ?_
          rintro e Y2 ⟨rfl, rfl⟩
          go_wp2_with fail
          go_meet
          exact ⟨rfl, rfl, bthen kY1 kY2⟩
      case rest =>
        obtain ⟨rfl, rfl, hb⟩ := hcut
        have a0 := cellb a0 hb
        replace hA := bthen hA hb
        clear hb R1 F1 RW RR F2
        go_upto_region 11 with fail
        obtain ⟨Wd, hWd⟩ : ∃ v, v = World.alloc wc (Obj.cells #[.int .i64 0, .int .i64 0] 65) := ⟨_, rfl⟩
        have kWd : Below wc.heap.size wc Wd := by rw [hWd]; exact below_new _ _
        have iWd : BlkI Wd (wc.heap.size) 65 (List.replicate 2 0) := by rw [hWd]; exact BlkI.new wc 65 (List.replicate 2 0)
        have sWd : Wd.heap.size = wc.heap.size + 1 := by rw [hWd]; simp
        rw [← hWd]
        clear hWd
        obtain ⟨We, hWe⟩ : ∃ v, v = World.alloc Wd (Obj.cells #[.slice none 0 0] 62) := ⟨_, rfl⟩
        have kWe : Below Wd.heap.size Wd We := by rw [hWe]; exact below_new _ _
        have iWe : Blk We (wc.heap.size + 1) 62 [.slice none 0 0] := by rw [hWe, ← sWd]; exact Blk.new _ _ _
        have sWe : We.heap.size = wc.heap.size + 1 + 1 := by rw [hWe]; simp [sWd]
        rw [← hWe]
        clear hWe
        have i16 := iWd.carry kWe
        have i18 := iWe
        have hg : Wa.heap.size ≤ wc.heap.size := hA.size
        replace hA := bthen hA (bthen kWd kWe)
        have a0 := cellb (cellb a0 kWd) kWe
        obtain ⟨G18, hG⟩ : ∃ G, G = wc.heap.size + 1 := ⟨_, rfl⟩
        rw [← hG] at i18 ⊢
        obtain ⟨G16, hG2⟩ : ∃ G, G = wc.heap.size := ⟨_, rfl⟩
        rw [← hG2] at i16 ⊢
        have hg16 : Wa.heap.size ≤ G16 := by omega
        have hg18 : Wa.heap.size ≤ G18 := by omega
        have hne : G16 ≠ G18 := by omega
        clear iWd kWd sWd iWe kWe sWe hg hG hG2 HCB heq
        have heq := fun W => eqRatioV s1 s2 W
        by_cases ho : one = 0
        · subst ho
          obtain rfl : bad = 0 := HX.out.1 rfl
          have R2b := Lib.hid (R2.out (by trivial))
          have R3b := Lib.hid (R3.out (by trivial))
          clear R2 R3
          cases tb
          · have RQ0 := Lib.hid (show ∀ W, Calls Tryz.prog 37 #[.bool false, .int .i64 17] W fun r w' => r = .returned (.int .i64 0) ∧ W = w' from fun W => RQ.out false W)
            obtain ⟨⟨rfl, rfl⟩, rfl⟩ : (s1 = r1 ∧ s2 = r2) ∧ se = 0 := by have := HSX.out; simpa using this
            have R3c := Lib.hid (R3b.out rfl)
            clear R3b RQ
            go_wp2_with fail
            refine (R2b.out We (HV.out.carry (bthen HBA.out hA))).mono ?_
            rintro e Wf ⟨rfl, hb⟩
            replace hA := bthen hA hb
            replace i16 := i16.carry hb
            replace i18 := i18.carry hb
            replace a0 := cellb a0 hb
            clear hb
            go_wp2_with fail
            refine (RQ0.out Wf).mono ?_
            rintro e Wf ⟨rfl, rfl⟩
            go_wp2_with fail
            refine (R3c.out Wf (HV.out.carry (bthen HBA.out hA))).mono ?_
            rintro e Wg ⟨rfl, hb⟩
            replace hA := bthen hA hb
            replace i16 := i16.carry hb
            replace i18 := i18.carry hb
            replace a0 := cellb a0 hb
            clear hb
            go_upto_region 15 with (refine wpList_storeA rfl _ _ _ rfl G16 [s1, s2] (List.replicate 2 0) rfl rfl i16 rfl Tryz.infoRatio ?_)
            obtain ⟨Wh, hV⟩ : ∃ v, v = World.setRow Wg G16 (ia [s1, s2]) := ⟨_, rfl⟩
            rw [← hV]
            replace hA : Below Wa.heap.size Wa Wh := by rw [hV]; exact below_rowA hA hg16 _
            replace i16 := BlkI.setRowA i16 [s1, s2]
            replace i18 := Blk.setRow i18 (Ne.symm hne) (ia [s1, s2])
            rw [← hV] at i16 i18
            replace a0 := cellb (HI0.out.cell (j := 0) (v := .slice a ls.length cp) rfl) hA
            clear hV
            have HLQ := Lib.hid (show L1 = RL from HL1.out)
            have R4b := Lib.hid (R4.out (by trivial))
            clear R4
            go_wp2_with fail
            refine (R4b.out Wh (HV.out.carry (bthen HBA.out hA))).mono ?_
            rintro e V1 ⟨⟨u17, rfl, hq17⟩, hb⟩
            replace hA := bthen hA hb
            replace i16 := i16.carry hb
            replace i18 := i18.carry hb
            replace a0 := cellb a0 hb
            clear hb
            go_upto_region 17 with fail
            by_cases ht : two = 0
            · subst ht
              have R5b := Lib.hid (R5.out (by trivial))
              clear R5
              go_wp2_with fail
              refine (R5b.out V1 (HV.out.carry (bthen HBA.out hA))).mono ?_
              rintro e V2 ⟨⟨q18, rfl, hu18⟩, hb⟩
              obtain ⟨ya, yc, rfl, _, _⟩ := id hu18
              replace hA := bthen hA hb
              replace hq17 := hq17.carry hb
              replace i16 := i16.carry hb
              replace i18 := i18.carry hb
              replace a0 := cellb a0 hb
              clear hb
              have z18 := i18.cell (j := 0) (v := .slice none 0 0) rfl
              have f18 := i18.frozen 0
              go_upto_region 19 with fail
              obtain ⟨V3, hV⟩ : ∃ v, v = V2.setCell ⟨G18, 0, none⟩ (.slice ya Z.length yc) := ⟨_, rfl⟩
              rw [← hV]
              replace hA : Below Wa.heap.size Wa V3 := by rw [hV]; exact hA.setCell hg18 _
              replace hq17 : Ints V3 u17 RL := by rw [hV]; exact hq17.apart i18 (fun y hy => by simp at hy)
              replace hu18 : Pairs V3 (.slice ya Z.length yc) Z := by rw [hV]; exact hu18.apart i18 (fun y hy => by simp at hy)
              replace i16 := i16.other (j := 0) hne (.slice ya Z.length yc)
              replace i18 := i18.set 0 (.slice ya Z.length yc)
              rw [← hV] at i16 i18
              replace a0 := cellb (HI0.out.cell (j := 0) (v := .slice a ls.length cp) rfl) hA
              clear hV z18 f18
              have x0 := cellb (show Wa.cell? ⟨G7, 0, none⟩ = some (.int .i64 s1) from BlkI.cell (l := [s1, s2]) HI7.out (j := 0) (by simp)) hA
              have x1 := cellb (show Wa.cell? ⟨G7, 1, none⟩ = some (.int .i64 s2) from BlkI.cell (l := [s1, s2]) HI7.out (j := 1) (by simp)) hA
              have y0 : V3.cell? ⟨G16, 0, none⟩ = some (.int .i64 s1) := BlkI.cell i16 (j := 0) (by simp)
              have y1 : V3.cell? ⟨G16, 1, none⟩ = some (.int .i64 s2) := BlkI.cell i16 (j := 1) (by simp)
              have z11 := cellb (HI11.out.cell (j := 0) (v := .slice xa Z.length xc) rfl) hA
              have z18 := i18.cell (j := 0) (v := .slice ya Z.length yc) rfl
              clear i16 i18
              go_wp2_with fail
              refine (TG.out V3 (HV.out.carry (bthen HBA.out hA))).mono ?_
              rintro e V4 ⟨⟨u, rfl, hu⟩, hb⟩
              replace hA := bthen hA hb
              replace hq17 := hq17.carry hb
              replace hu18 := hu18.carry hb
              replace x0 := cellb x0 hb
              replace x1 := cellb x1 hb
              replace y0 := cellb y0 hb
              replace y1 := cellb y1 hb
              replace z11 := cellb z11 hb
              replace z18 := cellb z18 hb
              clear hb
              go_wp2_with fail
              refine (TC.out u V4 hu).mono ?_
              rintro e V5 ⟨rfl, hb⟩
              replace hA := bthen hA hb
              replace hq17 := hq17.carry hb
              replace hu18 := hu18.carry hb
              replace x0 := cellb x0 hb
              replace x1 := cellb x1 hb
              replace y0 := cellb y0 hb
              replace y1 := cellb y1 hb
              replace z11 := cellb z11 hb
              replace z18 := cellb z18 hb
              clear hb
              clear hu
              go_wp2_with fail
              refine (SI.out _ _ L1 V5 (HU9.out.carry hA) (by rw [HLQ.out]; exact hq17) (by rw [HLQ.out]; exact HRL.out)).mono ?_
              rintro e V6 ⟨rfl, hb⟩
              replace hA := bthen hA hb
              replace hq17 := hq17.carry hb
              replace hu18 := hu18.carry hb
              replace x0 := cellb x0 hb
              replace x1 := cellb x1 hb
              replace y0 := cellb y0 hb
              replace y1 := cellb y1 hb
              replace z11 := cellb z11 hb
              replace z18 := cellb z18 hb
              clear hb
              go_wp2_with fail
              refine (filter_any (.slice xa Z.length xc) _ Z (Z) X V6 (HU11.out.carry hA) hu18 HZ3.out (fun _ => rfl) HZ.out.2).mono ?_
              rintro e V7 ⟨rfl, hb⟩
              replace hA := bthen hA hb
              replace hq17 := hq17.carry hb
              replace hu18 := hu18.carry hb
              replace x0 := cellb x0 hb
              replace x1 := cellb x1 hb
              replace y0 := cellb y0 hb
              replace y1 := cellb y1 hb
              replace z11 := cellb z11 hb
              replace z18 := cellb z18 hb
              clear hb
              go_wp2_with fail
              refine (awake_any V7 (hw.carry (bthen HBA.out hA)) (hp.carry (bthen HBA.out hA))).mono ?_
              rintro e X3 ⟨rfl, hb⟩
              go_wp2_with fail
              go_ret
              exact ⟨rfl, bthen (bthen HBA.out hA) hb⟩
            · have z2 : (two == 0) = false := by rw [beq_eq_false_iff_ne]; exact ht
              obtain ⟨hX1, hZ1⟩ := HZ.out.1 ht
              have HNX := Lib.hid (show X ≠ 0 by rw [hX1]; exact ht)
              obtain rfl := hX1
              clear hZ1 R5 ht
              go_upto_region 19 with fail
              have x0 := cellb (show Wa.cell? ⟨G7, 0, none⟩ = some (.int .i64 s1) from BlkI.cell (l := [s1, s2]) HI7.out (j := 0) (by simp)) hA
              have x1 := cellb (show Wa.cell? ⟨G7, 1, none⟩ = some (.int .i64 s2) from BlkI.cell (l := [s1, s2]) HI7.out (j := 1) (by simp)) hA
              have y0 : V1.cell? ⟨G16, 0, none⟩ = some (.int .i64 s1) := BlkI.cell i16 (j := 0) (by simp)
              have y1 : V1.cell? ⟨G16, 1, none⟩ = some (.int .i64 s2) := BlkI.cell i16 (j := 1) (by simp)
              have z11 := cellb (HI11.out.cell (j := 0) (v := .slice xa Z.length xc) rfl) hA
              have z18 := i18.cell (j := 0) (v := .slice none 0 0) rfl
              clear i16 i18
              go_wp2_with fail
              refine (TG.out V1 (HV.out.carry (bthen HBA.out hA))).mono ?_
              rintro e V8 ⟨⟨u, rfl, hu⟩, hb⟩
              replace hA := bthen hA hb
              replace hq17 := hq17.carry hb
              replace x0 := cellb x0 hb
              replace x1 := cellb x1 hb
              replace y0 := cellb y0 hb
              replace y1 := cellb y1 hb
              replace z11 := cellb z11 hb
              replace z18 := cellb z18 hb
              clear hb
              go_wp2_with fail
              refine (TC.out u V8 hu).mono ?_
              rintro e V9 ⟨rfl, hb⟩
              replace hA := bthen hA hb
              replace hq17 := hq17.carry hb
              replace x0 := cellb x0 hb
              replace x1 := cellb x1 hb
              replace y0 := cellb y0 hb
              replace y1 := cellb y1 hb
              replace z11 := cellb z11 hb
              replace z18 := cellb z18 hb
              clear hb
              clear hu
              go_wp2_with fail
              refine (SI.out _ _ L1 V9 (HU9.out.carry hA) (by rw [HLQ.out]; exact hq17) (by rw [HLQ.out]; exact HRL.out)).mono ?_
              rintro e V10 ⟨rfl, hb⟩
              replace hA := bthen hA hb
              replace hq17 := hq17.carry hb
              replace x0 := cellb x0 hb
              replace x1 := cellb x1 hb
              replace y0 := cellb y0 hb
              replace y1 := cellb y1 hb
              replace z11 := cellb z11 hb
              replace z18 := cellb z18 hb
              clear hb
              go_wp2_with fail
              refine (filter_any (.slice xa Z.length xc) _ Z ([]) X V10 (HU11.out.carry hA) (Pairs.none' _) HZ3.out (fun h => absurd h HNX.out) HZ.out.2).mono ?_
              rintro e V11 ⟨rfl, hb⟩
              replace hA := bthen hA hb
              replace hq17 := hq17.carry hb
              replace x0 := cellb x0 hb
              replace x1 := cellb x1 hb
              replace y0 := cellb y0 hb
              replace y1 := cellb y1 hb
              replace z11 := cellb z11 hb
              replace z18 := cellb z18 hb
              clear hb
              go_wp2_with fail
              refine (awake_any V11 (hw.carry (bthen HBA.out hA)) (hp.carry (bthen HBA.out hA))).mono ?_
              rintro e X3 ⟨rfl, hb⟩
              go_wp2_with fail
              go_ret
              exact ⟨rfl, bthen (bthen HBA.out hA) hb⟩
          · have RQ0 := Lib.hid (show ∀ W, Calls Tryz.prog 37 #[.bool true, .int .i64 17] W fun r w' => r = .returned (.int .i64 17) ∧ W = w' from fun W => RQ.out true W)
            obtain ⟨⟨rfl, rfl⟩, rfl⟩ : (s1 = 0 ∧ s2 = 0) ∧ se = 17 := by have := HSX.out; simpa using this
            clear R3b RQ
            go_wp2_with fail
            refine (R2b.out We (HV.out.carry (bthen HBA.out hA))).mono ?_
            rintro e Wf ⟨rfl, hb⟩
            replace hA := bthen hA hb
            replace i16 := i16.carry hb
            replace i18 := i18.carry hb
            replace a0 := cellb a0 hb
            clear hb
            go_wp2_with fail
            refine (RQ0.out Wf).mono ?_
            rintro e Wf ⟨rfl, rfl⟩
            go_upto_region 15 with fail
            have HLQ := Lib.hid (show L1 = RL from HL1.out)
            have R4b := Lib.hid (R4.out (by trivial))
            clear R4
            go_wp2_with fail
            refine (R4b.out Wf (HV.out.carry (bthen HBA.out hA))).mono ?_
            rintro e V12 ⟨⟨u17, rfl, hq17⟩, hb⟩
            replace hA := bthen hA hb
            replace i16 := i16.carry hb
            replace i18 := i18.carry hb
            replace a0 := cellb a0 hb
            clear hb
            go_upto_region 17 with fail
            by_cases ht : two = 0
            · subst ht
              have R5b := Lib.hid (R5.out (by trivial))
              clear R5
              go_wp2_with fail
              refine (R5b.out V12 (HV.out.carry (bthen HBA.out hA))).mono ?_
              rintro e V13 ⟨⟨q18, rfl, hu18⟩, hb⟩
              obtain ⟨ya, yc, rfl, _, _⟩ := id hu18
              replace hA := bthen hA hb
              replace hq17 := hq17.carry hb
              replace i16 := i16.carry hb
              replace i18 := i18.carry hb
              replace a0 := cellb a0 hb
              clear hb
              have z18 := i18.cell (j := 0) (v := .slice none 0 0) rfl
              have f18 := i18.frozen 0
              go_upto_region 19 with fail
              obtain ⟨V14, hV⟩ : ∃ v, v = V13.setCell ⟨G18, 0, none⟩ (.slice ya Z.length yc) := ⟨_, rfl⟩
              rw [← hV]
              replace hA : Below Wa.heap.size Wa V14 := by rw [hV]; exact hA.setCell hg18 _
              replace hq17 : Ints V14 u17 RL := by rw [hV]; exact hq17.apart i18 (fun y hy => by simp at hy)
              replace hu18 : Pairs V14 (.slice ya Z.length yc) Z := by rw [hV]; exact hu18.apart i18 (fun y hy => by simp at hy)
              replace i16 := i16.other (j := 0) hne (.slice ya Z.length yc)
              replace i18 := i18.set 0 (.slice ya Z.length yc)
              rw [← hV] at i16 i18
              replace a0 := cellb (HI0.out.cell (j := 0) (v := .slice a ls.length cp) rfl) hA
              clear hV z18 f18
              have x0 := cellb (show Wa.cell? ⟨G7, 0, none⟩ = some (.int .i64 0) from BlkI.cell (l := [0, 0]) HI7.out (j := 0) (by simp)) hA
              have x1 := cellb (show Wa.cell? ⟨G7, 1, none⟩ = some (.int .i64 0) from BlkI.cell (l := [0, 0]) HI7.out (j := 1) (by simp)) hA
              have y0 : V14.cell? ⟨G16, 0, none⟩ = some (.int .i64 0) := BlkI.cell i16 (j := 0) (by simp)
              have y1 : V14.cell? ⟨G16, 1, none⟩ = some (.int .i64 0) := BlkI.cell i16 (j := 1) (by simp)
              have z11 := cellb (HI11.out.cell (j := 0) (v := .slice xa Z.length xc) rfl) hA
              have z18 := i18.cell (j := 0) (v := .slice ya Z.length yc) rfl
              clear i16 i18
              go_wp2_with fail
              refine (TG.out V14 (HV.out.carry (bthen HBA.out hA))).mono ?_
              rintro e V15 ⟨⟨u, rfl, hu⟩, hb⟩
              replace hA := bthen hA hb
              replace hq17 := hq17.carry hb
              replace hu18 := hu18.carry hb
              replace x0 := cellb x0 hb
              replace x1 := cellb x1 hb
              replace y0 := cellb y0 hb
              replace y1 := cellb y1 hb
              replace z11 := cellb z11 hb
              replace z18 := cellb z18 hb
              clear hb
              go_wp2_with fail
              refine (TC.out u V15 hu).mono ?_
              rintro e V16 ⟨rfl, hb⟩
              replace hA := bthen hA hb
              replace hq17 := hq17.carry hb
              replace hu18 := hu18.carry hb
              replace x0 := cellb x0 hb
              replace x1 := cellb x1 hb
              replace y0 := cellb y0 hb
              replace y1 := cellb y1 hb
              replace z11 := cellb z11 hb
              replace z18 := cellb z18 hb
              clear hb
              clear hu
              go_wp2_with fail
              refine (SI.out _ _ L1 V16 (HU9.out.carry hA) (by rw [HLQ.out]; exact hq17) (by rw [HLQ.out]; exact HRL.out)).mono ?_
              rintro e V17 ⟨rfl, hb⟩
              replace hA := bthen hA hb
              replace hq17 := hq17.carry hb
              replace hu18 := hu18.carry hb
              replace x0 := cellb x0 hb
              replace x1 := cellb x1 hb
              replace y0 := cellb y0 hb
              replace y1 := cellb y1 hb
              replace z11 := cellb z11 hb
              replace z18 := cellb z18 hb
              clear hb
              go_wp2_with fail
              refine (filter_any (.slice xa Z.length xc) _ Z (Z) X V17 (HU11.out.carry hA) hu18 HZ3.out (fun _ => rfl) HZ.out.2).mono ?_
              rintro e V18 ⟨rfl, hb⟩
              replace hA := bthen hA hb
              replace hq17 := hq17.carry hb
              replace hu18 := hu18.carry hb
              replace x0 := cellb x0 hb
              replace x1 := cellb x1 hb
              replace y0 := cellb y0 hb
              replace y1 := cellb y1 hb
              replace z11 := cellb z11 hb
              replace z18 := cellb z18 hb
              clear hb
              go_wp2_with fail
              refine (awake_any V18 (hw.carry (bthen HBA.out hA)) (hp.carry (bthen HBA.out hA))).mono ?_
              rintro e X3 ⟨rfl, hb⟩
              go_wp2_with fail
              go_ret
              exact ⟨rfl, bthen (bthen HBA.out hA) hb⟩
            · have z2 : (two == 0) = false := by rw [beq_eq_false_iff_ne]; exact ht
              obtain ⟨hX1, hZ1⟩ := HZ.out.1 ht
              have HNX := Lib.hid (show X ≠ 0 by rw [hX1]; exact ht)
              obtain rfl := hX1
              clear hZ1 R5 ht
              go_upto_region 19 with fail
              have x0 := cellb (show Wa.cell? ⟨G7, 0, none⟩ = some (.int .i64 0) from BlkI.cell (l := [0, 0]) HI7.out (j := 0) (by simp)) hA
              have x1 := cellb (show Wa.cell? ⟨G7, 1, none⟩ = some (.int .i64 0) from BlkI.cell (l := [0, 0]) HI7.out (j := 1) (by simp)) hA
              have y0 : V12.cell? ⟨G16, 0, none⟩ = some (.int .i64 0) := BlkI.cell i16 (j := 0) (by simp)
              have y1 : V12.cell? ⟨G16, 1, none⟩ = some (.int .i64 0) := BlkI.cell i16 (j := 1) (by simp)
              have z11 := cellb (HI11.out.cell (j := 0) (v := .slice xa Z.length xc) rfl) hA
              have z18 := i18.cell (j := 0) (v := .slice none 0 0) rfl
              clear i16 i18
              go_wp2_with fail
              refine (TG.out V12 (HV.out.carry (bthen HBA.out hA))).mono ?_
              rintro e V19 ⟨⟨u, rfl, hu⟩, hb⟩
              replace hA := bthen hA hb
              replace hq17 := hq17.carry hb
              replace x0 := cellb x0 hb
              replace x1 := cellb x1 hb
              replace y0 := cellb y0 hb
              replace y1 := cellb y1 hb
              replace z11 := cellb z11 hb
              replace z18 := cellb z18 hb
              clear hb
              go_wp2_with fail
              refine (TC.out u V19 hu).mono ?_
              rintro e V20 ⟨rfl, hb⟩
              replace hA := bthen hA hb
              replace hq17 := hq17.carry hb
              replace x0 := cellb x0 hb
              replace x1 := cellb x1 hb
              replace y0 := cellb y0 hb
              replace y1 := cellb y1 hb
              replace z11 := cellb z11 hb
              replace z18 := cellb z18 hb
              clear hb
              clear hu
              go_wp2_with fail
              refine (SI.out _ _ L1 V20 (HU9.out.carry hA) (by rw [HLQ.out]; exact hq17) (by rw [HLQ.out]; exact HRL.out)).mono ?_
              rintro e V21 ⟨rfl, hb⟩
              replace hA := bthen hA hb
              replace hq17 := hq17.carry hb
              replace x0 := cellb x0 hb
              replace x1 := cellb x1 hb
              replace y0 := cellb y0 hb
              replace y1 := cellb y1 hb
              replace z11 := cellb z11 hb
              replace z18 := cellb z18 hb
              clear hb
              go_wp2_with fail
              refine (filter_any (.slice xa Z.length xc) _ Z ([]) X V21 (HU11.out.carry hA) (Pairs.none' _) HZ3.out (fun h => absurd h HNX.out) HZ.out.2).mono ?_
              rintro e V22 ⟨rfl, hb⟩
              replace hA := bthen hA hb
              replace hq17 := hq17.carry hb
              replace x0 := cellb x0 hb
              replace x1 := cellb x1 hb
              replace y0 := cellb y0 hb
              replace y1 := cellb y1 hb
              replace z11 := cellb z11 hb
              replace z18 := cellb z18 hb
              clear hb
              go_wp2_with fail
              refine (awake_any V22 (hw.carry (bthen HBA.out hA)) (hp.carry (bthen HBA.out hA))).mono ?_
              rintro e X3 ⟨rfl, hb⟩
              go_wp2_with fail
              go_ret
              exact ⟨rfl, bthen (bthen HBA.out hA) hb⟩
        · have z1 : (one == 0) = false := by rw [beq_eq_false_iff_ne]; exact ho
          obtain ⟨⟨rfl, rfl⟩, rfl⟩ : (s1 = 0 ∧ s2 = 0) ∧ se = one := by have := HSX.out; rw [z1] at this; simpa using this
          clear R2 R3 RQ
          go_upto_region 15 with fail
          by_cases hbad : bad = 0
          · subst hbad
            have HLQ := Lib.hid (show L1 = RL from HL1.out)
            have R4b := Lib.hid (R4.out (by trivial))
            clear R4
            go_wp2_with fail
            refine (R4b.out We (HV.out.carry (bthen HBA.out hA))).mono ?_
            rintro e V23 ⟨⟨u17, rfl, hq17⟩, hb⟩
            replace hA := bthen hA hb
            replace i16 := i16.carry hb
            replace i18 := i18.carry hb
            replace a0 := cellb a0 hb
            clear hb
            go_upto_region 17 with fail
            by_cases ht : two = 0
            · subst ht
              have R5b := Lib.hid (R5.out (by trivial))
              clear R5
              go_wp2_with fail
              refine (R5b.out V23 (HV.out.carry (bthen HBA.out hA))).mono ?_
              rintro e V24 ⟨⟨q18, rfl, hu18⟩, hb⟩
              obtain ⟨ya, yc, rfl, _, _⟩ := id hu18
              replace hA := bthen hA hb
              replace hq17 := hq17.carry hb
              replace i16 := i16.carry hb
              replace i18 := i18.carry hb
              replace a0 := cellb a0 hb
              clear hb
              have z18 := i18.cell (j := 0) (v := .slice none 0 0) rfl
              have f18 := i18.frozen 0
              go_upto_region 19 with fail
              obtain ⟨V25, hV⟩ : ∃ v, v = V24.setCell ⟨G18, 0, none⟩ (.slice ya Z.length yc) := ⟨_, rfl⟩
              rw [← hV]
              replace hA : Below Wa.heap.size Wa V25 := by rw [hV]; exact hA.setCell hg18 _
              replace hq17 : Ints V25 u17 RL := by rw [hV]; exact hq17.apart i18 (fun y hy => by simp at hy)
              replace hu18 : Pairs V25 (.slice ya Z.length yc) Z := by rw [hV]; exact hu18.apart i18 (fun y hy => by simp at hy)
              replace i16 := i16.other (j := 0) hne (.slice ya Z.length yc)
              replace i18 := i18.set 0 (.slice ya Z.length yc)
              rw [← hV] at i16 i18
              replace a0 := cellb (HI0.out.cell (j := 0) (v := .slice a ls.length cp) rfl) hA
              clear hV z18 f18
              have x0 := cellb (show Wa.cell? ⟨G7, 0, none⟩ = some (.int .i64 0) from BlkI.cell (l := [0, 0]) HI7.out (j := 0) (by simp)) hA
              have x1 := cellb (show Wa.cell? ⟨G7, 1, none⟩ = some (.int .i64 0) from BlkI.cell (l := [0, 0]) HI7.out (j := 1) (by simp)) hA
              have y0 : V25.cell? ⟨G16, 0, none⟩ = some (.int .i64 0) := BlkI.cell i16 (j := 0) (by simp)
              have y1 : V25.cell? ⟨G16, 1, none⟩ = some (.int .i64 0) := BlkI.cell i16 (j := 1) (by simp)
              have z11 := cellb (HI11.out.cell (j := 0) (v := .slice xa Z.length xc) rfl) hA
              have z18 := i18.cell (j := 0) (v := .slice ya Z.length yc) rfl
              clear i16 i18
              go_wp2_with fail
              refine (TG.out V25 (HV.out.carry (bthen HBA.out hA))).mono ?_
              rintro e V26 ⟨⟨u, rfl, hu⟩, hb⟩
              replace hA := bthen hA hb
              replace hq17 := hq17.carry hb
              replace hu18 := hu18.carry hb
              replace x0 := cellb x0 hb
              replace x1 := cellb x1 hb
              replace y0 := cellb y0 hb
              replace y1 := cellb y1 hb
              replace z11 := cellb z11 hb
              replace z18 := cellb z18 hb
              clear hb
              go_wp2_with fail
              refine (TC.out u V26 hu).mono ?_
              rintro e V27 ⟨rfl, hb⟩
              replace hA := bthen hA hb
              replace hq17 := hq17.carry hb
              replace hu18 := hu18.carry hb
              replace x0 := cellb x0 hb
              replace x1 := cellb x1 hb
              replace y0 := cellb y0 hb
              replace y1 := cellb y1 hb
              replace z11 := cellb z11 hb
              replace z18 := cellb z18 hb
              clear hb
              clear hu
              go_wp2_with fail
              refine (SI.out _ _ L1 V27 (HU9.out.carry hA) (by rw [HLQ.out]; exact hq17) (by rw [HLQ.out]; exact HRL.out)).mono ?_
              rintro e V28 ⟨rfl, hb⟩
              replace hA := bthen hA hb
              replace hq17 := hq17.carry hb
              replace hu18 := hu18.carry hb
              replace x0 := cellb x0 hb
              replace x1 := cellb x1 hb
              replace y0 := cellb y0 hb
              replace y1 := cellb y1 hb
              replace z11 := cellb z11 hb
              replace z18 := cellb z18 hb
              clear hb
              go_wp2_with fail
              refine (filter_any (.slice xa Z.length xc) _ Z (Z) X V28 (HU11.out.carry hA) hu18 HZ3.out (fun _ => rfl) HZ.out.2).mono ?_
              rintro e V29 ⟨rfl, hb⟩
              replace hA := bthen hA hb
              replace hq17 := hq17.carry hb
              replace hu18 := hu18.carry hb
              replace x0 := cellb x0 hb
              replace x1 := cellb x1 hb
              replace y0 := cellb y0 hb
              replace y1 := cellb y1 hb
              replace z11 := cellb z11 hb
              replace z18 := cellb z18 hb
              clear hb
              go_wp2_with fail
              refine (awake_any V29 (hw.carry (bthen HBA.out hA)) (hp.carry (bthen HBA.out hA))).mono ?_
              rintro e X3 ⟨rfl, hb⟩
              go_wp2_with fail
              go_ret
              exact ⟨rfl, bthen (bthen HBA.out hA) hb⟩
            · have z2 : (two == 0) = false := by rw [beq_eq_false_iff_ne]; exact ht
              obtain ⟨hX1, hZ1⟩ := HZ.out.1 ht
              have HNX := Lib.hid (show X ≠ 0 by rw [hX1]; exact ht)
              obtain rfl := hX1
              clear hZ1 R5 ht
              go_upto_region 19 with fail
              have x0 := cellb (show Wa.cell? ⟨G7, 0, none⟩ = some (.int .i64 0) from BlkI.cell (l := [0, 0]) HI7.out (j := 0) (by simp)) hA
              have x1 := cellb (show Wa.cell? ⟨G7, 1, none⟩ = some (.int .i64 0) from BlkI.cell (l := [0, 0]) HI7.out (j := 1) (by simp)) hA
              have y0 : V23.cell? ⟨G16, 0, none⟩ = some (.int .i64 0) := BlkI.cell i16 (j := 0) (by simp)
              have y1 : V23.cell? ⟨G16, 1, none⟩ = some (.int .i64 0) := BlkI.cell i16 (j := 1) (by simp)
              have z11 := cellb (HI11.out.cell (j := 0) (v := .slice xa Z.length xc) rfl) hA
              have z18 := i18.cell (j := 0) (v := .slice none 0 0) rfl
              clear i16 i18
              go_wp2_with fail
              refine (TG.out V23 (HV.out.carry (bthen HBA.out hA))).mono ?_
              rintro e V30 ⟨⟨u, rfl, hu⟩, hb⟩
              replace hA := bthen hA hb
              replace hq17 := hq17.carry hb
              replace x0 := cellb x0 hb
              replace x1 := cellb x1 hb
              replace y0 := cellb y0 hb
              replace y1 := cellb y1 hb
              replace z11 := cellb z11 hb
              replace z18 := cellb z18 hb
              clear hb
              go_wp2_with fail
              refine (TC.out u V30 hu).mono ?_
              rintro e V31 ⟨rfl, hb⟩
              replace hA := bthen hA hb
              replace hq17 := hq17.carry hb
              replace x0 := cellb x0 hb
              replace x1 := cellb x1 hb
              replace y0 := cellb y0 hb
              replace y1 := cellb y1 hb
              replace z11 := cellb z11 hb
              replace z18 := cellb z18 hb
              clear hb
              clear hu
              go_wp2_with fail
              refine (SI.out _ _ L1 V31 (HU9.out.carry hA) (by rw [HLQ.out]; exact hq17) (by rw [HLQ.out]; exact HRL.out)).mono ?_
              rintro e V32 ⟨rfl, hb⟩
              replace hA := bthen hA hb
              replace hq17 := hq17.carry hb
              replace x0 := cellb x0 hb
              replace x1 := cellb x1 hb
              replace y0 := cellb y0 hb
              replace y1 := cellb y1 hb
              replace z11 := cellb z11 hb
              replace z18 := cellb z18 hb
              clear hb
              go_wp2_with fail
              refine (filter_any (.slice xa Z.length xc) _ Z ([]) X V32 (HU11.out.carry hA) (Pairs.none' _) HZ3.out (fun h => absurd h HNX.out) HZ.out.2).mono ?_
              rintro e V33 ⟨rfl, hb⟩
              replace hA := bthen hA hb
              replace hq17 := hq17.carry hb
              replace x0 := cellb x0 hb
              replace x1 := cellb x1 hb
              replace y0 := cellb y0 hb
              replace y1 := cellb y1 hb
              replace z11 := cellb z11 hb
              replace z18 := cellb z18 hb
              clear hb
              go_wp2_with fail
              refine (awake_any V33 (hw.carry (bthen HBA.out hA)) (hp.carry (bthen HBA.out hA))).mono ?_
              rintro e X3 ⟨rfl, hb⟩
              go_wp2_with fail
              go_ret
              exact ⟨rfl, bthen (bthen HBA.out hA) hb⟩
          · skip
            have z3 : (bad == 0) = false := by rw [beq_eq_false_iff_ne]; exact hbad
            have HLQ := Lib.hid (show L1 = [] by rw [HL1.out, lsOr, if_neg hbad])
            clear R4
            go_upto_region 17 with fail
            have ht : two ≠ 0 := fun h => hbad (HX.out.2 h)
            have z2 : (two == 0) = false := by rw [beq_eq_false_iff_ne]; exact ht
            obtain ⟨hX1, hZ1⟩ := HZ.out.1 ht
            have HNX := Lib.hid (show X ≠ 0 by rw [hX1]; exact ht)
            obtain rfl := hX1
            clear hZ1 R5 ht
            go_upto_region 19 with fail
            have x0 := cellb (show Wa.cell? ⟨G7, 0, none⟩ = some (.int .i64 0) from BlkI.cell (l := [0, 0]) HI7.out (j := 0) (by simp)) hA
            have x1 := cellb (show Wa.cell? ⟨G7, 1, none⟩ = some (.int .i64 0) from BlkI.cell (l := [0, 0]) HI7.out (j := 1) (by simp)) hA
            have y0 : We.cell? ⟨G16, 0, none⟩ = some (.int .i64 0) := BlkI.cell i16 (j := 0) (by simp)
            have y1 : We.cell? ⟨G16, 1, none⟩ = some (.int .i64 0) := BlkI.cell i16 (j := 1) (by simp)
            have z11 := cellb (HI11.out.cell (j := 0) (v := .slice xa Z.length xc) rfl) hA
            have z18 := i18.cell (j := 0) (v := .slice none 0 0) rfl
            clear i16 i18
            go_wp2_with fail
            refine (TG.out We (HV.out.carry (bthen HBA.out hA))).mono ?_
            rintro e V34 ⟨⟨u, rfl, hu⟩, hb⟩
            replace hA := bthen hA hb
            replace x0 := cellb x0 hb
            replace x1 := cellb x1 hb
            replace y0 := cellb y0 hb
            replace y1 := cellb y1 hb
            replace z11 := cellb z11 hb
            replace z18 := cellb z18 hb
            clear hb
            go_wp2_with fail
            refine (TC.out u V34 hu).mono ?_
            rintro e V35 ⟨rfl, hb⟩
            replace hA := bthen hA hb
            replace x0 := cellb x0 hb
            replace x1 := cellb x1 hb
            replace y0 := cellb y0 hb
            replace y1 := cellb y1 hb
            replace z11 := cellb z11 hb
            replace z18 := cellb z18 hb
            clear hb
            clear hu
            go_wp2_with fail
            refine (SI.out _ _ L1 V35 (HU9.out.carry hA) (by rw [HLQ.out]; exact Ints.nilQ _) (by rw [HLQ.out]; simp)).mono ?_
            rintro e V36 ⟨rfl, hb⟩
            replace hA := bthen hA hb
            replace x0 := cellb x0 hb
            replace x1 := cellb x1 hb
            replace y0 := cellb y0 hb
            replace y1 := cellb y1 hb
            replace z11 := cellb z11 hb
            replace z18 := cellb z18 hb
            clear hb
            go_wp2_with fail
            refine (filter_any (.slice xa Z.length xc) _ Z ([]) X V36 (HU11.out.carry hA) (Pairs.none' _) HZ3.out (fun h => absurd h HNX.out) HZ.out.2).mono ?_
            rintro e V37 ⟨rfl, hb⟩
            replace hA := bthen hA hb
            replace x0 := cellb x0 hb
            replace x1 := cellb x1 hb
            replace y0 := cellb y0 hb
            replace y1 := cellb y1 hb
            replace z11 := cellb z11 hb
            replace z18 := cellb z18 hb
            clear hb
            go_wp2_with fail
            refine (awake_any V37 (hw.carry (bthen HBA.out hA)) (hp.carry (bthen HBA.out hA))).mono ?_
            rintro e X3 ⟨rfl, hb⟩
            go_wp2_with fail
            go_ret
            exact ⟨rfl, bthen (bthen HBA.out hA) hb⟩
  · have hdl : decide ((ls.length : Int) ≤ 4) = false := decide_eq_false hlen
    rw [hdl] at T0
    clear hv hdl
    go_enter Tryz.func5, Tryz.ntmps5
    go_upto_region 1 with fail
    obtain ⟨W1, hW1⟩ : ∃ v, v = World.alloc w (Obj.cells #[.slice a ls.length cp] 62) := ⟨_, rfl⟩
    have kW1 : Below w.heap.size w W1 := by rw [hW1]; exact below_new _ _
    have iW1 : Blk W1 (w.heap.size) 62 [.slice a ls.length cp] := by rw [hW1]; exact Blk.new _ _ _
    have sW1 : W1.heap.size = w.heap.size + 1 := by rw [hW1]; simp
    rw [← hW1]
    clear hW1
    have a0 := iW1.cell (j := 0) (v := .slice a ls.length cp) rfl
    have hB := kW1
    clear iW1 kW1 sW1
    go_wp2_with fail
    refine (T0.out W1 (HV.out.carry hB)).mono ?_
    rintro e W2 ⟨rfl, hb⟩
    replace hB := bthen hB hb
    clear hb a0
    go_wp2_with fail
    refine (awake_any W2 (hw.carry hB) (hp.carry hB)).mono ?_
    rintro e X3 ⟨rfl, hb⟩
    go_wp2_with fail
    go_ret
    exact ⟨rfl, bthen hB hb⟩
end Go.Proofs.YtfkemdapmoponaaGreatDoor

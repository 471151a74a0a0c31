/- The law HarmonicTexts: the walk. -/
import Derived.Test.YtoihfmndhfnmmaaGreatDoorTxtK
import Derived.Test.YtoihfmndhfnmmaaGreatDoorTxtL
import Derived.Test.YtoihfmndhfnmmaaGreatDoorHpO
namespace Go.Proofs.YtoihfmndhfnmmaaGreatDoor
set_option linter.unusedSimpArgs false
set_option linter.unusedVariables false
open Go.RowKit

/-- Parse's answer is either an error or a filter. -/
theorem parse_cases (L : List UInt8) : (∃ n e0 : Int, e0 ≠ 0 ∧ ∀ e W', ParsePost L e W' → e = .returned (.tuple #[.agg #[.slice none 0 0], .int .i64 n, .int .i64 e0])) ∨
    (∃ bl : List (Int × Int), bl.length ≤ 3 ∧ ∀ e W', ParsePost L e W' → ∃ u, e = .returned (.tuple #[.agg #[u], .int .i64 0, .int .i64 0]) ∧ Pairs W' u bl) := by
  unfold ParsePost
  by_cases hlt : 4096 < L.length
  · exact .inl ⟨0, 26, by decide, fun e W' h => by rw [if_pos hlt] at h; exact h⟩
  · cases hb : badAt (linesL L) with
    | some n => exact .inl ⟨n, 25, by decide, fun e W' h => by rw [if_neg hlt] at h; exact h⟩
    | none =>
      by_cases hz : fltE (brsOf (linesL L)) = 0
      · exact .inr ⟨brsOf (linesL L), (fltE_zero hz).1.2, fun e W' h => by rw [if_neg hlt] at h; simp only [hz, if_true] at h; exact h⟩
      · exact .inl ⟨_, _, hz, fun e W' h => by rw [if_neg hlt] at h; simp only [hz, if_false] at h; exact h⟩
set_option maxRecDepth 100000 in
set_option maxHeartbeats 8000000 in
theorem txt_law (v0 : Value) (ls : List (Int × Int)) (s : ByteArray) (w : World) (hv : Pairs w v0 ls) (hp : Powers w) (hP : Pows w) (hM : MaxL w) :
    Calls Tryz.prog 5 #[.agg #[v0], .string s] w fun e w' => e = .returned (.bool true) ∧ Below w.heap.size w w' := by
  have TAW := Lib.hid (fun W hP hQ => awake_any W hP hQ)
  have HW := Lib.hid hp
  have HP := Lib.hid hP
  have HM := Lib.hid hM
  have HV := Lib.hid hv
  have TSH := Lib.hid (fun W (h : Pairs W v0 ls) => ShortR_any v0 ls W h)
  obtain ⟨n, hn⟩ : ∃ n, n = s.size := ⟨_, rfl⟩
  have hn' : s.size = n := hn.symm
  obtain ⟨xa, ca, rfl, _, _⟩ := id hv
  clear hp hP hM hv hn
  go_enter Tryz.func5, Tryz.ntmps5
  go_upto_region 1 with fail
  obtain ⟨W1, hW1⟩ : ∃ v, v = World.alloc w (Obj.cells #[.slice xa ls.length ca] 67) := ⟨_, rfl⟩
  have kW1 : Below w.heap.size w W1 := by rw [hW1]; exact below_new _ _
  have iW1 : Blk W1 (w.heap.size) 67 [.slice xa ls.length ca] := by rw [hW1]; exact Blk.new _ _ _
  have sW1 : W1.heap.size = w.heap.size + 1 := by rw [hW1]; simp
  rw [← hW1]
  clear hW1
  have c0 := iW1.cell (j := 0) (v := .slice xa ls.length ca) rfl
  go_wp2_with fail
  refine (TSH.out W1 (HV.out.carry kW1)).mono ?_
  rintro e W2 ⟨rfl, hb2⟩
  have iF := iW1.carry hb2
  have hA := bthen kW1 hb2
  clear c0 iW1 kW1 sW1 hb2 TSH
  by_cases hs4 : (ls.length : Int) ≤ 4
  · rw [decide_eq_true hs4]
    have hs4n : ls.length ≤ 4 := by omega
    by_cases hA1 : (n : Int) ≤ 200
    · have d1 : ¬ 200 < (n : Int) := by omega
      have cF := iF.cell (j := 0) (v := .slice xa ls.length ca) rfl
      go_wp2_with fail
      refine (given_any _ ls W2 (HV.out.carry hA) (by omega)).mono ?_
      rintro e W3 ⟨⟨u, rfl, hu⟩, hb⟩
      replace hA := bthen hA hb
      replace iF := iF.carry hb
      clear hb
      clear cF
      go_wp2_with fail
      refine (Print_any u ls W3 hu (by omega) (HP.out.carry hA)).mono ?_
      rintro e W4 ⟨rfl, hb⟩
      replace hA := bthen hA hb
      replace iF := iF.carry hb
      clear hb
      clear hu
      obtain ⟨st, hst⟩ : ∃ st, st = sOr (fltE ls) (printB ls) := ⟨_, rfl⟩
      rw [← hst]
      have HST0 := Lib.hid (fun h : fltE ls = 0 => show st = printB ls by rw [hst, sOr, if_pos h])
      have HST1 := Lib.hid (fun h : ¬ fltE ls = 0 => show st = ⟨#[]⟩ by rw [hst, sOr, if_neg h])
      clear hst
      go_wp2_with fail
      refine (Parse_any s W4 (by omega) (HM.out.carry hA)).mono ?_
      rintro e W5 ⟨hpp, hb⟩
      rcases parse_cases s.data.toList with ⟨n7, e0, he0, hpc⟩ | ⟨bl, hbl, hpc⟩
      · have HPC := Lib.hid hpc
        have HE0 := Lib.hid he0
        clear hpc he0
        obtain rfl := HPC.out e W5 hpp
        clear hpp
        replace hA := bthen hA hb
        replace iF := iF.carry hb
        clear hb
        go_upto_region 5 with fail
        obtain ⟨W6, hW6⟩ : ∃ v, v = World.alloc W5 (Obj.cells #[.slice none 0 0] 73) := ⟨_, rfl⟩
        have kW6 : Below W5.heap.size W5 W6 := by rw [hW6]; exact below_new _ _
        have iW6 : Blk W6 (W5.heap.size) 73 [.slice none 0 0] := by rw [hW6]; exact Blk.new _ _ _
        have sW6 : W6.heap.size = W5.heap.size + 1 := by rw [hW6]; simp
        rw [← hW6]
        clear hW6
        replace hA := bthen hA kW6
        replace iF := iF.carry kW6
        have i7 := iW6
        clear iW6 kW6 sW6
        have cF := iF.cell (j := 0) (v := .slice xa ls.length ca) rfl
        go_wp2_with fail
        refine (CheckFilterR_any _ ls W6 (HV.out.carry hA) (by omega)).mono ?_
        rintro e W7 ⟨rfl, hb⟩
        replace hA := bthen hA hb
        replace iF := iF.carry hb
        replace i7 := i7.carry hb
        clear hb
        clear cF
        have cF := iF.cell (j := 0) (v := .slice xa ls.length ca) rfl
        by_cases hz : fltE ls = 0
        · rw [hz]
          obtain rfl := HST0.out hz
          go_wp2_with fail
          refine (PrintR_any _ ls W7 (HV.out.carry hA) hz).mono ?_
          rintro e W8 ⟨rfl, hb⟩
          replace hA := bthen hA hb
          replace iF := iF.carry hb
          replace i7 := i7.carry hb
          clear hb
          clear cF hz
          go_wp2_with fail
          refine (ParseR_any s W8 (by omega)).mono ?_
          rintro e W9 ⟨hpp, hb⟩
          obtain rfl := HPC.out e W9 hpp
          clear hpp
          replace hA := bthen hA hb
          replace iF := iF.carry hb
          replace i7 := i7.carry hb
          clear hb
          go_upto_region 10 with fail
          obtain ⟨V1, hV1⟩ : ∃ v, v = World.alloc W9 (Obj.cells #[.slice none 0 0] 67) := ⟨_, rfl⟩
          have kV1 : Below W9.heap.size W9 V1 := by rw [hV1]; exact below_new _ _
          have iV1 : Blk V1 (W9.heap.size) 67 [.slice none 0 0] := by rw [hV1]; exact Blk.new _ _ _
          have sV1 : V1.heap.size = W9.heap.size + 1 := by rw [hV1]; simp
          rw [← hV1]
          clear hV1
          replace hA := bthen hA kV1
          replace i7 := i7.carry kV1
          have c7 := i7.cell (j := 0) (v := .slice none 0 0) rfl
          have c9' := iV1.cell (j := 0) (v := .slice none 0 0) rfl
          clear kV1 sV1
          go_wp2_with fail
          refine (filter_bad e0 HE0.out V1).mono ?_
          rintro e V2 ⟨rfl, hb⟩
          replace hA := bthen hA hb
          clear hb
          go_wp2_with fail
          refine (TAW.out V2 (HW.out.carry hA) (HP.out.carry hA)).mono ?_
          rintro e We ⟨rfl, hb⟩
          go_wp2_with fail
          go_ret
          exact ⟨rfl, bthen hA hb⟩
        · obtain rfl := HST1.out hz
          have hzb : (fltE ls == 0) = false := by rw [beq_eq_false_iff_ne]; exact hz
          generalize fltE ls = fe at hzb hz
          obtain ⟨W8, rfl⟩ : ∃ v, v = W7 := ⟨_, rfl⟩
          clear cF
          go_wp2_with fail
          refine (ParseR_any s W8 (by omega)).mono ?_
          rintro e W9 ⟨hpp, hb⟩
          obtain rfl := HPC.out e W9 hpp
          clear hpp
          replace hA := bthen hA hb
          replace iF := iF.carry hb
          replace i7 := i7.carry hb
          clear hb
          go_upto_region 10 with fail
          obtain ⟨V1, hV1⟩ : ∃ v, v = World.alloc W9 (Obj.cells #[.slice none 0 0] 67) := ⟨_, rfl⟩
          have kV1 : Below W9.heap.size W9 V1 := by rw [hV1]; exact below_new _ _
          have iV1 : Blk V1 (W9.heap.size) 67 [.slice none 0 0] := by rw [hV1]; exact Blk.new _ _ _
          have sV1 : V1.heap.size = W9.heap.size + 1 := by rw [hV1]; simp
          rw [← hV1]
          clear hV1
          replace hA := bthen hA kV1
          replace i7 := i7.carry kV1
          have c7 := i7.cell (j := 0) (v := .slice none 0 0) rfl
          have c9' := iV1.cell (j := 0) (v := .slice none 0 0) rfl
          clear kV1 sV1
          go_wp2_with fail
          refine (filter_bad e0 HE0.out V1).mono ?_
          rintro e V2 ⟨rfl, hb⟩
          replace hA := bthen hA hb
          clear hb
          go_wp2_with fail
          refine (TAW.out V2 (HW.out.carry hA) (HP.out.carry hA)).mono ?_
          rintro e We ⟨rfl, hb⟩
          go_wp2_with fail
          go_ret
          exact ⟨rfl, bthen hA hb⟩
      · have HPC := Lib.hid hpc
        clear hpc
        obtain ⟨u7, rfl, hq7⟩ := HPC.out e W5 hpp
        obtain ⟨x7, c7, rfl, _, _⟩ := id hq7
        clear hpp
        replace hA := bthen hA hb
        replace iF := iF.carry hb
        clear hb
        go_upto_region 5 with fail
        obtain ⟨W6, hW6⟩ : ∃ v, v = World.alloc W5 (Obj.cells #[.slice x7 bl.length c7] 73) := ⟨_, rfl⟩
        have kW6 : Below W5.heap.size W5 W6 := by rw [hW6]; exact below_new _ _
        have iW6 : Blk W6 (W5.heap.size) 73 [.slice x7 bl.length c7] := by rw [hW6]; exact Blk.new _ _ _
        have sW6 : W6.heap.size = W5.heap.size + 1 := by rw [hW6]; simp
        rw [← hW6]
        clear hW6
        replace hA := bthen hA kW6
        replace iF := iF.carry kW6
        replace hq7 := hq7.carry kW6
        have i7 := iW6
        clear iW6 kW6 sW6
        have cF := iF.cell (j := 0) (v := .slice xa ls.length ca) rfl
        go_wp2_with fail
        refine (CheckFilterR_any _ ls W6 (HV.out.carry hA) (by omega)).mono ?_
        rintro e W7 ⟨rfl, hb⟩
        replace hA := bthen hA hb
        replace iF := iF.carry hb
        replace i7 := i7.carry hb
        replace hq7 := hq7.carry hb
        clear hb
        clear cF
        have cF := iF.cell (j := 0) (v := .slice xa ls.length ca) rfl
        by_cases hz : fltE ls = 0
        · rw [hz]
          obtain rfl := HST0.out hz
          go_wp2_with fail
          refine (PrintR_any _ ls W7 (HV.out.carry hA) hz).mono ?_
          rintro e W8 ⟨rfl, hb⟩
          replace hA := bthen hA hb
          replace iF := iF.carry hb
          replace i7 := i7.carry hb
          replace hq7 := hq7.carry hb
          clear hb
          clear cF hz
          go_wp2_with fail
          refine (ParseR_any s W8 (by omega)).mono ?_
          rintro e W9 ⟨hpp, hb⟩
          obtain ⟨u9, rfl, hq9⟩ := HPC.out e W9 hpp
          obtain ⟨x9, c9, rfl, _, _⟩ := id hq9
          clear hpp
          replace hA := bthen hA hb
          replace iF := iF.carry hb
          replace i7 := i7.carry hb
          replace hq7 := hq7.carry hb
          clear hb
          go_upto_region 10 with fail
          obtain ⟨V1, hV1⟩ : ∃ v, v = World.alloc W9 (Obj.cells #[.slice x9 bl.length c9] 67) := ⟨_, rfl⟩
          have kV1 : Below W9.heap.size W9 V1 := by rw [hV1]; exact below_new _ _
          have iV1 : Blk V1 (W9.heap.size) 67 [.slice x9 bl.length c9] := by rw [hV1]; exact Blk.new _ _ _
          have sV1 : V1.heap.size = W9.heap.size + 1 := by rw [hV1]; simp
          rw [← hV1]
          clear hV1
          replace hA := bthen hA kV1
          replace i7 := i7.carry kV1
          replace hq7 := hq7.carry kV1
          replace hq9 := hq9.carry kV1
          have c7 := i7.cell (j := 0) (v := .slice x7 bl.length c7) rfl
          have c9' := iV1.cell (j := 0) (v := .slice x9 bl.length c9) rfl
          clear kV1 sV1
          go_wp2_with fail
          refine (filter_ok _ _ bl V1 hq7 hq9 (by omega)).mono ?_
          rintro e V2 ⟨rfl, hb⟩
          replace hA := bthen hA hb
          clear hb
          go_wp2_with fail
          refine (TAW.out V2 (HW.out.carry hA) (HP.out.carry hA)).mono ?_
          rintro e We ⟨rfl, hb⟩
          go_wp2_with fail
          go_ret
          exact ⟨rfl, bthen hA hb⟩
        · obtain rfl := HST1.out hz
          have hzb : (fltE ls == 0) = false := by rw [beq_eq_false_iff_ne]; exact hz
          generalize fltE ls = fe at hzb hz
          obtain ⟨W8, rfl⟩ : ∃ v, v = W7 := ⟨_, rfl⟩
          clear cF
          go_wp2_with fail
          refine (ParseR_any s W8 (by omega)).mono ?_
          rintro e W9 ⟨hpp, hb⟩
          obtain ⟨u9, rfl, hq9⟩ := HPC.out e W9 hpp
          obtain ⟨x9, c9, rfl, _, _⟩ := id hq9
          clear hpp
          replace hA := bthen hA hb
          replace iF := iF.carry hb
          replace i7 := i7.carry hb
          replace hq7 := hq7.carry hb
          clear hb
          go_upto_region 10 with fail
          obtain ⟨V1, hV1⟩ : ∃ v, v = World.alloc W9 (Obj.cells #[.slice x9 bl.length c9] 67) := ⟨_, rfl⟩
          have kV1 : Below W9.heap.size W9 V1 := by rw [hV1]; exact below_new _ _
          have iV1 : Blk V1 (W9.heap.size) 67 [.slice x9 bl.length c9] := by rw [hV1]; exact Blk.new _ _ _
          have sV1 : V1.heap.size = W9.heap.size + 1 := by rw [hV1]; simp
          rw [← hV1]
          clear hV1
          replace hA := bthen hA kV1
          replace i7 := i7.carry kV1
          replace hq7 := hq7.carry kV1
          replace hq9 := hq9.carry kV1
          have c7 := i7.cell (j := 0) (v := .slice x7 bl.length c7) rfl
          have c9' := iV1.cell (j := 0) (v := .slice x9 bl.length c9) rfl
          clear kV1 sV1
          go_wp2_with fail
          refine (filter_ok _ _ bl V1 hq7 hq9 (by omega)).mono ?_
          rintro e V2 ⟨rfl, hb⟩
          replace hA := bthen hA hb
          clear hb
          go_wp2_with fail
          refine (TAW.out V2 (HW.out.carry hA) (HP.out.carry hA)).mono ?_
          rintro e We ⟨rfl, hb⟩
          go_wp2_with fail
          go_ret
          exact ⟨rfl, bthen hA hb⟩
    · have d1 : 200 < (n : Int) := by omega
      by_cases hA2 : (n : Int) = 4097
      · have d2 : ((n : Int) == 4097) = true := by simpa using hA2
        have d3 : ((n : Int) != 4097) = false := by simpa using hA2
        have cF := iF.cell (j := 0) (v := .slice xa ls.length ca) rfl
        go_wp2_with fail
        refine (given_any _ ls W2 (HV.out.carry hA) (by omega)).mono ?_
        rintro e W3 ⟨⟨u, rfl, hu⟩, hb⟩
        replace hA := bthen hA hb
        replace iF := iF.carry hb
        clear hb
        clear cF
        go_wp2_with fail
        refine (Print_any u ls W3 hu (by omega) (HP.out.carry hA)).mono ?_
        rintro e W4 ⟨rfl, hb⟩
        replace hA := bthen hA hb
        replace iF := iF.carry hb
        clear hb
        clear hu
        obtain ⟨st, hst⟩ : ∃ st, st = sOr (fltE ls) (printB ls) := ⟨_, rfl⟩
        rw [← hst]
        have HST0 := Lib.hid (fun h : fltE ls = 0 => show st = printB ls by rw [hst, sOr, if_pos h])
        have HST1 := Lib.hid (fun h : ¬ fltE ls = 0 => show st = ⟨#[]⟩ by rw [hst, sOr, if_neg h])
        clear hst
        go_wp2_with fail
        refine (Parse_any s W4 (by omega) (HM.out.carry hA)).mono ?_
        rintro e W5 ⟨hpp, hb⟩
        rcases parse_cases s.data.toList with ⟨n7, e0, he0, hpc⟩ | ⟨bl, hbl, hpc⟩
        · have HPC := Lib.hid hpc
          have HE0 := Lib.hid he0
          clear hpc he0
          obtain rfl := HPC.out e W5 hpp
          clear hpp
          replace hA := bthen hA hb
          replace iF := iF.carry hb
          clear hb
          go_upto_region 5 with fail
          obtain ⟨W6, hW6⟩ : ∃ v, v = World.alloc W5 (Obj.cells #[.slice none 0 0] 73) := ⟨_, rfl⟩
          have kW6 : Below W5.heap.size W5 W6 := by rw [hW6]; exact below_new _ _
          have iW6 : Blk W6 (W5.heap.size) 73 [.slice none 0 0] := by rw [hW6]; exact Blk.new _ _ _
          have sW6 : W6.heap.size = W5.heap.size + 1 := by rw [hW6]; simp
          rw [← hW6]
          clear hW6
          replace hA := bthen hA kW6
          replace iF := iF.carry kW6
          have i7 := iW6
          clear iW6 kW6 sW6
          have cF := iF.cell (j := 0) (v := .slice xa ls.length ca) rfl
          go_wp2_with fail
          refine (CheckFilterR_any _ ls W6 (HV.out.carry hA) (by omega)).mono ?_
          rintro e W7 ⟨rfl, hb⟩
          replace hA := bthen hA hb
          replace iF := iF.carry hb
          replace i7 := i7.carry hb
          clear hb
          clear cF
          have cF := iF.cell (j := 0) (v := .slice xa ls.length ca) rfl
          by_cases hz : fltE ls = 0
          · rw [hz]
            obtain rfl := HST0.out hz
            go_wp2_with fail
            refine (PrintR_any _ ls W7 (HV.out.carry hA) hz).mono ?_
            rintro e W8 ⟨rfl, hb⟩
            replace hA := bthen hA hb
            replace iF := iF.carry hb
            replace i7 := i7.carry hb
            clear hb
            clear cF hz
            go_wp2_with fail
            refine (ParseR_any s W8 (by omega)).mono ?_
            rintro e W9 ⟨hpp, hb⟩
            obtain rfl := HPC.out e W9 hpp
            clear hpp
            replace hA := bthen hA hb
            replace iF := iF.carry hb
            replace i7 := i7.carry hb
            clear hb
            go_upto_region 10 with fail
            obtain ⟨V1, hV1⟩ : ∃ v, v = World.alloc W9 (Obj.cells #[.slice none 0 0] 67) := ⟨_, rfl⟩
            have kV1 : Below W9.heap.size W9 V1 := by rw [hV1]; exact below_new _ _
            have iV1 : Blk V1 (W9.heap.size) 67 [.slice none 0 0] := by rw [hV1]; exact Blk.new _ _ _
            have sV1 : V1.heap.size = W9.heap.size + 1 := by rw [hV1]; simp
            rw [← hV1]
            clear hV1
            replace hA := bthen hA kV1
            replace i7 := i7.carry kV1
            have c7 := i7.cell (j := 0) (v := .slice none 0 0) rfl
            have c9' := iV1.cell (j := 0) (v := .slice none 0 0) rfl
            clear kV1 sV1
            go_wp2_with fail
            refine (filter_bad e0 HE0.out V1).mono ?_
            rintro e V2 ⟨rfl, hb⟩
            replace hA := bthen hA hb
            clear hb
            go_wp2_with fail
            refine (TAW.out V2 (HW.out.carry hA) (HP.out.carry hA)).mono ?_
            rintro e We ⟨rfl, hb⟩
            go_wp2_with fail
            go_ret
            exact ⟨rfl, bthen hA hb⟩
          · obtain rfl := HST1.out hz
            have hzb : (fltE ls == 0) = false := by rw [beq_eq_false_iff_ne]; exact hz
            generalize fltE ls = fe at hzb hz
            obtain ⟨W8, rfl⟩ : ∃ v, v = W7 := ⟨_, rfl⟩
            clear cF
            go_wp2_with fail
            refine (ParseR_any s W8 (by omega)).mono ?_
            rintro e W9 ⟨hpp, hb⟩
            obtain rfl := HPC.out e W9 hpp
            clear hpp
            replace hA := bthen hA hb
            replace iF := iF.carry hb
            replace i7 := i7.carry hb
            clear hb
            go_upto_region 10 with fail
            obtain ⟨V1, hV1⟩ : ∃ v, v = World.alloc W9 (Obj.cells #[.slice none 0 0] 67) := ⟨_, rfl⟩
            have kV1 : Below W9.heap.size W9 V1 := by rw [hV1]; exact below_new _ _
            have iV1 : Blk V1 (W9.heap.size) 67 [.slice none 0 0] := by rw [hV1]; exact Blk.new _ _ _
            have sV1 : V1.heap.size = W9.heap.size + 1 := by rw [hV1]; simp
            rw [← hV1]
            clear hV1
            replace hA := bthen hA kV1
            replace i7 := i7.carry kV1
            have c7 := i7.cell (j := 0) (v := .slice none 0 0) rfl
            have c9' := iV1.cell (j := 0) (v := .slice none 0 0) rfl
            clear kV1 sV1
            go_wp2_with fail
            refine (filter_bad e0 HE0.out V1).mono ?_
            rintro e V2 ⟨rfl, hb⟩
            replace hA := bthen hA hb
            clear hb
            go_wp2_with fail
            refine (TAW.out V2 (HW.out.carry hA) (HP.out.carry hA)).mono ?_
            rintro e We ⟨rfl, hb⟩
            go_wp2_with fail
            go_ret
            exact ⟨rfl, bthen hA hb⟩
        · have HPC := Lib.hid hpc
          clear hpc
          obtain ⟨u7, rfl, hq7⟩ := HPC.out e W5 hpp
          obtain ⟨x7, c7, rfl, _, _⟩ := id hq7
          clear hpp
          replace hA := bthen hA hb
          replace iF := iF.carry hb
          clear hb
          go_upto_region 5 with fail
          obtain ⟨W6, hW6⟩ : ∃ v, v = World.alloc W5 (Obj.cells #[.slice x7 bl.length c7] 73) := ⟨_, rfl⟩
          have kW6 : Below W5.heap.size W5 W6 := by rw [hW6]; exact below_new _ _
          have iW6 : Blk W6 (W5.heap.size) 73 [.slice x7 bl.length c7] := by rw [hW6]; exact Blk.new _ _ _
          have sW6 : W6.heap.size = W5.heap.size + 1 := by rw [hW6]; simp
          rw [← hW6]
          clear hW6
          replace hA := bthen hA kW6
          replace iF := iF.carry kW6
          replace hq7 := hq7.carry kW6
          have i7 := iW6
          clear iW6 kW6 sW6
          have cF := iF.cell (j := 0) (v := .slice xa ls.length ca) rfl
          go_wp2_with fail
          refine (CheckFilterR_any _ ls W6 (HV.out.carry hA) (by omega)).mono ?_
          rintro e W7 ⟨rfl, hb⟩
          replace hA := bthen hA hb
          replace iF := iF.carry hb
          replace i7 := i7.carry hb
          replace hq7 := hq7.carry hb
          clear hb
          clear cF
          have cF := iF.cell (j := 0) (v := .slice xa ls.length ca) rfl
          by_cases hz : fltE ls = 0
          · rw [hz]
            obtain rfl := HST0.out hz
            go_wp2_with fail
            refine (PrintR_any _ ls W7 (HV.out.carry hA) hz).mono ?_
            rintro e W8 ⟨rfl, hb⟩
            replace hA := bthen hA hb
            replace iF := iF.carry hb
            replace i7 := i7.carry hb
            replace hq7 := hq7.carry hb
            clear hb
            clear cF hz
            go_wp2_with fail
            refine (ParseR_any s W8 (by omega)).mono ?_
            rintro e W9 ⟨hpp, hb⟩
            obtain ⟨u9, rfl, hq9⟩ := HPC.out e W9 hpp
            obtain ⟨x9, c9, rfl, _, _⟩ := id hq9
            clear hpp
            replace hA := bthen hA hb
            replace iF := iF.carry hb
            replace i7 := i7.carry hb
            replace hq7 := hq7.carry hb
            clear hb
            go_upto_region 10 with fail
            obtain ⟨V1, hV1⟩ : ∃ v, v = World.alloc W9 (Obj.cells #[.slice x9 bl.length c9] 67) := ⟨_, rfl⟩
            have kV1 : Below W9.heap.size W9 V1 := by rw [hV1]; exact below_new _ _
            have iV1 : Blk V1 (W9.heap.size) 67 [.slice x9 bl.length c9] := by rw [hV1]; exact Blk.new _ _ _
            have sV1 : V1.heap.size = W9.heap.size + 1 := by rw [hV1]; simp
            rw [← hV1]
            clear hV1
            replace hA := bthen hA kV1
            replace i7 := i7.carry kV1
            replace hq7 := hq7.carry kV1
            replace hq9 := hq9.carry kV1
            have c7 := i7.cell (j := 0) (v := .slice x7 bl.length c7) rfl
            have c9' := iV1.cell (j := 0) (v := .slice x9 bl.length c9) rfl
            clear kV1 sV1
            go_wp2_with fail
            refine (filter_ok _ _ bl V1 hq7 hq9 (by omega)).mono ?_
            rintro e V2 ⟨rfl, hb⟩
            replace hA := bthen hA hb
            clear hb
            go_wp2_with fail
            refine (TAW.out V2 (HW.out.carry hA) (HP.out.carry hA)).mono ?_
            rintro e We ⟨rfl, hb⟩
            go_wp2_with fail
            go_ret
            exact ⟨rfl, bthen hA hb⟩
          · obtain rfl := HST1.out hz
            have hzb : (fltE ls == 0) = false := by rw [beq_eq_false_iff_ne]; exact hz
            generalize fltE ls = fe at hzb hz
            obtain ⟨W8, rfl⟩ : ∃ v, v = W7 := ⟨_, rfl⟩
            clear cF
            go_wp2_with fail
            refine (ParseR_any s W8 (by omega)).mono ?_
            rintro e W9 ⟨hpp, hb⟩
            obtain ⟨u9, rfl, hq9⟩ := HPC.out e W9 hpp
            obtain ⟨x9, c9, rfl, _, _⟩ := id hq9
            clear hpp
            replace hA := bthen hA hb
            replace iF := iF.carry hb
            replace i7 := i7.carry hb
            replace hq7 := hq7.carry hb
            clear hb
            go_upto_region 10 with fail
            obtain ⟨V1, hV1⟩ : ∃ v, v = World.alloc W9 (Obj.cells #[.slice x9 bl.length c9] 67) := ⟨_, rfl⟩
            have kV1 : Below W9.heap.size W9 V1 := by rw [hV1]; exact below_new _ _
            have iV1 : Blk V1 (W9.heap.size) 67 [.slice x9 bl.length c9] := by rw [hV1]; exact Blk.new _ _ _
            have sV1 : V1.heap.size = W9.heap.size + 1 := by rw [hV1]; simp
            rw [← hV1]
            clear hV1
            replace hA := bthen hA kV1
            replace i7 := i7.carry kV1
            replace hq7 := hq7.carry kV1
            replace hq9 := hq9.carry kV1
            have c7 := i7.cell (j := 0) (v := .slice x7 bl.length c7) rfl
            have c9' := iV1.cell (j := 0) (v := .slice x9 bl.length c9) rfl
            clear kV1 sV1
            go_wp2_with fail
            refine (filter_ok _ _ bl V1 hq7 hq9 (by omega)).mono ?_
            rintro e V2 ⟨rfl, hb⟩
            replace hA := bthen hA hb
            clear hb
            go_wp2_with fail
            refine (TAW.out V2 (HW.out.carry hA) (HP.out.carry hA)).mono ?_
            rintro e We ⟨rfl, hb⟩
            go_wp2_with fail
            go_ret
            exact ⟨rfl, bthen hA hb⟩
      · have d2 : ((n : Int) == 4097) = false := by simpa using hA2
        have d3 : ((n : Int) != 4097) = true := by simpa using hA2
        go_wp2_with fail
        refine (TAW.out W2 (HW.out.carry hA) (HP.out.carry hA)).mono ?_
        rintro e We ⟨rfl, hb⟩
        go_wp2_with fail
        go_ret
        exact ⟨rfl, bthen hA hb⟩
  · rw [decide_eq_false hs4]
    go_wp2_with fail
    refine (TAW.out W2 (HW.out.carry hA) (HP.out.carry hA)).mono ?_
    rintro e We ⟨rfl, hb⟩
    go_wp2_with fail
    go_ret
    exact ⟨rfl, bthen hA hb⟩
end Go.Proofs.YtoihfmndhfnmmaaGreatDoor

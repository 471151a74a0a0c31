/- The law LoopTables. -/
import Derived.Test.YtnlmaildmeihgaaGreatDoorRefT
import Derived.Test.YtnlmaildmeihgaaGreatDoorAwakeE
namespace Go.Proofs.YtnlmaildmeihgaaGreatDoor
open Go.RowKit

def shortB (t : List (List Int)) : Bool := t.all (fun l => decide (l.length ≤ 8)) && decide (t.length ≤ 6)

set_option maxHeartbeats 1000000 in
theorem ShortTable_any (v : Value) (t : List (List Int)) (w : World) (hv : RowsOf w v t) (hl : t.length ≤ maxLen) (hl2 : ∀ l ∈ t, l.length ≤ maxLen) :
    Calls Tryz.prog 73 #[v] w fun e w' => e = .returned (.bool (shortB t)) ∧ w = w' := by
  unfold maxLen at hl hl2
  obtain ⟨us, ⟨xa, xc, rfl, hcap, hcs⟩, hlen, hr⟩ := hv
  rw [hlen] at hcap hcs ⊢
  have HLEN := Lib.hid hlen
  clear hlen
  go_enter Tryz.func73, Tryz.ntmps73
  go_wp2
  go_loop [3] (fun i => ∃ k : Nat, k ≤ t.length ∧ i = .int .i64 k ∧ ∀ j l, j < k → t[j]? = some l → l.length ≤ 8) (fun i => t.length - (intOf i).toNat)
  case atStart => exact ⟨0, Nat.zero_le _, rfl, fun j l h => by omega⟩
  case round =>
    obtain ⟨k, hk, rfl, hall⟩ := hrel
    have HA := Lib.hid hall
    clear hall
    by_cases hlt : k < t.length
    · obtain ⟨b, o, rfl, hd⟩ := hcs (by omega)
      obtain ⟨l, hll⟩ : ∃ l, t[k]? = some l := ⟨_, List.getElem?_eq_getElem hlt⟩
      obtain ⟨y, hy⟩ : ∃ y, us[k]? = some y := ⟨_, List.getElem?_eq_getElem (by rw [HLEN.out]; exact hlt)⟩
      have iy := hr k y l hy hll
      have cy := hd k y hy
      have hlb := hl2 l (List.mem_of_getElem? hll)
      obtain ⟨ya, yc, rfl, _⟩ := iy
      have HLL := Lib.hid hll
      clear hcs hd hr hy hll
      by_cases h8 : 8 < l.length
      · have HN := Lib.hid (show shortB t = false by
          unfold shortB
          have : t.all (fun l => decide (l.length ≤ 8)) = false := by
            rw [List.all_eq_false]
            exact ⟨l, List.mem_of_getElem? HLL.out, by simp; omega⟩
          rw [this]; rfl)
        have d1 : (8 : Int) < (l.length : Int) := by omega
        go_wp2
        go_ret
        exact ⟨ret_bool HN.out.symm, rfl⟩
      · have d1 : ¬ (8 : Int) < (l.length : Int) := by omega
        have HA2 : Hid (∀ j l', j < k + 1 → t[j]? = some l' → l'.length ≤ 8) := Lib.hid fun j l' hj hl' => by
          rcases Nat.lt_or_ge j k with h | h
          · exact HA.out j l' h hl'
          · obtain rfl : j = k := by omega
            rw [HLL.out] at hl'
            cases hl'
            omega
        go_wp2
        go_round
        case rel => exact ⟨k + 1, by omega, by go_num, HA2.out⟩
        case measure => simp [intOf]; omega
    · obtain rfl : k = t.length := by omega
      have HN := Lib.hid (show shortB t = decide (t.length ≤ 6) by
        unfold shortB
        have : t.all (fun l => decide (l.length ≤ 8)) = true := by
          rw [List.all_eq_true]
          intro l hl
          obtain ⟨j, hj⟩ := List.mem_iff_getElem?.1 hl
          simpa using HA.out j l (List.getElem?_eq_some_iff.1 hj).1 hj
        rw [this]; rfl)
      by_cases h6 : t.length ≤ 6
      · have d1 : ((t.length : Int) ≤ 6) := by omega
        have HN2 := Lib.hid (HN.out.trans (decide_eq_true h6))
        go_wp2
        go_ret
        exact ⟨ret_bool HN2.out.symm, rfl⟩
      · have d1 : ¬ ((t.length : Int) ≤ 6) := by omega
        have HN2 := Lib.hid (HN.out.trans (decide_eq_false h6))
        go_wp2
        go_ret
        exact ⟨ret_bool HN2.out.symm, rfl⟩

set_option maxHeartbeats 1000000 in
theorem CheckTableR_any (v vt : Value) (p : List Int) (t : List (List Int)) (w : World) (hv : Ints w v p) (ht : RowsOf w vt t) (hl : p.length ≤ 100000) (hl1 : t.length ≤ 100000) (hl2 : ∀ l ∈ t, l.length ≤ 100000) :
    Calls Tryz.prog 81 #[v, vt] w fun e w' => e = .returned (.int .i64 (checkTableE p t)) ∧ Below w.heap.size w w' := by
  have HV := Lib.hid hv
  have HT := Lib.hid ht
  have TP := CheckPolyR_any v p w hv (by omega)
  obtain ⟨a, cap, rfl, _⟩ := hv
  by_cases hc : checkPolyE p = 0
  · have HR := Lib.hid (show checkTableE p t = whenE (!decide (tableW p = t) || !stableB p) 19 by rw [checkTableE, if_neg (by rw [hc]; simp)])
    rw [hc] at TP
    clear hc
    go_enter Tryz.func81, Tryz.ntmps81
    go_wp2_with fail
    refine (TP).mono ?_
    rintro e w' ⟨rfl, rfl⟩
    go_wp2_with fail
    refine (TableR_any _ p w HV.out hl).mono ?_
    rintro e w1 ⟨⟨u, rfl, hu⟩, hb1⟩
    go_wp2_with fail
    refine (SameRows_any vt u t (tableW p) w1 (HT.out.carry hb1) hu (by omega) (fun l h => by have := hl2 l h; omega)).mono ?_
    rintro e w2 ⟨rfl, hb2⟩
    have hB2 := bthen hb1 hb2
    by_cases he : t = tableW p
    · have HD := Lib.hid (show decide (tableW p = t) = true by simpa using he.symm)
      have hd : decide (t = tableW p) = true := by simpa using he
      rw [hd]
      clear he hd
      go_wp2_with fail
      refine (StableR_any _ p w2 (HV.out.carry hB2) hl).mono ?_
      rintro e w3 ⟨rfl, hb3⟩
      have HR2 := Lib.hid (show checkTableE p t = whenE (!stableB p) 19 by rw [HR.out, HD.out]; simp)
      generalize stableB p = s at HR2
      cases s
      · go_wp2
        go_ret
        exact ⟨ret_int (by rw [HR2.out]; rfl), bthen hB2 hb3⟩
      · go_wp2
        go_ret
        exact ⟨ret_int (by rw [HR2.out]; rfl), bthen hB2 hb3⟩
    · have HD := Lib.hid (show decide (tableW p = t) = false by simpa using fun h => he h.symm)
      have hd : decide (t = tableW p) = false := by simpa using he
      rw [hd]
      clear he hd
      go_wp2
      go_ret
      exact ⟨ret_int (by rw [HR.out, HD.out]; rfl), hB2⟩
  · have HR := Lib.hid (show checkTableE p t = checkPolyE p by rw [checkTableE, if_pos hc])
    go_enter Tryz.func81, Tryz.ntmps81
    go_wp2_with fail
    refine (TP).mono ?_
    rintro e w' ⟨rfl, rfl⟩
    go_wp2
    go_ret
    exact ⟨ret_int HR.out.symm, Below.refl _ _⟩

set_option maxRecDepth 100000 in
set_option maxHeartbeats 4000000 in
theorem tab_law (v vt : Value) (p : List Int) (t : List (List Int)) (w : World) (hq : Quarters w) (hpw : Pows w) (hp : Ints w v p) (ht : RowsOf w vt t) (hl1 : t.length ≤ maxLen) (hl2 : ∀ l ∈ t, l.length ≤ maxLen) :
    Calls Tryz.prog 14 #[v, vt] w fun e w' => e = .returned (.bool true) ∧ Below w.heap.size w w' := by
  have HP := Lib.hid hp
  have HT := Lib.hid ht
  have TA := Lib.hid (awake_any w hq hpw)
  have TS := Lib.hid (ShortTable_any vt t w ht hl1 hl2)
  obtain ⟨ap, cp, rfl, _⟩ := hp
  by_cases h1 : 7 < p.length
  · have h1' : (7 : Int) < (p.length : Int) := by omega
    go_enter Tryz.func14, Tryz.ntmps14
    go_wp2_with fail
    refine TA.out.mono ?_
    rintro e w1 ⟨rfl, hb⟩
    go_wp2
    go_ret
    exact ⟨rfl, hb⟩
  · have h1' : ¬ (7 : Int) < (p.length : Int) := by omega
    go_enter Tryz.func14, Tryz.ntmps14
    go_wp2_with fail
    refine (TS.out).mono ?_
    rintro e w' ⟨rfl, rfl⟩
    by_cases hs : shortB t = true
    · rw [hs]
      have ht6 : t.length ≤ 6 ∧ ∀ l ∈ t, l.length ≤ 8 := by
        unfold shortB at hs
        rw [Bool.and_eq_true] at hs
        exact ⟨by simpa using hs.2, fun l hl => by simpa using List.all_eq_true.1 hs.1 l hl⟩
      obtain ⟨ht6, ht8⟩ := ht6
      clear hs TA TS
      go_wp2_with fail
      refine (polyL_any _ p w HP.out (by omega)).mono ?_
      rintro e w1 ⟨⟨u1, rfl, hu1⟩, hb1⟩
      go_wp2_with fail
      refine (Table_any u1 p w1 hu1 (by omega)).mono ?_
      rintro e w2 ⟨⟨ux, rfl, hux⟩, hb2⟩
      have hB2 := bthen hb1 hb2
      go_wp2_with fail
      refine (polyL_any _ p w2 (HP.out.carry hB2) (by omega)).mono ?_
      rintro e w3 ⟨⟨u3, rfl, hu3⟩, hb3⟩
      have hB3 := bthen hB2 hb3
      go_wp2_with fail
      refine (Stable_any u3 p w3 hu3 (by omega)).mono ?_
      rintro e w4 ⟨rfl, hb4⟩
      have hB4 := bthen hB3 hb4
      go_wp2_with fail
      refine (polyL_any _ p w4 (HP.out.carry hB4) (by omega)).mono ?_
      rintro e w5 ⟨⟨u5, rfl, hu5⟩, hb5⟩
      have hB5 := bthen hB4 hb5
      go_wp2_with fail
      refine (tableL_any vt t w5 (HT.out.carry hB5) (by omega) (fun l h => by have := ht8 l h; omega)).mono ?_
      rintro e w6 ⟨⟨u6, rfl, hu6⟩, hb6⟩
      have hB6 := bthen hB5 hb6
      go_wp2_with fail
      refine (CheckTable_any u5 u6 p t w6 (hu5.carry hb6) hu6 (by omega)).mono ?_
      rintro e w7 ⟨rfl, hb7⟩
      have hB7 := bthen hB6 hb7
      have hux7 := ((((hux.carry hb3).carry hb4).carry hb5).carry hb6).carry hb7
      go_wp2_with fail
      refine (CheckPolyR_any _ p w7 (HP.out.carry hB7) (by omega)).mono ?_
      rintro e w8 ⟨rfl, rfl⟩
      clear hux hu1 hu3 hu5 hu6 hb1 hb2 hb3 hb4 hb5 hb6 hb7 hB2 hB3 hB4 hB5 hB6
      by_cases hc : checkPolyE p = 0
      · have hTR : tableR p = tableW p := by rw [tableR, if_neg (by rw [hc]; simp)]
        have hSR : stableR p = stableB p := by rw [stableR, if_neg (by rw [hc]; simp)]
        have hTl : (tableW p).length ≤ p.length := tableL_length p.length p
        have hTm : ∀ l ∈ tableW p, l.length ≤ 1000000 := fun l h => by have := table_mem h; omega
        rw [hTR] at hux7
        rw [hSR, hc]
        clear hTR hSR hc
        go_wp2_with fail
        refine (TableR_any _ p w7 (HP.out.carry hB7) (by omega)).mono ?_
        rintro e w9 ⟨⟨u9, rfl, hu9⟩, hb9⟩
        have hB9 := bthen hB7 hb9
        go_wp2_with fail
        refine (StableR_any _ p w9 (HP.out.carry hB9) (by omega)).mono ?_
        rintro e wa ⟨rfl, hba⟩
        have hBa := bthen hB9 hba
        go_wp2_with fail
        refine (rowsL_any ux _ wa ((hux7.carry hb9).carry hba) (by omega) hTm).mono ?_
        rintro e wb ⟨⟨ub, rfl, hub⟩, hbb⟩
        have hBb := bthen hBa hbb
        go_wp2_with fail
        refine (sameRows ub u9 _ wb hub ((hu9.carry hba).carry hbb) (by omega) hTm).mono ?_
        rintro e wc ⟨rfl, hbc⟩
        have hBc := bthen hBb hbc
        generalize stableB p = s
        go_wp2_with fail
        refine (CheckTableR_any _ vt p t wc (HP.out.carry hBc) (HT.out.carry hBc) (by omega) (by omega) (fun l h => by have := ht8 l h; omega)).mono ?_
        rintro e wd ⟨rfl, hbd⟩
        have hBd := bthen hBc hbd
        go_wp2_with fail
        refine (awake_any wd (hq.below hBd hq.size) (hpw.below hBd)).mono ?_
        rintro e we ⟨rfl, hbe⟩
        go_wp2
        go_ret
        exact ⟨rfl, bthen hBd hbe⟩
      · have hTR : tableR p = [] := by rw [tableR, if_pos hc]
        have hSR : stableR p = false := by rw [stableR, if_pos hc]
        have z1 : (checkPolyE p == 0) = false := by rw [beq_eq_false_iff_ne]; exact hc
        rw [hTR] at hux7
        rw [hSR]
        clear hTR hSR hc
        go_wp2_with fail
        refine (rowsL_any ux _ w7 hux7 (by simp) (by simp)).mono ?_
        rintro e wb ⟨⟨ub, rfl, hub⟩, hbb⟩
        have hBb := bthen hB7 hbb
        go_wp2_with fail
        refine (sameRows ub _ [] wb hub (RowsOf.nil _) (by simp) (by simp)).mono ?_
        rintro e wc ⟨rfl, hbc⟩
        have hBc := bthen hBb hbc
        go_wp2_with fail
        refine (CheckTableR_any _ vt p t wc (HP.out.carry hBc) (HT.out.carry hBc) (by omega) (by omega) (fun l h => by have := ht8 l h; omega)).mono ?_
        rintro e wd ⟨rfl, hbd⟩
        have hBd := bthen hBc hbd
        go_wp2_with fail
        refine (awake_any wd (hq.below hBd hq.size) (hpw.below hBd)).mono ?_
        rintro e we ⟨rfl, hbe⟩
        go_wp2
        go_ret
        exact ⟨rfl, bthen hBd hbe⟩
    · have hs' : shortB t = false := by simpa using hs
      rw [hs']
      clear hs hs'
      go_wp2_with fail
      refine TA.out.mono ?_
      rintro e w1 ⟨rfl, hb⟩
      go_wp2
      go_ret
      exact ⟨rfl, hb⟩

end Go.Proofs.YtnlmaildmeihgaaGreatDoor

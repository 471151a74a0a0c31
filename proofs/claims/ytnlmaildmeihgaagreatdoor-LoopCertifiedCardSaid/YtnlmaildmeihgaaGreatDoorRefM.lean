/- The reference's Strength. -/
import Derived.Test.YtnlmaildmeihgaaGreatDoorRefL
namespace Go.Proofs.YtnlmaildmeihgaaGreatDoor
open Go.RowKit

theorem upto_map (f : Int → Int) (l : List Int) : upto (fun j => f (l[j]?.getD 0)) l.length = l.map f := by
  apply List.ext_getElem (by rw [upto_length, List.length_map])
  intro k h1 h2
  have hk : k < l.length := by rw [upto_length] at h1; exact h1
  simp [upto, List.getElem?_eq_getElem hk]

set_option maxRecDepth 100000 in
set_option maxHeartbeats 8000000 in
theorem StrengthR_any (va vb vc vd : Value) (a b c d : List Int) (most : Int) (w : World) (ha : Ints w va a) (hb : Ints w vb b) (hc : Ints w vc c) (hd : Ints w vd d)
    (ha2 : a.length ≤ 100000) (hb2 : b.length ≤ 100000) (hc2 : c.length ≤ 100000) (hd2 : d.length ≤ 100000) :
    Calls Tryz.prog 31 #[.agg #[va, vb, vc, vd], .int .i64 most] w fun e w' => e = .returned (.tuple #[.int .i64 (strengthRE a b c d most).1, .int .i64 (strengthRE a b c d most).2]) ∧ Below w.heap.size w w' := by
  have HA := Lib.hid ha
  have HB := Lib.hid hb
  have HC := Lib.hid hc
  have HD := Lib.hid hd
  obtain ⟨xa, ca, rfl, _⟩ := id ha
  obtain ⟨xb, cb, rfl, _⟩ := id hb
  obtain ⟨xc, cc, rfl, _⟩ := id hc
  obtain ⟨xd, cd, rfl, _⟩ := id hd
  clear ha hb hc hd
  obtain ⟨i0, hi, hz0, hz1, hz2⟩ := info_parts Tryz.infoInt
  go_enter Tryz.func31, Tryz.ntmps31
  go_upto_region 1 with fail
  obtain ⟨W1, hW1⟩ : ∃ v, v = World.alloc w (Obj.cells #[.slice xa a.length ca, .slice xb b.length cb, .slice xc c.length cc, .slice xd d.length cd] 40) := ⟨_, rfl⟩
  have kW1 : Below w.heap.size w W1 := by rw [hW1]; exact below_new _ _
  have iW1 : Blk W1 (w.heap.size) 40 [.slice xa a.length ca, .slice xb b.length cb, .slice xc c.length cc, .slice xd d.length cd] := by rw [hW1]; exact Blk.new _ _ _
  have sW1 : W1.heap.size = w.heap.size + 1 := by rw [hW1]; simp
  rw [← hW1]
  clear hW1
  clear sW1
  have e0 := iW1.cell (j := 0) (v := .slice xa a.length ca) rfl
  have e1 := iW1.cell (j := 1) (v := .slice xb b.length cb) rfl
  have e2 := iW1.cell (j := 2) (v := .slice xc c.length cc) rfl
  have e3 := iW1.cell (j := 3) (v := .slice xd d.length cd) rfl
  go_wp2_with fail
  clear e0 e1 e2 e3
  refine (CheckLoopR_any _ _ _ _ a b c d W1 (HA.out.carry kW1) (HB.out.carry kW1) (HC.out.carry kW1) (HD.out.carry kW1) ha2 hb2 hc2 hd2).mono ?_
  rintro e w2 ⟨rfl, h2⟩
  go_wp2_with fail
  refine (CheckRange_any _ _ _ _).mono ?_
  rintro e w9 ⟨rfl, rfl⟩
  go_wp2_with fail
  obtain ⟨V, hV⟩ : ∃ v, v = World.alloc w2 (Obj.cells #[.int .i64 (checkLoopE a b c d), .int .i64 (withinE most 1 20)] 3) := ⟨_, rfl⟩
  have kV : Below w2.heap.size w2 V := by rw [hV]; exact below_new _ _
  have iV : Blk V (w2.heap.size) 3 [.int .i64 (checkLoopE a b c d), .int .i64 (withinE most 1 20)] := by rw [hV]; exact Blk.new _ _ _
  have sV : V.heap.size = w2.heap.size + 1 := by rw [hV]; simp
  rw [← hV]
  clear hV
  clear sV
  have hV := bthen kW1 (bthen h2 kV)
  have z := (iW1.carry h2).carry kV
  have v2 := BlkI.ints (n := 2) (l := [checkLoopE a b c d, withinE most 1 20]) iV rfl
  refine (FirstR_any _ _ V (by simp) v2).mono ?_
  rintro e w9 ⟨rfl, rfl⟩
  have hE : firstE [checkLoopE a b c d, withinE most 1 20] = str1E a b c d most := rfl
  rw [hE]
  clear h2 kV iV kW1 iW1 v2 hE
  by_cases he : str1E a b c d most = 0
  · obtain ⟨e1, e2⟩ := firstE_cons_ok (show firstE [checkLoopE a b c d, withinE most 1 20] = 0 from he)
    obtain ⟨e2, _⟩ := firstE_cons_ok e2
    obtain ⟨m1, m2⟩ := withinE_ok e2
    obtain ⟨⟨a1, a5⟩, ⟨bb1, b5⟩, ⟨c1, c5⟩, ⟨d1, d5⟩⟩ := checkLoopE_len e1
    have HR := Lib.hid (show strengthRE a b c d most = strL a b c d most.toNat 1 by rw [strengthRE, if_neg (by rw [he]; simp)])
    rw [he]
    clear he e1 e2
    obtain ⟨ba, oa, ca', hxa, hac⟩ := HA.out.head (by omega)
    cases hxa
    go_wp2
    go_loopw [7] (fun v7 wr => ∃ (k : Nat), v7 = .int .i64 (1 + k) ∧ (k : Int) ≤ most ∧ Below V.heap.size V wr ∧ strL a b c d most.toNat 1 = strL a b c d (most.toNat - k) (1 + k)) (fun v7 _ => (most + 1 - intOf v7).toNat)
    case atStart => exact ⟨0, rfl, by omega, Below.refl _ _, rfl⟩
    case round =>
      obtain ⟨k, rfl, hk, hbr, hst⟩ := hrel
      have zr := z.carry hbr
      have hbw := bthen hV hbr
      have HST := Lib.hid hst
      clear hst
      by_cases hle : 1 + (k : Int) ≤ most
      · obtain ⟨f, hf⟩ : ∃ f, most.toNat - k = f + 1 := ⟨most.toNat - k - 1, by omega⟩
        have HF := Lib.hid hf
        clear hf
        obtain ⟨n, hn⟩ : ∃ n : Int, n = 1 + k := ⟨_, rfl⟩
        have HN := Lib.hid hn
        rw [← hn] at hle ⊢
        have n1 : 1 ≤ n := by omega
        have n20 : n ≤ 20 := by omega
        clear hn
        obtain ⟨wo, rfl⟩ : ∃ v, v = wr := ⟨_, rfl⟩
        go_wp2
        go_loopw [8, 9] (fun v8 v9 wr => ∃ j : Nat, j ≤ a.length ∧ v9 = .int .i64 j ∧ OwnI 3 wo.heap.size wr v8 (upto (fun j => wrap64 (n * a[j]?.getD 0)) j) ∧ Below wo.heap.size wo wr) (fun _ v9 _ => a.length - (intOf v9).toNat)
        case atStart => exact ⟨0, Nat.zero_le _, rfl, World.ownsRow_nil _ _ _ _, Below.refl _ _⟩
        case round =>
          obtain ⟨j, hj, rfl, hown, hbi⟩ := hrel
          have zi := zr.carry hbi
          have e0 := zi.cell (j := 0) (v := .slice (some ⟨ba, oa, none⟩) a.length ca) rfl
          have hU : upto (fun j => wrap64 (n * a[j]?.getD 0)) (j + 1) = upto (fun j => wrap64 (n * a[j]?.getD 0)) j ++ [wrap64 (n * a[j]?.getD 0)] := upto_succ _ _
          have hUl : (upto (fun j => wrap64 (n * a[j]?.getD 0)) j).length = j := upto_length _ _
          by_cases hlt : j < a.length
          · have cA := cellb (hac j hlt) (bthen hbw hbi)
            have d1 : (j : Int) < (a.length : Int) := by omega
            generalize a[j]?.getD 0 = x at cA hU
            generalize hl0 : upto (fun j => wrap64 (n * a[j]?.getD 0)) j = L at hown hU hUl
            have HU := Lib.hid hU
            have HUL := Lib.hid hUl
            have hsz := hbi.size
            clear hl0 hU hUl
            go_wp2_with (at_builtin; refine wpList_append_own _ rfl _ _ 22 rfl wo.heap.size 3 i0 (.int .i64 0) 1 8 Tryz.underlying22 hi hz0 hz1 hz2 rfl (by decide) _ _ _ rfl (hown.alloc _) ⟨wr.heap.size, 0, none⟩ 1 1 [.int .i64 (wrap64 (n * x))] rfl rfl (cell_one_new _ _ _) (by simp [Value.oneCell']) (by unfold maxLen; have := HUL.out; omega) (by have := HUL.out; omega) (by simp; omega) ?_; intro v' w5 hown5 hgrow5 _)
            have hb5 := below_own hbi hown hgrow5
            have hn5 : OwnI 3 wo.heap.size w5 v' (upto (fun j => wrap64 (n * a[j]?.getD 0)) (j + 1)) := by
              rw [HU.out]; unfold OwnI; rw [List.length_append, List.map_append]; exact hown5
            clear e0
            go_wp2
            go_roundw
            case rel => exact ⟨j + 1, by omega, by go_num, hn5, hb5⟩
            case measure => simp [intOf]; omega
          · obtain rfl : j = a.length := by omega
            rw [show upto (fun j => wrap64 (n * a[j]?.getD 0)) a.length = a.map (fun x => wrap64 (n * x)) from upto_map (fun x => wrap64 (n * x)) a] at hown
            have hu := hown.ints
            clear hown hU hUl
            have e1 := zi.cell (j := 1) (v := .slice xb b.length cb) rfl
            have e2 := zi.cell (j := 2) (v := .slice xc c.length cc) rfl
            have e3 := zi.cell (j := 3) (v := .slice xd d.length cd) rfl
            have hbw2 := bthen hbw hbi
            have hbv2 := bthen hbr hbi
            have hP : closedW (a.map fun x => wrap64 (n * x)) b c d = strP a b c d n := rfl
            have hsl : (strP a b c d n).length ≤ 100000 := by
              have := closedW_length (a.map fun x => wrap64 (n * x)) b c d
              simp only [List.length_map] at this
              unfold strP; omega
            go_wp2_with fail
            have tc := ClosedR_any _ _ _ _ _ a b c d (a.map fun x => wrap64 (n * x)) wr (HA.out.carry hbw2) (HB.out.carry hbw2) (HC.out.carry hbw2) (HD.out.carry hbw2) hu bb1 c1 d1 (by simp; omega) (by omega) (by omega) (by omega) (by simp; omega)
            rw [hP] at tc
            refine tc.mono ?_
            clear tc hP hu e0 e1 e2 e3
            rintro e w3 ⟨⟨u3, rfl, hu3⟩, hl⟩
            replace hbw2 := bthen hbw2 hl
            replace hbv2 := bthen hbv2 hl
            clear hl
            go_wp2_with fail
            refine (largeR_any u3 _ w3 hu3 (by omega)).mono ?_
            rintro e w4 ⟨rfl, rfl⟩
            by_cases hg : (strP a b c d n).any largeB = true
            · have HR2 := Lib.hid (show strL a b c d most.toNat 1 = (0, 4) by rw [HST.out, HF.out, ← HN.out, strL, if_pos hg])
              rw [largeE, if_pos hg]
              clear hg
              go_wp2
              go_ret2
              exact ⟨by rw [HR.out, HR2.out]; rfl, hbw2⟩
            · rw [largeE, if_neg hg]
              by_cases hs : stableB (strP a b c d n) = true
              · have HR2 := Lib.hid (show strL a b c d most.toNat 1 = strL a b c d (most.toNat - (k + 1)) (1 + ((k + 1 : Nat) : Int)) by
                  rw [HST.out, HF.out, ← HN.out, strL, if_neg hg, if_pos hs, show most.toNat - (k + 1) = f from by have := HF.out; omega, show n + 1 = 1 + ((k + 1 : Nat) : Int) from by have := HN.out; omega])
                have ts := StableR_any u3 _ w3 hu3 hsl
                rw [hs] at ts
                have TS := Lib.hid ts
                clear hg hs ts
                go_wp2_with fail
                refine TS.out.mono ?_
                rintro e w5 ⟨rfl, hl⟩
                replace hbv2 := bthen hbv2 hl
                go_wp2
                go_roundw
                case rel => exact ⟨k + 1, by have := HN.out; go_num, by have := HN.out; omega, hbv2, HR2.out⟩
                case measure => have := HN.out; simp [intOf]; omega
              · have hs' : stableB (strP a b c d n) = false := by simpa using hs
                have HR2 := Lib.hid (show strL a b c d most.toNat 1 = (n, 0) by rw [HST.out, HF.out, ← HN.out, strL, if_neg hg, if_neg hs])
                have ts := StableR_any u3 _ w3 hu3 hsl
                rw [hs'] at ts
                have TS := Lib.hid ts
                clear hg hs hs' ts
                go_wp2_with fail
                refine TS.out.mono ?_
                rintro e w5 ⟨rfl, hl⟩
                go_wp2
                go_ret2
                exact ⟨by rw [HR.out, HR2.out]; rfl, bthen hbw2 hl⟩
      · have hk2 : (k : Int) = most := by omega
        have HR2 := Lib.hid (show strL a b c d most.toNat 1 = (0, 7) by rw [HST.out, show most.toNat - k = 0 from by omega, strL])
        clear hk2
        go_wp2
        go_ret2
        exact ⟨by rw [HR.out, HR2.out]; rfl, hbw⟩
  · have HR := Lib.hid (show strengthRE a b c d most = (0, str1E a b c d most) by rw [strengthRE, if_pos he])
    generalize str1E a b c d most = se at he HR ⊢
    go_wp2
    go_ret2
    exact ⟨by rw [HR.out]; rfl, hV⟩

end Go.Proofs.YtnlmaildmeihgaaGreatDoor

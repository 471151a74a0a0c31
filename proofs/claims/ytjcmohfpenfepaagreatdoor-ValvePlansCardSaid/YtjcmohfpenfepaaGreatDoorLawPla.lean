/- The law ValvePlans. -/
import Derived.Test.YtjcmohfpenfepaaGreatDoorVlF
import Derived.Test.YtjcmohfpenfepaaGreatDoorOrdJ
import Derived.Test.YtjcmohfpenfepaaGreatDoorVcN
import Derived.Test.YtjcmohfpenfepaaGreatDoorVmD
import Derived.Test.YtjcmohfpenfepaaGreatDoorVmF
namespace Go.Proofs.YtjcmohfpenfepaaGreatDoor
set_option linter.unusedSimpArgs false
set_option linter.unusedVariables false
open Go.RowKit
theorem toldJ {P : Program} {f : FuncId} {args : Array Value} {w : World} {S R : Value → World → Prop} (h : Calls P f args w fun r w' => (∃ u, r = .returned u ∧ S u w') ∧ Below w.heap.size w w') (hc : ∀ u w', S u w' → R u w') :
 Calls P f args w (fun e w'' => ∃ v, e = .returned v ∧ R v w'' ∧ Ext w w'') :=
 h.mono fun _ _ ⟨⟨u, hu, hs⟩, hb⟩ => ⟨u, hu, hc _ _ hs, hb⟩
theorem delE_ok {ds : List P2} (h : delE ds = 0) : ds.length ≤ 64 ∧ eachE delG ds = 0 := by
 unfold delE at h
 split at h
 ·cases h
 ·exact ⟨by omega, h⟩
theorem firstE_one (x : Int) (l : List Int) (h : x ≠ 0) : firstE (x :: l) = x := by unfold firstE; rw [if_neg h]
theorem firstE_two (x y : Int) (h : x = 0) : firstE [x, y] = y := by
 subst h
 unfold firstE firstE firstE
 rw [if_pos rfl]
 split
 ·next h => exact h.symm
 ·rfl
structure PlaBad (ms : List Mo) (os : List I3) (pl ql : List Int) : Prop where
 c : cplE ms os pl = bothE ms os
 p : planE ms os = bothE ms os
 pr : planR ms os = []
 pc : planC ms os = 0
 r : priE ms os = bothE ms os
 rr : priR ms os = []
 s : prE ms os ql = bothE ms os
 sr : prR ms os ql = 0
theorem pla_bad {ms : List Mo} {os : List I3} (pl ql : List Int) (h : bothE ms os ≠ 0) : PlaBad ms os pl ql := by
 have e1 : priE ms os = bothE ms os := by unfold priE; rw [if_neg h]
 have e0 : prE1 ms os ql = bothE ms os := by unfold prE1; exact firstE_one _ _ h
 have e2 : prE ms os ql = bothE ms os := by unfold prE; rw [e0, if_neg h]
 exact ⟨by unfold cplE; rw [if_neg h], by unfold planE; rw [if_neg h], by unfold planR; rw [if_neg h], by unfold planC; rw [if_neg h], e1, by unfold priR; rw [e1, if_neg h], e2, by unfold prR; rw [e2, if_neg h]⟩
theorem pla_five (ms : List Mo) (os : List I3) (pl : List Int) (ds : List P2) : firstE [cplE ms os pl, delE ds] = sprE ms os pl ds := by
 by_cases h : bothE ms os = 0
 ·have ec : cplE ms os pl = plnE ms os pl := by unfold cplE; rw [if_pos h]
  unfold sprE
  rw [ec, if_pos h]
  unfold sprE2
  by_cases hp : plnE ms os pl = 0
  ·rw [firstE_two _ _ hp, firstE_two _ _ hp]
   unfold delE
   by_cases hd : 64 < ds.length
   ·have e : decide (64 < (ds.length : Int)) = true := decide_eq_true (by omega)
    rw [if_pos hd, e]; rfl
   ·have e : decide (64 < (ds.length : Int)) = false := decide_eq_false (by omega)
    rw [if_neg hd, e]; rfl
  ·rw [firstE_one _ _ hp, firstE_one _ _ hp, if_neg hp]
 ·have ec : cplE ms os pl = bothE ms os := by unfold cplE; rw [if_neg h]
  rw [ec, firstE_one _ _ h]
  unfold sprE
  rw [if_neg h]
theorem pla_one {ms : List Mo} {os : List I3} {pl : List Int} (h : cplE ms os pl = 0) : bothE ms os = 0 ∧ plnE ms os pl = 0 ∧ cplR ms os pl = costL os pl := by
 have hb : bothE ms os = 0 := by
  by_cases hb : bothE ms os = 0
  ·exact hb
  ·unfold cplE at h; rw [if_neg hb] at h; exact absurd h hb
 refine ⟨hb, ?_, by unfold cplR; rw [if_pos h]⟩
 unfold cplE at h
 rwa [if_pos hb] at h
theorem pla_spr {ms : List Mo} {os : List I3} {pl : List Int} {ds : List P2} (h : sprE ms os pl ds = 0) : bothE ms os = 0 ∧ (∀ x ∈ pl, 0 ≤ x) ∧ ds.length ≤ 64 ∧ (∀ d ∈ ds, 1 ≤ d.2 ∧ d.2 ≤ 100) ∧ sprR ms os pl ds = sprK os pl ds os.length := by
 have e := pla_five ms os pl ds
 rw [h] at e
 obtain ⟨h1, h2⟩ := firstE_cons_ok e
 obtain ⟨h2, -⟩ := firstE_cons_ok h2
 obtain ⟨hb, hp, -⟩ := pla_one h1
 obtain ⟨h3, h4⟩ := delE_ok h2
 exact ⟨hb, (plnE_iff.1 hp).pos, h3, fun d hd => (delG_ok h4 d hd).2, by unfold sprR; rw [if_pos h]⟩
theorem planR_len (ms : List Mo) (os : List I3) : (planR ms os).length ≤ ms.length := by
 unfold planR planO
 split
 ·cases h : betO os (plansL ms os) with
  | none => simp
  | some y => have := (plansL_mem (betO_mem h)).2.1; simp [this]
 ·simp
theorem priR_len (ms : List Mo) (os : List I3) : (priR ms os).length ≤ ms.length := by
 unfold priR
 split
 ·rw [priK_len]; exact Nat.le_refl _
 ·simp
set_option maxRecDepth 100000 in
set_option maxHeartbeats 32000000 in
theorem pla_law (TA : ∀ W, Pows W → Heads W → Calls Tryz.prog 6 #[] W fun e w' => e = .returned (.bool true) ∧ Below W.heap.size W w')
 (v0 v1 vp vq vd : Value) (ms : List Mo) (os : List I3) (pl ql : List Int) (ds : List P2) (w : World) (hp : Pows w) (hh : Heads w) (hv0 : Rw 4 mV w v0 ms) (hv1 : Rw 3 iV w v1 os) (hvp : Ints w vp pl) (hvq : Ints w vq ql) (hvd : Prs w vd ds)
 (hml : ms.length ≤ maxLen) :
 Calls Tryz.prog 4 #[v0, v1, .agg #[vp, vq, vd]] w fun e w' => e = .returned (.bool true) ∧ Below w.heap.size w w' := by
 have TA := Lib.hid TA
 obtain ⟨a1, p1, hve, hvc1⟩ := hv0.slice
 obtain ⟨NM, hNM⟩ : ∃ N, N = ms.length := ⟨_, rfl⟩
 rw [← hNM] at hve hvc1 hml
 subst hve
 obtain ⟨a2, p2, hve, hvc2⟩ := hv1.slice
 obtain ⟨NO, hNO⟩ : ∃ N, N = os.length := ⟨_, rfl⟩
 rw [← hNO] at hve hvc2
 subst hve
 obtain ⟨pa, pc, hve, -⟩ := id hvp
 obtain ⟨NP, hNP⟩ : ∃ N, N = pl.length := ⟨_, rfl⟩
 rw [← hNP] at hve
 subst hve
 obtain ⟨qa, qc, hve, -⟩ := id hvq
 obtain ⟨NQ, hNQ⟩ : ∃ N, N = ql.length := ⟨_, rfl⟩
 rw [← hNQ] at hve
 subst hve
 obtain ⟨da, dc, hve, -⟩ := hvd.slice
 obtain ⟨ND, hND⟩ : ∃ N, N = ds.length := ⟨_, rfl⟩
 rw [← hND] at hve
 subst hve
 have HNM0 := Lib.hid hNM
 have T1 := Lib.hid (fun W (h : Rw 4 mV W (.slice a1 NM p1) ms) => ShortModules_any (.slice a1 NM p1) ms W (by rw [← HNM0.out]; exact hml) h)
 have T2 := Lib.hid (fun W => ShortOutages_any a2 NO p2 W)
 have T3 := Lib.hid (fun W => ShortDeliveries_any da ND dc W)
 have HP := Lib.hid hp
 have HH := Lib.hid hh
 have HA := Lib.hid hv0
 have HO := Lib.hid hv1
 have HPl := Lib.hid hvp
 have HQl := Lib.hid hvq
 have HD := Lib.hid hvd
 have HNM := Lib.hid hNM
 have HNO := Lib.hid hNO
 have HNP := Lib.hid hNP
 have HNQ := Lib.hid hNQ
 have HND := Lib.hid hND
 have HS1 := Lib.hid (fun h : shortM ms = true => shortM_ok h)
 have HS2 := Lib.hid (fun h : shortO NO = true => (show NO ≤ 300 by unfold shortO at h; simp at h; omega))
 have HS3 := Lib.hid (fun h : shortD ND = true => (show ND ≤ 65 by unfold shortD at h; simp at h; omega))
 obtain ⟨s1, hs1⟩ : ∃ b, b = shortM ms := ⟨_, rfl⟩
 obtain ⟨s2, hs2⟩ : ∃ b, b = shortO NO := ⟨_, rfl⟩
 obtain ⟨s3, hs3⟩ : ∃ b, b = shortD ND := ⟨_, rfl⟩
 rw [← hs1] at T1 HS1
 rw [← hs2] at T2 HS2
 rw [← hs3] at T3 HS3
 clear hml HNM0 hp hh hv0 hv1 hvp hvq hvd hNM hNO hNP hNQ hND hs1 hs2 hs3 hvc1 hvc2
 go_enter Tryz.func4, Tryz.ntmps4
 go_upto_region 1 with fail
 obtain ⟨W2, hW2⟩ : ∃ v, v = World.alloc w (Obj.cells #[.slice pa NP pc, .slice qa NQ qc, .slice da ND dc] 52) := ⟨_, rfl⟩
 have kW2 : Below w.heap.size w W2 := by rw [hW2]; exact below_new _ _
 have iW2 : Blk W2 (w.heap.size) 52 [.slice pa NP pc, .slice qa NQ qc, .slice da ND dc] := by rw [hW2]; exact Blk.new _ _ _
 have sW2 : W2.heap.size = w.heap.size + 1 := by rw [hW2]; simp
 rw [← hW2]
 clear hW2
 obtain ⟨B5, hB5⟩ : ∃ b, b = w.heap.size := ⟨_, rfl⟩
 rw [← hB5] at iW2 ⊢
 have I5 := Lib.hid iW2
 have K2 := Lib.hid kW2
 clear iW2 kW2 sW2 hB5
 go_wp2_with fail
 refine (TA.out W2 (HP.out.carry K2.out) (HH.out.carry K2.out)).mono ?_
 rintro e W3 ⟨rfl, hb⟩
 have hA := HA.out.carry (bthen K2.out hb)
 have c50 := (I5.out.carry hb).cell (j := 0) (v := .slice pa NP pc) rfl
 have c51 := (I5.out.carry hb).cell (j := 1) (v := .slice qa NQ qc) rfl
 have c52 := (I5.out.carry hb).cell (j := 2) (v := .slice da ND dc) rfl
 go_wp2_with fail
 refine (T1.out W3 hA).mono ?_
 rintro e W4 ⟨rfl, hW⟩
 subst hW
 clear T1 hA
 cases s1 with
 | false =>
   go_wp2_with fail
   refine (TA.out W3 (HP.out.carry (bthen K2.out hb)) (HH.out.carry (bthen K2.out hb))).mono ?_
   rintro e w2 ⟨rfl, hb2⟩
   go_wp2
   go_ret
   exact ⟨rfl, bthen K2.out (bthen hb hb2)⟩
 | true =>
   go_wp2_with fail
   refine (T2.out W3).mono ?_
   rintro e W4 ⟨rfl, hW⟩
   subst hW
   clear T2
   cases s2 with
   | false =>
     go_wp2_with fail
     refine (TA.out W3 (HP.out.carry (bthen K2.out hb)) (HH.out.carry (bthen K2.out hb))).mono ?_
     rintro e w2 ⟨rfl, hb2⟩
     go_wp2
     go_ret
     exact ⟨rfl, bthen K2.out (bthen hb hb2)⟩
   | true =>
     go_wp2_with fail
     refine (T3.out W3).mono ?_
     rintro e W4 ⟨rfl, hW⟩
     subst hW
     clear T3
     cases s3 with
     | false =>
       go_wp2_with fail
       refine (TA.out W3 (HP.out.carry (bthen K2.out hb)) (HH.out.carry (bthen K2.out hb))).mono ?_
       rintro e w2 ⟨rfl, hb2⟩
       go_wp2
       go_ret
       exact ⟨rfl, bthen K2.out (bthen hb hb2)⟩
     | true =>
       by_cases hp10 : 10 < NP
       ·have d3 : (10 : Int) < (NP : Int) := by omega
        go_wp2_with fail
        refine (TA.out W3 (HP.out.carry (bthen K2.out hb)) (HH.out.carry (bthen K2.out hb))).mono ?_
        rintro e w2 ⟨rfl, hb2⟩
        go_wp2
        go_ret
        exact ⟨rfl, bthen K2.out (bthen hb hb2)⟩
       ·have d3 : ¬ (10 : Int) < (NP : Int) := by omega
        by_cases hq10 : 10 < NQ
        ·have d4 : (10 : Int) < (NQ : Int) := by omega
         go_wp2_with fail
         refine (TA.out W3 (HP.out.carry (bthen K2.out hb)) (HH.out.carry (bthen K2.out hb))).mono ?_
         rintro e w2 ⟨rfl, hb2⟩
         go_wp2
         go_ret
         exact ⟨rfl, bthen K2.out (bthen hb hb2)⟩
        ·have d4 : ¬ (10 : Int) < (NQ : Int) := by omega
         have hs1 := HS1.out (by trivial)
         have hs2 := HS2.out (by trivial)
         have hs3 := HS3.out (by trivial)
         have hmL : ms.length ≤ 1000 := by omega
         have hoL : os.length ≤ 1000 := by have := HNO.out; omega
         have hpL : pl.length ≤ 1000 := by have := HNP.out; omega
         have hqL : ql.length ≤ 1000 := by have := HNQ.out; omega
         have hdL : ds.length ≤ 1000 := by have := HND.out; omega
         have hmS : ∀ m ∈ ms, m.1.size ≤ 1000000 := fun m hm => by have := hs1.1 m hm; omega
         clear TA HP HH HS1 HS2 HS3 hs1 hs2 hs3 hp10 hq10
         have TU := Lib.hid (fun W (h : Rw 4 mV W (.slice a1 NM p1) ms) => toldJ (R := fun u W => Rw 4 mV W u ms) (units_any (.slice a1 NM p1) ms W (by omega) h) (fun _ _ h => h.rw mV_len))
         have TT := Lib.hid (fun W (h : Rw 3 iV W (.slice a2 NO p2) os) => toldJ (R := fun u W => Rw 3 iV W u os) (times_any (.slice a2 NO p2) os W (by omega) h) (fun _ _ h => h.rw iV_len))
         have TI := Lib.hid (fun u l W (hl : l.length ≤ 1000) (h : Ints W u l) => toldJ (R := fun u W => Ints W u l) (intsL_any u l W h (by omega)) (fun _ _ h => h))
         have TD := Lib.hid (fun W (h : Prs W (.slice da ND dc) ds) => toldJ (R := fun u W => Prs W u ds) (deliveriesL_any (.slice da ND dc) ds W (by omega) h) (fun _ _ h => h.rw pV_len))
         have TPl := Lib.hid (fun vm vo W (hm : Rw 4 mV W vm ms) (ho : Rw 3 iV W vo os) => Plan_any vm vo ms os W hmL hmS hoL hm ho)
         have TCk := Lib.hid (fun vm vo vp W (hm : Rw 4 mV W vm ms) (ho : Rw 3 iV W vo os) (hp : Ints W vp pl) => CheckPlan_any vm vo vp ms os pl W hmL hmS hoL (by omega) hm ho hp)
         have TPr := Lib.hid (fun vm vo W (hm : Rw 4 mV W vm ms) (ho : Rw 3 iV W vo os) => Prices_any vm vo ms os W hmL hmS hoL hm ho)
         have TCp := Lib.hid (fun vm vo vp W (hm : Rw 4 mV W vm ms) (ho : Rw 3 iV W vo os) (hp : Ints W vp ql) => CheckPrices_any vm vo vp ms os ql W hmL hmS hoL (by omega) hm ho hp)
         have TSp := Lib.hid (fun vm vo vp vd W (hm : Rw 4 mV W vm ms) (ho : Rw 3 iV W vo os) (hp : Ints W vp pl) (hd : Prs W vd ds) => Spares_any vm vo vp vd ms os pl ds W hmL hmS hoL (by omega) (by omega) hm ho hp hd)
         have RB := Lib.hid (fun W (h1 : Rw 4 mV W (.slice a1 NM p1) ms) (h2 : Rw 3 iV W (.slice a2 NO p2) os) => CheckBothR_any (.slice a1 NM p1) (.slice a2 NO p2) ms os W (by omega) hmS (by omega) h1 h2)
         have RD := Lib.hid (fun W (h : Prs W (.slice da ND dc) ds) => CheckDeliveriesR_any (.slice da ND dc) ds W (by omega) h)
         have QCk := Lib.hid (fun W (hb : bothE ms os = 0) h1 h2 h3 => (CheckPlanR_any (.slice a1 NM p1) (.slice a2 NO p2) (.slice pa NP pc) ms os pl W hmL hoL (by omega) (fun m hm => ((modsE_ok (bothE_ok hb).1).2 m hm).2.2.2) h1 h2 h3).mono fun r w' h => (show r = .returned (.int .i64 (cplE ms os pl)) ∧ Below W.heap.size W w' from ⟨by rw [h.1]; unfold cplE; rw [if_pos hb], h.2⟩))
         have QPl := Lib.hid (fun W (hb : bothE ms os = 0) h1 h2 => PlanR_any (.slice a1 NM p1) (.slice a2 NO p2) ms os W hb h1 h2)
         have QPr := Lib.hid (fun W (hb : bothE ms os = 0) h1 h2 => PricesR_any (.slice a1 NM p1) (.slice a2 NO p2) ms os W hb h1 h2)
         have QCp := Lib.hid (fun W (hb : bothE ms os = 0) h1 h2 h3 => CheckPricesR_any (.slice a1 NM p1) (.slice a2 NO p2) (.slice qa NQ qc) ms os ql W hb hqL h1 h2 h3)
         have QCo := Lib.hid (fun W (hc : cplE ms os pl = 0) h1 h2 => (CostR_any (.slice a2 NO p2) (.slice pa NP pc) os pl W h1 h2 hoL hpL (fun o ho => ((outE_ok (bothE_ok (pla_one hc).1).2).2 o ho).2.2)).mono fun r w' h => (show r = .returned (.int .i64 (cplR ms os pl)) ∧ W = w' from ⟨by rw [h.1, (pla_one hc).2.2], h.2⟩))
         have QSp := Lib.hid (fun W (hk : sprE ms os pl ds = 0) h1 h2 h3 => (SparesR_any (.slice a2 NO p2) (.slice pa NP pc) (.slice da ND dc) os pl ds W hoL hpL (pla_spr hk).2.1 (pla_spr hk).2.2.1 (pla_spr hk).2.2.2.1 h1 h2 h3).mono fun r w' h => (show r = .returned (.int .i64 (sprR ms os pl ds)) ∧ Below W.heap.size W w' from ⟨by rw [h.1, (pla_spr hk).2.2.2.2], h.2⟩))
         have HBad := Lib.hid (fun h : bothE ms os ≠ 0 => pla_bad (ms := ms) (os := os) pl ql h)
         have HFive := Lib.hid (pla_five ms os pl ds)
         have HC0 := Lib.hid (fun h : cplE ms os pl ≠ 0 => (show cplR ms os pl = 0 by unfold cplR; rw [if_neg h]))
         have HK0 := Lib.hid (fun h : sprE ms os pl ds ≠ 0 => (show sprR ms os pl ds = 0 by unfold sprR; rw [if_neg h]))
         have M1 := Lib.hid (fun u W (h : Rw 4 mV W u ms) => CheckModules_any u ms W hmL hmS h)
         have M2 := Lib.hid (fun W (h : Rw 4 mV W (.slice a1 NM p1) ms) => CheckModulesR_any (.slice a1 NM p1) ms W (by omega) hmS h)
         have O1 := Lib.hid (fun u W (h : Rw 3 iV W u os) => CheckOutages_any u os W (by omega) h)
         have O2 := Lib.hid (fun W (h : Rw 3 iV W (.slice a2 NO p2) os) => CheckOutagesR_any (.slice a2 NO p2) os W (by omega) h)
         have S1 := Lib.hid (fun va vb W (ha : Ints W va (planR ms os)) (hb : Ints W vb (planR ms os)) => (SameInts_any va vb _ _ W ha hb (by have := planR_len ms os; omega)).mono fun r w' h => (show r = .returned (.bool true) ∧ Below W.heap.size W w' from ⟨by rw [h.1, decide_eq_true rfl], h.2⟩))
         have S2 := Lib.hid (fun va vb W (ha : Ints W va (priR ms os)) (hb : Ints W vb (priR ms os)) => (SameInts_any va vb _ _ W ha hb (by have := priR_len ms os; omega)).mono fun r w' h => (show r = .returned (.bool true) ∧ Below W.heap.size W w' from ⟨by rw [h.1, decide_eq_true rfl], h.2⟩))
         obtain ⟨E1, hE1⟩ : ∃ e, e = bothE ms os := ⟨_, rfl⟩
         obtain ⟨CE, hCE⟩ : ∃ e, e = cplE ms os pl := ⟨_, rfl⟩
         obtain ⟨CR, hCR⟩ : ∃ e, e = cplR ms os pl := ⟨_, rfl⟩
         obtain ⟨PE, hPE⟩ : ∃ e, e = planE ms os := ⟨_, rfl⟩
         obtain ⟨PC, hPC⟩ : ∃ e, e = planC ms os := ⟨_, rfl⟩
         obtain ⟨PR, hPR⟩ : ∃ e, e = planR ms os := ⟨_, rfl⟩
         obtain ⟨RE, hRE⟩ : ∃ e, e = priE ms os := ⟨_, rfl⟩
         obtain ⟨RR, hRR⟩ : ∃ e, e = priR ms os := ⟨_, rfl⟩
         obtain ⟨SE, hSE⟩ : ∃ e, e = prE ms os ql := ⟨_, rfl⟩
         obtain ⟨SR, hSR⟩ : ∃ e, e = prR ms os ql := ⟨_, rfl⟩
         obtain ⟨KE, hKE⟩ : ∃ e, e = sprE ms os pl ds := ⟨_, rfl⟩
         obtain ⟨KR, hKR⟩ : ∃ e, e = sprR ms os pl ds := ⟨_, rfl⟩
         obtain ⟨DE, hDE⟩ : ∃ e, e = delE ds := ⟨_, rfl⟩
         have HBad : Hid (E1 ≠ 0 → CE = E1 ∧ PE = E1 ∧ PR = [] ∧ PC = 0 ∧ RE = E1 ∧ RR = [] ∧ SE = E1 ∧ SR = 0) := Lib.hid (fun h => by
          have h9 := HBad.out (by rw [← hE1]; exact h)
          exact ⟨by rw [hCE, hE1, h9.c], by rw [hPE, hE1, h9.p], by rw [hPR, h9.pr], by rw [hPC, h9.pc], by rw [hRE, hE1, h9.r], by rw [hRR, h9.rr], by rw [hSE, hE1, h9.s], by rw [hSR, h9.sr]⟩)
         rw [← hCR, ← hCE] at TCk
         rw [← hPC, ← hPE, ← hPR] at TPl
         rw [← hRE, ← hRR] at TPr
         rw [← hSR, ← hSE] at TCp
         rw [← hKR, ← hKE] at TSp
         rw [← hPR] at S1
         rw [← hRR] at S2
         obtain ⟨ME, hME⟩ : ∃ e, e = modsE ms := ⟨_, rfl⟩
         obtain ⟨OE, hOE⟩ : ∃ e, e = outE os := ⟨_, rfl⟩
         rw [← hME] at M1 M2
         rw [← hOE] at O1 O2
         clear hME hOE
         rw [← hE1] at RB
         rw [← hDE] at RD
         rw [← hE1, ← hCE] at QCk
         rw [← hE1, ← hPC, ← hPE, ← hPR] at QPl
         rw [← hE1, ← hRE, ← hRR] at QPr
         rw [← hE1, ← hSR, ← hSE] at QCp
         rw [← hCE, ← hCR] at QCo
         rw [← hKE, ← hKR] at QSp
         rw [← hCE, ← hDE, ← hKE] at HFive
         rw [← hCE, ← hCR] at HC0
         rw [← hKE, ← hKR] at HK0
         clear hE1 hCE hCR hPE hPC hPR hRE hRR hSE hSR hKE hKR hDE
         have hA := HA.out.carry (bthen K2.out hb)
         have hO := HO.out.carry (bthen K2.out hb)
         have hPl := HPl.out.carry (bthen K2.out hb)
         go_upto_region 3 with fail
         clear c51 c52
         refine wp_region_E 99 (by kernel_rfl) ?_
         obtain ⟨wz, hwz⟩ : ∃ v, v = W3.drew := ⟨_, rfl⟩
         rw [← hwz]
         have hlz : Below W3.heap.size W3 wz := by rw [hwz]; exact (Below.refl _ _).drew
         have hbz := bthen (Below.refl _ _) hlz
         have c50 := cellb c50 hlz
         have hA := hA.carry hlz
         have hO := hO.carry hlz
         have hPl := hPl.carry hlz
         clear hwz hlz
         refine zV 0 ⟨some 62, .move (.tmp 0), 48, "law.go:294", #[], none⟩ rfl ?_
         simp only [Act.put, zS]
         refine zV 2 ⟨some 64, .move (.tmp 1), 49, "law.go:294", #[], none⟩ rfl ?_
         simp only [Act.put, zS]
         refine zV 4 ⟨some 66, .fieldAddr 52 (.tmp 5) 0, 0, "law.go:294", #[], none⟩ rfl ?_
         simp only [Act.put, zS]
         refine zV 5 ⟨some 67, .load 41 (.tmp 66), 41, "law.go:294", #[⟨4, .data⟩], none⟩ rfl ?_ (hv := fun w hE => by have c50 := cellb c50 hE; (try dsimp only); go_simp; try rfl)
         simp only [Act.put, zS]
         refine wpAnyE_call1 (i := 1) (R := (fun u W => Rw 4 mV W u ms)) (by kernel_rfl) (show _ = some ⟨some 63, .call ⟨.value (.func 23), #[.tmp 62], #[48]⟩, 58, "law.go:294", #[⟨0, .data⟩], none⟩ from rfl) (yieldsR (fun w hE => TU.out w (hA.carry hE)))  (fun v1 wj1 hE j1 => ?_)
         have c50 := cellb c50 hE
         have hA := hA.carry hE
         have hO := hO.carry hE
         have hPl := hPl.carry hE
         have hbj1 := bthen hbz hE
         clear hE
         try simp only [Act.put, zS]
         refine wpAnyE_call1 (i := 3) (R := (fun u W => Rw 3 iV W u os)) (by kernel_rfl) (show _ = some ⟨some 65, .call ⟨.value (.func 24), #[.tmp 64], #[49]⟩, 60, "law.go:294", #[⟨2, .data⟩, ⟨1, .chain⟩], none⟩ from rfl) (yieldsR (fun w hE => TT.out w (hO.carry hE)))  (fun v3 wj2 hE j3 => ?_)
         have c50 := cellb c50 hE
         have hA := hA.carry hE
         have hO := hO.carry hE
         have hPl := hPl.carry hE
         have j1 := j1.carry hE
         have hbj2 := bthen hbj1 hE
         clear hE
         try simp only [Act.put, zS]
         refine wpAnyE_call1 (i := 6) (R := (fun u W => Ints W u pl)) (by kernel_rfl) (show _ = some ⟨some 68, .call ⟨.value (.func 25), #[.tmp 67], #[41]⟩, 41, "law.go:294", #[⟨5, .data⟩, ⟨3, .chain⟩], none⟩ from rfl) (yieldsR (fun w hE => TI.out _ pl w hpL (hPl.carry hE)))  (fun v6 wj3 hE j6 => ?_)
         have c50 := cellb c50 hE
         have hA := hA.carry hE
         have hO := hO.carry hE
         have hPl := hPl.carry hE
         have j1 := j1.carry hE
         have j3 := j3.carry hE
         have hbj3 := bthen hbj2 hE
         clear hE
         try simp only [Act.put, zS]
         refine zB 7 ⟨some 69, .call ⟨.value (.func 22), #[.tmp 63, .tmp 65, .tmp 68], #[58, 60, 41]⟩, 56, "law.go:294", #[⟨1, .data⟩, ⟨3, .data⟩, ⟨6, .data⟩, ⟨6, .chain⟩], none⟩ (fun w hE => TCk.out v1 v3 v6 w (j1.carry hE) (j3.carry hE) (j6.carry hE)) rfl ?_
         simp only [Act.put, zS]
         refine zV 8 ⟨some 61, .move (.tmp 69), 56, "law.go:294", #[⟨7, .data⟩], none⟩ rfl ?_
         simp only [Act.put, zS]
         refine zV 9 ⟨some 70, .extract (.tmp 61) 0, 3, "law.go:294", #[⟨8, .data⟩], none⟩ rfl ?_
         simp only [Act.put, zS]
         refine zV 10 ⟨some 71, .extract (.tmp 61) 1, 29, "law.go:294", #[⟨8, .data⟩, { on := 11, ground := Ground.gcOnly Departure.lateStores }], none⟩ rfl ?_
         simp only [Act.put, zS]
         refine zV 11 ⟨some 7, .assign (.tmp 70), 3, "law.go:294", #[⟨9, .data⟩, ⟨7, .chain⟩, ⟨0, .phase⟩, ⟨1, .phase⟩, ⟨2, .phase⟩, ⟨3, .phase⟩, ⟨4, .phase⟩, ⟨5, .phase⟩, ⟨6, .phase⟩, ⟨7, .phase⟩, ⟨8, .phase⟩, ⟨9, .phase⟩, { on := 10, ground := Ground.textOnly Departure.lateStores }], none⟩ rfl ?_
         simp only [Act.put, zS]
         refine zV 12 ⟨some 8, .assign (.tmp 71), 29, "law.go:294", #[⟨10, .data⟩, ⟨11, .chain⟩, ⟨0, .phase⟩, ⟨1, .phase⟩, ⟨2, .phase⟩, ⟨3, .phase⟩, ⟨4, .phase⟩, ⟨5, .phase⟩, ⟨6, .phase⟩, ⟨7, .phase⟩, ⟨8, .phase⟩, ⟨9, .phase⟩, ⟨10, .phase⟩, ⟨11, .phase⟩], none⟩ rfl ?_
         simp only [Act.put, zS]
         refine wpAnyE_done (by kernel_rfl) (fun wy4 hE => ?_) _
         have hbz4 := bthen hbj3 hE
         have c50 := cellb c50 hE
         have hA := hA.carry hE
         have hO := hO.carry hE
         have hPl := hPl.carry hE
         have j1 := j1.carry hE
         have j3 := j3.carry hE
         have j6 := j6.carry hE
         clear hE
         have hb2 := hbz4
         obtain ⟨W4, hW4⟩ : ∃ v, v = wy4 := ⟨_, rfl⟩
         rw [← hW4] at hb2 ⊢
         clear hW4
         rename_i W4
         replace hb := bthen hb hb2
         clear hb2 hA hO hPl c50 j1 j3 j6 TCk
         have hA := HA.out.carry (bthen K2.out hb)
         have hO := HO.out.carry (bthen K2.out hb)
         go_wp2_with fail
         refine (TU.out W4 hA).mono ?_
         rintro e W5 ⟨um, rfl, hum, hl⟩
         have hb5 : Below W4.heap.size W4 W5 := hl
         clear hl
         go_wp2_with fail
         refine (TT.out W5 (hO.carry hb5)).mono ?_
         rintro e W6 ⟨uo, rfl, huo, hl⟩
         have hb6 : Below W5.heap.size W5 W6 := hl
         clear hl
         go_wp2_with fail
         refine (TPl.out um uo W6 (hum.carry hb6) huo).mono ?_
         rintro e W7 ⟨⟨up, rfl, hup⟩, hb7⟩
         replace hb := bthen hb (bthen hb5 (bthen hb6 hb7))
         clear hA hO hum huo hb5 hb6 hb7 TPl
         have hA := HA.out.carry (bthen K2.out hb)
         have hO := HO.out.carry (bthen K2.out hb)
         go_wp2_with fail
         refine (TU.out W7 hA).mono ?_
         rintro e W8 ⟨um, rfl, hum, hl⟩
         have hb5 : Below W7.heap.size W7 W8 := hl
         clear hl
         go_wp2_with fail
         refine (TT.out W8 (hO.carry hb5)).mono ?_
         rintro e W9 ⟨uo, rfl, huo, hl⟩
         have hb6 : Below W8.heap.size W8 W9 := hl
         clear hl
         go_wp2_with fail
         refine (TPr.out um uo W9 (hum.carry hb6) huo).mono ?_
         rintro e W10 ⟨⟨ur, rfl, hur⟩, hb7⟩
         replace hup := hup.carry (bthen hb5 (bthen hb6 hb7))
         replace hb := bthen hb (bthen hb5 (bthen hb6 hb7))
         clear hA hO hum huo hb5 hb6 hb7 TPr
         have hA := HA.out.carry (bthen K2.out hb)
         have hO := HO.out.carry (bthen K2.out hb)
         have hQl := HQl.out.carry (bthen K2.out hb)
         have c51 := (I5.out.carry hb).cell (j := 1) (v := .slice qa NQ qc) rfl
         go_upto_region 6 with fail
         refine wp_region_E 99 (by kernel_rfl) ?_
         obtain ⟨wz, hwz⟩ : ∃ v, v = W10.drew := ⟨_, rfl⟩
         rw [← hwz]
         have hlz : Below W10.heap.size W10 wz := by rw [hwz]; exact (Below.refl _ _).drew
         have hbz := bthen (Below.refl _ _) hlz
         have c51 := cellb c51 hlz
         have hA := hA.carry hlz
         have hO := hO.carry hlz
         have hQl := hQl.carry hlz
         have hup := hup.carry hlz
         have hur := hur.carry hlz
         clear hwz hlz
         refine zV 0 ⟨some 90, .move (.tmp 0), 48, "law.go:297", #[], none⟩ rfl ?_
         simp only [Act.put, zS]
         refine zV 2 ⟨some 92, .move (.tmp 1), 49, "law.go:297", #[], none⟩ rfl ?_
         simp only [Act.put, zS]
         refine zV 4 ⟨some 94, .fieldAddr 52 (.tmp 5) 1, 0, "law.go:297", #[], none⟩ rfl ?_
         simp only [Act.put, zS]
         refine zV 5 ⟨some 95, .load 41 (.tmp 94), 41, "law.go:297", #[⟨4, .data⟩], none⟩ rfl ?_ (hv := fun w hE => by have c51 := cellb c51 hE; (try dsimp only); go_simp; try rfl)
         simp only [Act.put, zS]
         refine wpAnyE_call1 (i := 1) (R := (fun u W => Rw 4 mV W u ms)) (by kernel_rfl) (show _ = some ⟨some 91, .call ⟨.value (.func 23), #[.tmp 90], #[48]⟩, 58, "law.go:297", #[⟨0, .data⟩], none⟩ from rfl) (yieldsR (fun w hE => TU.out w (hA.carry hE)))  (fun v1 wj1 hE j1 => ?_)
         have c51 := cellb c51 hE
         have hA := hA.carry hE
         have hO := hO.carry hE
         have hQl := hQl.carry hE
         have hup := hup.carry hE
         have hur := hur.carry hE
         have hbj1 := bthen hbz hE
         clear hE
         try simp only [Act.put, zS]
         refine wpAnyE_call1 (i := 3) (R := (fun u W => Rw 3 iV W u os)) (by kernel_rfl) (show _ = some ⟨some 93, .call ⟨.value (.func 24), #[.tmp 92], #[49]⟩, 60, "law.go:297", #[⟨2, .data⟩, ⟨1, .chain⟩], none⟩ from rfl) (yieldsR (fun w hE => TT.out w (hO.carry hE)))  (fun v3 wj2 hE j3 => ?_)
         have c51 := cellb c51 hE
         have hA := hA.carry hE
         have hO := hO.carry hE
         have hQl := hQl.carry hE
         have hup := hup.carry hE
         have hur := hur.carry hE
         have j1 := j1.carry hE
         have hbj2 := bthen hbj1 hE
         clear hE
         try simp only [Act.put, zS]
         refine wpAnyE_call1 (i := 6) (R := (fun u W => Ints W u ql)) (by kernel_rfl) (show _ = some ⟨some 96, .call ⟨.value (.func 25), #[.tmp 95], #[41]⟩, 41, "law.go:297", #[⟨5, .data⟩, ⟨3, .chain⟩], none⟩ from rfl) (yieldsR (fun w hE => TI.out _ ql w hqL (hQl.carry hE)))  (fun v6 wj3 hE j6 => ?_)
         have c51 := cellb c51 hE
         have hA := hA.carry hE
         have hO := hO.carry hE
         have hQl := hQl.carry hE
         have hup := hup.carry hE
         have hur := hur.carry hE
         have j1 := j1.carry hE
         have j3 := j3.carry hE
         have hbj3 := bthen hbj2 hE
         clear hE
         try simp only [Act.put, zS]
         refine zB 7 ⟨some 97, .call ⟨.value (.func 28), #[.tmp 91, .tmp 93, .tmp 96], #[58, 60, 41]⟩, 56, "law.go:297", #[⟨1, .data⟩, ⟨3, .data⟩, ⟨6, .data⟩, ⟨6, .chain⟩], none⟩ (fun w hE => TCp.out v1 v3 v6 w (j1.carry hE) (j3.carry hE) (j6.carry hE)) rfl ?_
         simp only [Act.put, zS]
         refine zV 8 ⟨some 89, .move (.tmp 97), 56, "law.go:297", #[⟨7, .data⟩], none⟩ rfl ?_
         simp only [Act.put, zS]
         refine zV 9 ⟨some 98, .extract (.tmp 89) 0, 3, "law.go:297", #[⟨8, .data⟩], none⟩ rfl ?_
         simp only [Act.put, zS]
         refine zV 10 ⟨some 99, .extract (.tmp 89) 1, 29, "law.go:297", #[⟨8, .data⟩, { on := 11, ground := Ground.gcOnly Departure.lateStores }], none⟩ rfl ?_
         simp only [Act.put, zS]
         refine zV 11 ⟨some 14, .assign (.tmp 98), 3, "law.go:297", #[⟨9, .data⟩, ⟨7, .chain⟩, ⟨0, .phase⟩, ⟨1, .phase⟩, ⟨2, .phase⟩, ⟨3, .phase⟩, ⟨4, .phase⟩, ⟨5, .phase⟩, ⟨6, .phase⟩, ⟨7, .phase⟩, ⟨8, .phase⟩, ⟨9, .phase⟩, { on := 10, ground := Ground.textOnly Departure.lateStores }], none⟩ rfl ?_
         simp only [Act.put, zS]
         refine zV 12 ⟨some 15, .assign (.tmp 99), 29, "law.go:297", #[⟨10, .data⟩, ⟨11, .chain⟩, ⟨0, .phase⟩, ⟨1, .phase⟩, ⟨2, .phase⟩, ⟨3, .phase⟩, ⟨4, .phase⟩, ⟨5, .phase⟩, ⟨6, .phase⟩, ⟨7, .phase⟩, ⟨8, .phase⟩, ⟨9, .phase⟩, ⟨10, .phase⟩, ⟨11, .phase⟩], none⟩ rfl ?_
         simp only [Act.put, zS]
         refine wpAnyE_done (by kernel_rfl) (fun wy4 hE => ?_) _
         have hbz4 := bthen hbj3 hE
         have c51 := cellb c51 hE
         have hA := hA.carry hE
         have hO := hO.carry hE
         have hQl := hQl.carry hE
         have hup := hup.carry hE
         have hur := hur.carry hE
         have j1 := j1.carry hE
         have j3 := j3.carry hE
         have j6 := j6.carry hE
         clear hE
         have hb2 := hbz4
         obtain ⟨W11, hW11⟩ : ∃ v, v = wy4 := ⟨_, rfl⟩
         rw [← hW11] at hb2 hup hur ⊢
         clear hW11
         rename_i W11
         replace hb := bthen hb hb2
         clear hb2 hA hO hQl c51 j1 j3 j6 TCp
         have hA := HA.out.carry (bthen K2.out hb)
         have hO := HO.out.carry (bthen K2.out hb)
         have hPl := HPl.out.carry (bthen K2.out hb)
         have hD := HD.out.carry (bthen K2.out hb)
         have c50 := (I5.out.carry hb).cell (j := 0) (v := .slice pa NP pc) rfl
         have c52 := (I5.out.carry hb).cell (j := 2) (v := .slice da ND dc) rfl
         go_upto_region 7 with fail
         refine wp_region_E 99 (by kernel_rfl) ?_
         obtain ⟨wz, hwz⟩ : ∃ v, v = W11.drew := ⟨_, rfl⟩
         rw [← hwz]
         have hlz : Below W11.heap.size W11 wz := by rw [hwz]; exact (Below.refl _ _).drew
         have hbz := bthen (Below.refl _ _) hlz
         have c50 := cellb c50 hlz
         have c52 := cellb c52 hlz
         have hA := hA.carry hlz
         have hO := hO.carry hlz
         have hPl := hPl.carry hlz
         have hD := hD.carry hlz
         have hup := hup.carry hlz
         have hur := hur.carry hlz
         clear hwz hlz
         refine zV 0 ⟨some 101, .move (.tmp 0), 48, "law.go:298", #[], none⟩ rfl ?_
         simp only [Act.put, zS]
         refine zV 2 ⟨some 103, .move (.tmp 1), 49, "law.go:298", #[], none⟩ rfl ?_
         simp only [Act.put, zS]
         refine zV 4 ⟨some 105, .fieldAddr 52 (.tmp 5) 0, 0, "law.go:298", #[], none⟩ rfl ?_
         simp only [Act.put, zS]
         refine zV 5 ⟨some 106, .load 41 (.tmp 105), 41, "law.go:298", #[⟨4, .data⟩], none⟩ rfl ?_ (hv := fun w hE => by have c50 := cellb c50 hE; have c52 := cellb c52 hE; (try dsimp only); go_simp; try rfl)
         simp only [Act.put, zS]
         refine zV 7 ⟨some 108, .fieldAddr 52 (.tmp 5) 2, 0, "law.go:298", #[], none⟩ rfl ?_
         simp only [Act.put, zS]
         refine zV 8 ⟨some 109, .load 50 (.tmp 108), 50, "law.go:298", #[⟨7, .data⟩], none⟩ rfl ?_ (hv := fun w hE => by have c50 := cellb c50 hE; have c52 := cellb c52 hE; (try dsimp only); go_simp; try rfl)
         simp only [Act.put, zS]
         refine wpAnyE_call1 (i := 1) (R := (fun u W => Rw 4 mV W u ms)) (by kernel_rfl) (show _ = some ⟨some 102, .call ⟨.value (.func 23), #[.tmp 101], #[48]⟩, 58, "law.go:298", #[⟨0, .data⟩], none⟩ from rfl) (yieldsR (fun w hE => TU.out w (hA.carry hE)))  (fun v1 wj1 hE j1 => ?_)
         have c50 := cellb c50 hE
         have c52 := cellb c52 hE
         have hA := hA.carry hE
         have hO := hO.carry hE
         have hPl := hPl.carry hE
         have hD := hD.carry hE
         have hup := hup.carry hE
         have hur := hur.carry hE
         have hbj1 := bthen hbz hE
         clear hE
         try simp only [Act.put, zS]
         refine wpAnyE_call1 (i := 3) (R := (fun u W => Rw 3 iV W u os)) (by kernel_rfl) (show _ = some ⟨some 104, .call ⟨.value (.func 24), #[.tmp 103], #[49]⟩, 60, "law.go:298", #[⟨2, .data⟩, ⟨1, .chain⟩], none⟩ from rfl) (yieldsR (fun w hE => TT.out w (hO.carry hE)))  (fun v3 wj2 hE j3 => ?_)
         have c50 := cellb c50 hE
         have c52 := cellb c52 hE
         have hA := hA.carry hE
         have hO := hO.carry hE
         have hPl := hPl.carry hE
         have hD := hD.carry hE
         have hup := hup.carry hE
         have hur := hur.carry hE
         have j1 := j1.carry hE
         have hbj2 := bthen hbj1 hE
         clear hE
         try simp only [Act.put, zS]
         refine wpAnyE_call1 (i := 6) (R := (fun u W => Ints W u pl)) (by kernel_rfl) (show _ = some ⟨some 107, .call ⟨.value (.func 25), #[.tmp 106], #[41]⟩, 41, "law.go:298", #[⟨5, .data⟩, ⟨3, .chain⟩], none⟩ from rfl) (yieldsR (fun w hE => TI.out _ pl w hpL (hPl.carry hE)))  (fun v6 wj3 hE j6 => ?_)
         have c50 := cellb c50 hE
         have c52 := cellb c52 hE
         have hA := hA.carry hE
         have hO := hO.carry hE
         have hPl := hPl.carry hE
         have hD := hD.carry hE
         have hup := hup.carry hE
         have hur := hur.carry hE
         have j1 := j1.carry hE
         have j3 := j3.carry hE
         have hbj3 := bthen hbj2 hE
         clear hE
         try simp only [Act.put, zS]
         refine wpAnyE_call1 (i := 9) (R := (fun u W => Prs W u ds)) (by kernel_rfl) (show _ = some ⟨some 110, .call ⟨.value (.func 30), #[.tmp 109], #[50]⟩, 67, "law.go:298", #[⟨8, .data⟩, ⟨6, .chain⟩], none⟩ from rfl) (yieldsR (fun w hE => TD.out w (hD.carry hE)))  (fun v9 wj4 hE j9 => ?_)
         have c50 := cellb c50 hE
         have c52 := cellb c52 hE
         have hA := hA.carry hE
         have hO := hO.carry hE
         have hPl := hPl.carry hE
         have hD := hD.carry hE
         have hup := hup.carry hE
         have hur := hur.carry hE
         have j1 := j1.carry hE
         have j3 := j3.carry hE
         have j6 := j6.carry hE
         have hbj4 := bthen hbj3 hE
         clear hE
         try simp only [Act.put, zS]
         refine zB 10 ⟨some 111, .call ⟨.value (.func 29), #[.tmp 102, .tmp 104, .tmp 107, .tmp 110], #[58, 60, 41, 67]⟩, 56, "law.go:298", #[⟨1, .data⟩, ⟨3, .data⟩, ⟨6, .data⟩, ⟨9, .data⟩, ⟨9, .chain⟩], none⟩ (fun w hE => TSp.out v1 v3 v6 v9 w (j1.carry hE) (j3.carry hE) (j6.carry hE) (j9.carry hE)) rfl ?_
         simp only [Act.put, zS]
         refine zV 11 ⟨some 100, .move (.tmp 111), 56, "law.go:298", #[⟨10, .data⟩], none⟩ rfl ?_
         simp only [Act.put, zS]
         refine zV 12 ⟨some 112, .extract (.tmp 100) 0, 3, "law.go:298", #[⟨11, .data⟩], none⟩ rfl ?_
         simp only [Act.put, zS]
         refine zV 13 ⟨some 113, .extract (.tmp 100) 1, 29, "law.go:298", #[⟨11, .data⟩, { on := 14, ground := Ground.gcOnly Departure.lateStores }], none⟩ rfl ?_
         simp only [Act.put, zS]
         refine zV 14 ⟨some 16, .assign (.tmp 112), 3, "law.go:298", #[⟨12, .data⟩, ⟨10, .chain⟩, ⟨0, .phase⟩, ⟨1, .phase⟩, ⟨2, .phase⟩, ⟨3, .phase⟩, ⟨4, .phase⟩, ⟨5, .phase⟩, ⟨6, .phase⟩, ⟨7, .phase⟩, ⟨8, .phase⟩, ⟨9, .phase⟩, ⟨10, .phase⟩, ⟨11, .phase⟩, ⟨12, .phase⟩, { on := 13, ground := Ground.textOnly Departure.lateStores }], none⟩ rfl ?_
         simp only [Act.put, zS]
         refine zV 15 ⟨some 17, .assign (.tmp 113), 29, "law.go:298", #[⟨13, .data⟩, ⟨14, .chain⟩, ⟨0, .phase⟩, ⟨1, .phase⟩, ⟨2, .phase⟩, ⟨3, .phase⟩, ⟨4, .phase⟩, ⟨5, .phase⟩, ⟨6, .phase⟩, ⟨7, .phase⟩, ⟨8, .phase⟩, ⟨9, .phase⟩, ⟨10, .phase⟩, ⟨11, .phase⟩, ⟨12, .phase⟩, ⟨13, .phase⟩, ⟨14, .phase⟩], none⟩ rfl ?_
         simp only [Act.put, zS]
         refine wpAnyE_done (by kernel_rfl) (fun wy5 hE => ?_) _
         have hbz5 := bthen hbj4 hE
         have c50 := cellb c50 hE
         have c52 := cellb c52 hE
         have hA := hA.carry hE
         have hO := hO.carry hE
         have hPl := hPl.carry hE
         have hD := hD.carry hE
         have hup := hup.carry hE
         have hur := hur.carry hE
         have j1 := j1.carry hE
         have j3 := j3.carry hE
         have j6 := j6.carry hE
         have j9 := j9.carry hE
         clear hE
         have hb2 := hbz5
         obtain ⟨W12, hW12⟩ : ∃ v, v = wy5 := ⟨_, rfl⟩
         rw [← hW12] at hb2 hup hur ⊢
         clear hW12
         rename_i W12
         replace hb := bthen hb hb2
         clear hb2 hA hO hPl hD c50 c52 j1 j3 j6 j9 TSp TI TD
         have hA := HA.out.carry (bthen K2.out hb)
         have hO := HO.out.carry (bthen K2.out hb)
         go_wp2_with fail
         refine (RB.out W12 hA hO).mono ?_
         rintro e W13 ⟨rfl, hb2⟩
         replace hup := hup.carry hb2
         replace hur := hur.carry hb2
         replace hb := bthen hb hb2
         clear hb2 hA hO RB
         have hA := HA.out.carry (bthen K2.out hb)
         have hO := HO.out.carry (bthen K2.out hb)
         have hPl := HPl.out.carry (bthen K2.out hb)
         have hQl := HQl.out.carry (bthen K2.out hb)
         have c50 := (I5.out.carry hb).cell (j := 0) (v := .slice pa NP pc) rfl
         have i5 := I5.out.carry hb
         go_upto_if 122 with fail
         go_cut [19, 20, 21, 22, 24, 25, 27, 28] from 122 to 148 (fun u19 u20 u21 u22 u24 u25 u27 u28 wn => u19 = .int .i64 CE ∧ u20 = .int .i64 PE ∧ u21 = .int .i64 RE ∧ u22 = .int .i64 SE ∧ u24 = .int .i64 PC ∧ u25 = .int .i64 SR ∧ Ints wn u27 PR ∧ Ints wn u28 RR ∧ Below W13.heap.size W13 wn)
         case first =>
          by_cases h0 : E1 = 0
          ·have z : (E1 == 0) = true := by rw [h0]; rfl
           have H0 := Lib.hid h0
           clear h0
           go_wp2_with fail
           refine (QCk.out W13 H0.out hA hO hPl).mono ?_
           rintro e V1 ⟨rfl, hk1⟩
           go_wp2_with fail
           refine (QPl.out V1 H0.out (hA.carry hk1) (hO.carry hk1)).mono ?_
           rintro e V2 ⟨⟨xp, rfl, hxp⟩, hk2⟩
           go_wp2_with fail
           refine (QPr.out V2 H0.out ((hA.carry hk1).carry hk2) ((hO.carry hk1).carry hk2)).mono ?_
           rintro e V3 ⟨⟨xr, rfl, hxr⟩, hk3⟩
           have hk := bthen hk1 (bthen hk2 hk3)
           replace hxp := hxp.carry hk3
           have c51 := (i5.carry hk).cell (j := 1) (v := .slice qa NQ qc) rfl
           clear hk1 hk2 hk3
           go_wp2_with fail
           refine (QCp.out V3 H0.out (hA.carry hk) (hO.carry hk) (hQl.carry hk)).mono ?_
           rintro e V4 ⟨rfl, hk4⟩
           go_wp2_with fail
           go_meet
           exact ⟨rfl, rfl, rfl, rfl, rfl, rfl, hxp.carry hk4, hxr.carry hk4, bthen hk hk4⟩
          ·have z : (E1 == 0) = false := by rw [beq_eq_false_iff_ne]; exact h0
           obtain ⟨q1, q2, q3, q4, q5, q6, q7, q8⟩ := HBad.out h0
           have Q := Lib.hid (show (CE = E1 ∧ PE = E1 ∧ RE = E1 ∧ SE = E1) ∧ PR = [] ∧ PC = 0 ∧ RR = [] ∧ SR = 0 from ⟨⟨q1, q2, q5, q7⟩, q3, q4, q6, q8⟩)
           clear h0 q1 q2 q3 q4 q5 q6 q7 q8
           go_wp2_with fail
           go_meet
           obtain ⟨⟨q1, q2, q5, q7⟩, q3, q4, q6, q8⟩ := Q.out
           exact ⟨by rw [q1], by rw [q2], by rw [q5], by rw [q7], by rw [q4], by rw [q8], by rw [q3]; exact Ints.nil _, by rw [q6]; exact Ints.nil _, Below.refl _ _⟩
         case rest =>
          obtain ⟨rfl, rfl, rfl, rfl, rfl, rfl, hxp, hxr, hb2⟩ := hcut
          obtain ⟨W14, hW14⟩ : ∃ x, x = wc := ⟨_, rfl⟩
          subst hW14
          replace hup := hup.carry hb2
          replace hur := hur.carry hb2
          replace hb := bthen hb hb2
          clear hb2 hA hO hPl hQl c50 i5 QCk QPl QPr QCp HBad
          have hD := HD.out.carry (bthen K2.out hb)
          have c52 := (I5.out.carry hb).cell (j := 2) (v := .slice da ND dc) rfl
          go_wp2_with fail
          refine (RD.out W14 hD).mono ?_
          rintro e W15 ⟨rfl, hb2⟩
          replace hup := hup.carry hb2
          replace hur := hur.carry hb2
          replace hxp := hxp.carry hb2
          replace hxr := hxr.carry hb2
          replace hb := bthen hb hb2
          clear hb2 hD c52 RD
          go_wp2_with fail
          refine (firstL7_any _ [CE, DE] _ (by simp) (Ints.new W15 3 [CE, DE] 2 _ _ rfl rfl rfl)).mono ?_
          rintro e W16 ⟨he, hW⟩
          rw [HFive.out] at he
          subst he
          have hb3 : Below W15.heap.size W15 W16 := by rw [← hW]; exact below_new _ _
          clear hW
          replace hup := hup.carry hb3
          replace hur := hur.carry hb3
          replace hxp := hxp.carry hb3
          replace hxr := hxr.carry hb3
          replace hb := bthen hb hb3
          clear hb3 HFive
          have hO := HO.out.carry (bthen K2.out hb)
          have hPl := HPl.out.carry (bthen K2.out hb)
          have c50 := (I5.out.carry hb).cell (j := 0) (v := .slice pa NP pc) rfl
          go_upto_if 156 with fail
          go_cut [23] from 156 to 160 (fun u23 wn => u23 = .int .i64 CR ∧ wn = W16)
          case first =>
           by_cases h0 : CE = 0
           ·have z : (CE == 0) = true := by rw [h0]; rfl
            have H0 := Lib.hid h0
            clear h0
            go_wp2_with fail
            refine (QCo.out W16 H0.out hO hPl).mono ?_
            rintro e V1 ⟨rfl, hW⟩
            subst hW
            go_wp2_with fail
            go_meet
            exact ⟨rfl, rfl⟩
           ·have z : (CE == 0) = false := by rw [beq_eq_false_iff_ne]; exact h0
            have hc := HC0.out h0
            subst hc
            clear h0
            go_wp2_with fail
            go_meet
            exact ⟨rfl, rfl⟩
          case rest =>
           obtain ⟨rfl, hW⟩ := hcut
           obtain ⟨W17, hW17⟩ : ∃ x, x = wc := ⟨_, rfl⟩
           rw [← hW17] at hW ⊢
           subst hW
           clear hW17 QCo HC0
           have hD := HD.out.carry (bthen K2.out hb)
           have c52 := (I5.out.carry hb).cell (j := 2) (v := .slice da ND dc) rfl
           go_upto_if 162 with fail
           go_cut [26] from 162 to 168 (fun u26 wn => u26 = .int .i64 KR ∧ Below W17.heap.size W17 wn)
           case first =>
            by_cases h0 : KE = 0
            ·have z : (KE == 0) = true := by rw [h0]; rfl
             have H0 := Lib.hid h0
             clear h0
             go_wp2_with fail
             refine (QSp.out W17 H0.out hO hPl hD).mono ?_
             rintro e V1 ⟨rfl, hk1⟩
             go_wp2_with fail
             go_meet
             exact ⟨rfl, hk1⟩
            ·have z : (KE == 0) = false := by rw [beq_eq_false_iff_ne]; exact h0
             have hc := HK0.out h0
             subst hc
             clear h0
             go_wp2_with fail
             go_meet
             exact ⟨rfl, Below.refl _ _⟩
           case rest =>
            obtain ⟨rfl, hb2⟩ := hcut
            obtain ⟨W18, hW18⟩ : ∃ x, x = wc := ⟨_, rfl⟩
            rw [← hW18] at hb2 ⊢
            clear hW18
            replace hup := hup.carry hb2
            replace hur := hur.carry hb2
            replace hxp := hxp.carry hb2
            replace hxr := hxr.carry hb2
            replace hb := bthen hb hb2
            clear hb2 hO hPl hD c50 c52 QSp HK0
            have hA := HA.out.carry (bthen K2.out hb)
            have hO := HO.out.carry (bthen K2.out hb)
            have HUP := Lib.hid hup
            have HUR := Lib.hid hur
            have HXP := Lib.hid hxp
            have HXR := Lib.hid hxr
            have HB := Lib.hid hb
            clear hup hur hxp hxr hb
            go_wp2_with fail
            refine (TU.out W18 hA).mono ?_
            rintro e W19 ⟨um, rfl, hum, hl⟩
            have hk : Below W18.heap.size W18 W19 := hl
            clear hl
            go_wp2_with fail
            refine (M1.out um W19 hum).mono ?_
            rintro e W20 ⟨rfl, hl⟩
            replace hk := bthen hk hl
            clear hum hl
            go_wp2_with fail
            refine (M2.out W20 (hA.carry hk)).mono ?_
            rintro e W21 ⟨rfl, hl⟩
            replace hk := bthen hk hl
            clear hl
            go_wp2_with fail
            refine (TT.out W21 (hO.carry hk)).mono ?_
            rintro e W22 ⟨uo, rfl, huo, hl⟩
            replace hk := bthen hk (show Below W21.heap.size W21 W22 from hl)
            clear hl
            go_wp2_with fail
            refine (O1.out uo W22 huo).mono ?_
            rintro e W23 ⟨rfl, hl⟩
            replace hk := bthen hk hl
            clear huo hl
            go_wp2_with fail
            refine (O2.out W23 (hO.carry hk)).mono ?_
            rintro e W24 ⟨rfl, hl⟩
            replace hk := bthen hk hl
            clear hl hA hO
            go_wp2_with fail
            refine (S1.out _ _ W24 (HUP.out.carry hk) (HXP.out.carry hk)).mono ?_
            rintro e W25 ⟨rfl, hl⟩
            replace hk := bthen hk hl
            clear hl
            go_wp2_with fail
            refine (S2.out _ _ W25 (HUR.out.carry hk) (HXR.out.carry hk)).mono ?_
            rintro e W26 ⟨rfl, hl⟩
            replace hk := bthen hk hl
            clear hl
            go_wp2
            go_ret
            exact ⟨rfl, bthen K2.out (bthen HB.out hk)⟩
end Go.Proofs.YtjcmohfpenfepaaGreatDoor

/- The law ValveLife. -/
import Derived.Test.YtgdkomgfalkihaaGreatDoorVhH
import Derived.Test.YtgdkomgfalkihaaGreatDoorVcN
namespace Go.Proofs.YtgdkomgfalkihaaGreatDoor
set_option linter.unusedSimpArgs false
set_option linter.unusedVariables false
open Go.RowKit Flp
theorem same_self (va vb : Value) (l : List Int) (W : World) (ha : Ints W va l) (hb : Ints W vb l) (hl : l.length ≤ 1000000000) :
 Calls Tryz.prog 40 #[va, vb] W fun e w' => e = .returned (.bool true) ∧ Below W.heap.size W w' := by
 have := SameInts_any va vb l l W ha hb hl
 rw [decide_eq_true rfl] at this
 exact this
theorem same_train (va vb : Value) (l : List P2) (W : World) (ha : Prs W va l) (hb : Prs W vb l) (hl : l.length ≤ 1000000000) :
 Calls Tryz.prog 20 #[va, vb] W fun e w' => e = .returned (.bool true) ∧ Below W.heap.size W w' := by
 have := SameTrain_any va vb l l W ha hb hl
 rw [decide_eq_true rfl] at this
 exact this
theorem own_setRow {w : World} {base e size n B : Nat} {cs : Array Value} {v : Value} {xs : List Value} (h : w.ownsRow base e size v n xs) (hB : B < base) : (w.setRow B cs).ownsRow base e size v n xs := by
 refine ⟨h.1, ?_⟩
 rcases h.2 with h1 | ⟨g, cap, cur, hv, hg, hh, hr⟩
 ·exact .inl h1
 ·exact .inr ⟨g, cap, cur, hv, hg, (setRow_other _ _ _ _ (show g ≠ B by omega)).trans hh, hr⟩
theorem short_le {n : Nat} (h : shortB n = true) : n ≤ 257 := by
 unfold shortB at h
 simp at h; omega
theorem misR_len (l : List P2) (t lim : Int) : (misR l t lim).length ≤ 12 := by
 unfold misR
 split
 ·exact misK_len _ _ _ _
 ·simp
theorem worR_len (xs : List Nat) (x : Nat) : (worR xs x).length ≤ 12 := by
 unfold worR
 split
 ·exact worK_len _ _ _
 ·simp
theorem substR_len (l : List P2) (f s : Int) : (substR l f s).length ≤ l.length := by
 unfold substR chgL
 split <;> simp
theorem lif_mis {l : List P2} {t lim : Int} : (misE l t lim = 0 → (0 ≤ t ∧ t ≤ 100000) ∧ (0 ≤ lim ∧ lim ≤ 100000) ∧ misR l t lim = misK l t lim 12) ∧ (misE l t lim ≠ 0 → misR l t lim = []) := by
 refine ⟨fun h => ?_, fun h => by unfold misR; rw [if_neg h]⟩
 have h1 := mis_ref l t lim
 rw [h, firstE_cons0, firstE_cons0, firstE_cons0, withinE_zero, withinE_zero] at h1
 exact ⟨h1.2.1, h1.2.2.1, by unfold misR; rw [if_pos h]⟩
theorem lif_wear {l : List P2} {ws : List Int} (h : wear1E l ws ≠ 0) : wearE l ws = wear1E l ws ∧ wearR l ws = zerF := by
 have e : wearE l ws = wear1E l ws := by unfold wearE; rw [if_neg h]
 exact ⟨e, by unfold wearR; rw [if_neg (by rw [e]; exact h)]⟩
theorem lif_sub {l : List P2} {f s : Int} : (firstE [trainE l, withinE f 0 11, withinE s 0 11] = 0 → TrOk l ∧ (0 ≤ f ∧ f ≤ 11) ∧ (0 ≤ s ∧ s ≤ 11)) ∧
 (firstE [trainE l, withinE f 0 11, withinE s 0 11] ≠ 0 → substE l f s = firstE [trainE l, withinE f 0 11, withinE s 0 11] ∧ substR l f s = []) := by
 refine ⟨fun h => ?_, fun h => ?_⟩
 ·rw [firstE_cons0, firstE_cons0, firstE_cons0, withinE_zero, withinE_zero] at h
  exact ⟨trainE_ok h.1, h.2.1, h.2.2.1⟩
 ·have e : subE l f s = firstE [trainE l, withinE f 0 11, withinE s 0 11] := by
   unfold subE
   simp only [firstE] at h ⊢
   split
   ·split
    ·split
     ·simp_all
     ·rfl
    ·rfl
   ·rfl
  have e2 : substE l f s = subE l f s := by unfold substE; rw [if_neg (by rw [e]; exact h)]
  exact ⟨e2.trans e, by unfold substR; rw [if_neg (by rw [e2, e]; exact h)]⟩
set_option maxRecDepth 100000 in
set_option maxHeartbeats 16000000 in
theorem lif_law (TA : ∀ W, Pows W → Heads W → Calls Tryz.prog 7 #[] W fun e w' => e = .returned (.bool true) ∧ Below W.heap.size W w')
 (v0 v1 : Value) (la lk : List P2) (ws : List Int) (xs : List Nat) (lim : Nat) (f s t late : Int) (w : World) (hws : ws.length = 12) (hxs : xs.length = 12) (hp : Pows w) (hh : Heads w) (hv0 : Prs w v0 la) (hv1 : Prs w v1 lk) :
 Calls Tryz.prog 6 #[v0, v1, .agg (lifA ws xs lim f s t late)] w fun e w' => e = .returned (.bool true) ∧ Below w.heap.size w w' := by
 have TA := Lib.hid TA
 obtain ⟨a1, p1, hve, -⟩ := hv0.slice
 obtain ⟨N, hN⟩ : ∃ N, N = la.length := ⟨_, rfl⟩
 rw [← hN] at hve
 subst hve
 obtain ⟨a2, p2, hve, -⟩ := hv1.slice
 obtain ⟨M, hM⟩ : ∃ M, M = lk.length := ⟨_, rfl⟩
 rw [← hM] at hve
 subst hve
 have T1 := Lib.hid (fun W => Short_any a1 N p1 W)
 have T2 := Lib.hid (fun W => ShortAcks_any a2 M p2 W)
 have HP := Lib.hid hp
 have HH := Lib.hid hh
 have HA := Lib.hid hv0
 have HB := Lib.hid hv1
 have HN := Lib.hid hN
 have HM := Lib.hid hM
 have HWS := Lib.hid hws
 have HXS := Lib.hid hxs
 have HS1 := Lib.hid (fun h : shortB N = true => short_le h)
 have HS2 := Lib.hid (fun h : shortA M = true => shortA_le h)
 obtain ⟨s1, hs1⟩ : ∃ b, b = shortB N := ⟨_, rfl⟩
 obtain ⟨s2, hs2⟩ : ∃ b, b = shortA M := ⟨_, rfl⟩
 rw [← hs1] at T1 HS1
 rw [← hs2] at T2 HS2
 clear hp hh hv0 hv1 hN hM hs1 hs2 hws hxs
 go_enter Tryz.func6, Tryz.ntmps6
 go_upto_region 1 with fail
 obtain ⟨W3, hW1⟩ : ∃ v, v = World.alloc w (Obj.cells (lifA ws xs lim f s t late) 87) := ⟨_, rfl⟩
 have k3 : Below w.heap.size w W3 := by rw [hW1]; exact below_new _ _
 have i5 : Blk W3 w.heap.size 87 (lifV ws xs lim f s t late) := by rw [hW1]; exact Blk.new _ _ _
 rw [← hW1]
 clear hW1
 obtain ⟨B5, hB5⟩ : ∃ g, g = w.heap.size := ⟨_, rfl⟩
 rw [← hB5] at i5 ⊢
 have HB5 := Lib.hid hB5
 have I5 := Lib.hid i5
 have K3 := Lib.hid k3
 clear i5 k3 hB5
 go_wp2_with fail
 refine (TA.out W3 (HP.out.carry K3.out) (HH.out.carry K3.out)).mono ?_
 rintro e w1 ⟨rfl, hb⟩
 go_wp2_with fail
 refine (T1.out w1).mono ?_
 rintro e w2 ⟨rfl, rfl⟩
 cases s1 with
 | false =>
   go_wp2_with fail
   refine (TA.out w1 (HP.out.carry (bthen K3.out hb)) (HH.out.carry (bthen K3.out hb))).mono ?_
   rintro e w2 ⟨rfl, hb2⟩
   go_wp2
   go_ret
   exact ⟨rfl, bthen K3.out (bthen hb hb2)⟩
 | true =>
   go_wp2_with fail
   refine (T2.out w1).mono ?_
   rintro e w2 ⟨rfl, rfl⟩
   clear T1 T2
   cases s2 with
   | false =>
     go_wp2_with fail
     refine (TA.out w1 (HP.out.carry (bthen K3.out hb)) (HH.out.carry (bthen K3.out hb))).mono ?_
     rintro e w2 ⟨rfl, hb2⟩
     go_wp2
     go_ret
     exact ⟨rfl, bthen K3.out (bthen hb hb2)⟩
   | true =>
     have h1 := HS1.out (by trivial)
     have h2 := HS2.out (by trivial)
     clear HS1 HS2 TA HH HP
     have hla : la.length ≤ 1000000 := by have := HN.out; omega
     have hlk : lk.length ≤ 1000000 := by have := HM.out; omega
     have TP := Lib.hid (fun W (h : Prs W (.slice a1 N p1) la) => pulses_any (.slice a1 N p1) la W hla h)
     have TK := Lib.hid (fun W (h : Prs W (.slice a2 M p2) lk) => acksL_any (.slice a2 M p2) lk W hlk h)
     have TM := Lib.hid (fun u W (h : Prs W u lk) => Missing_any u lk t late W hlk h)
     have TW := Lib.hid (fun u W (h : Prs W u la) => Wear_any u la ws W hla HWS.out h)
     have TO := Lib.hid (fun W => Worn_any xs lim W HXS.out)
     have TS := Lib.hid (fun u W (h : Prs W u la) => Substituted_any u la f s W hla h)
     have RK := Lib.hid (fun W (h : Prs W (.slice a2 M p2) lk) => CheckAcksR_any (.slice a2 M p2) lk W hlk h)
     have RT := Lib.hid (fun W (h : Prs W (.slice a1 N p1) la) => CheckTrainR_any (.slice a1 N p1) la W hla h)
     have RW := Lib.hid (fun W => CheckWeightsR_any ws W HWS.out)
     have RX := Lib.hid (fun W => CheckWearR_any xs lim W HXS.out)
     have R1 := Lib.hid (fun W => CheckTickR_any t W)
     have R2 := Lib.hid (fun W => CheckTickR_any late W)
     have R3 := Lib.hid (fun W => CheckValveR_any f W)
     have R4 := Lib.hid (fun W => CheckValveR_any s W)
     have hml := misR_len lk t late
     have hol := worR_len xs lim
     have hsl : (substR la f s).length ≤ 2000 := by have := substR_len la f s; have := HN.out; omega
     have hwl := wearR_len la ws
     have hwn := eqF12 (wearR la ws) hwl (wear_num la ws)
     have hm := @lif_mis lk t late
     have hw := @lif_wear la ws
     have hs := @lif_sub la f s
     have hmr := mis_ref lk t late
     have hwr : firstE [trainE la, eachE wgG ws] = wear1E la ws := rfl
     have HMF := Lib.hid (fun W (h1 : 0 ≤ t ∧ t ≤ 100000) (h2 : 0 ≤ late ∧ late ≤ 100000) (h : Prs W (.slice a2 M p2) lk) => MissingR_any (.slice a2 M p2) lk t late W hlk h1 h2 h)
     have HWF := Lib.hid (fun W (h1 : wear1E la ws = 0) (h : Prs W (.slice a1 N p1) la) => WearR_any (.slice a1 N p1) la ws W hla HWS.out h1 h)
     have HOF := Lib.hid (fun W (h1 : worE xs lim = 0) => WornR_any xs lim W HXS.out h1)
     have HSF := Lib.hid (fun W (h1 : TrOk la) (h2 : 0 ≤ f ∧ f ≤ 11) (h3 : 0 ≤ s ∧ s ≤ 11) (h : Prs W (.slice a1 N p1) la) => SubstitutedR_any (.slice a1 N p1) la f s W h1 h2 h3 h)
     have ho1 : worE xs lim ≠ 0 → worR xs lim = [] := fun h => by unfold worR; rw [if_neg h]
     obtain ⟨e1, he1⟩ : ∃ e, e = ackE lk := ⟨_, rfl⟩
     obtain ⟨e2, he2⟩ : ∃ e, e = withinE t 0 100000 := ⟨_, rfl⟩
     obtain ⟨e3, he3⟩ : ∃ e, e = withinE late 0 100000 := ⟨_, rfl⟩
     obtain ⟨e4, he4⟩ : ∃ e, e = trainE la := ⟨_, rfl⟩
     obtain ⟨e5, he5⟩ : ∃ e, e = eachE wgG ws := ⟨_, rfl⟩
     obtain ⟨e6, he6⟩ : ∃ e, e = withinE f 0 11 := ⟨_, rfl⟩
     obtain ⟨e7, he7⟩ : ∃ e, e = withinE s 0 11 := ⟨_, rfl⟩
     have F1 := Lib.hid (fun u W (h : Ints W u [e1, e2, e3]) => firstL7_any u [e1, e2, e3] W (by simp) h)
     have F2 := Lib.hid (fun u W (h : Ints W u [e4, e5]) => firstL7_any u [e4, e5] W (by simp) h)
     have F4 := Lib.hid (fun u W (h : Ints W u [e4, e6, e7]) => firstL7_any u [e4, e6, e7] W (by simp) h)
     rw [← he1, ← he2, ← he3] at hmr
     rw [hmr] at F1
     rw [← he4, ← he5] at hwr
     rw [hwr] at F2
     rw [← he4, ← he6, ← he7] at hs
     rw [← he1] at RK
     rw [← he2] at R1
     rw [← he3] at R2
     rw [← he4] at RT
     rw [← he5] at RW
     rw [← he6] at R3
     rw [← he7] at R4
     obtain ⟨ME, hME⟩ : ∃ e, e = misE lk t late := ⟨_, rfl⟩
     obtain ⟨MR, hMR⟩ : ∃ e, e = misR lk t late := ⟨_, rfl⟩
     obtain ⟨WE1, hWE1⟩ : ∃ e, e = wear1E la ws := ⟨_, rfl⟩
     obtain ⟨WE, hWE⟩ : ∃ e, e = wearE la ws := ⟨_, rfl⟩
     obtain ⟨WR, hWR⟩ : ∃ e, e = wearR la ws := ⟨_, rfl⟩
     obtain ⟨OE, hOE⟩ : ∃ e, e = worE xs lim := ⟨_, rfl⟩
     obtain ⟨OR, hOR⟩ : ∃ e, e = worR xs lim := ⟨_, rfl⟩
     obtain ⟨SE, hSE⟩ : ∃ e, e = substE la f s := ⟨_, rfl⟩
     obtain ⟨SR, hSR⟩ : ∃ e, e = substR la f s := ⟨_, rfl⟩
     obtain ⟨E4, hE4⟩ : ∃ e, e = firstE [e4, e6, e7] := ⟨_, rfl⟩
     rw [← hME] at F1 hm TM
     rw [← hMR] at TM hm hml
     rw [← hWE1] at F2 hw HWF
     rw [← hWE] at TW hw HWF
     rw [← hWR] at TW hw HWF hwl hwn
     rw [← hOE] at TO RX ho1 HOF
     rw [← hOR] at TO ho1 HOF hol
     rw [← hSE] at TS hs HSF
     rw [← hSR] at TS hs HSF hsl
     rw [← hE4] at F4 hs
     have HM1 := Lib.hid hm
     have HW1 := Lib.hid hw
     have HS1 := Lib.hid hs
     have HO1 := Lib.hid ho1
     have HML := Lib.hid hml
     have HOL := Lib.hid hol
     have HSL := Lib.hid hsl
     have HWL := Lib.hid hwl
     have HWN := Lib.hid hwn
     clear hm hw hs ho1 hml hol hsl hwl hwn hmr hwr hME hMR hWE1 hWE hWR hOE hOR hSE hSR hE4 he1 he2 he3 he4 he5 he6 he7 hla hlk
     obtain ⟨c24, c25, c26, c27, c28⟩ := lif_cells HWS.out HXS.out (I5.out.carry hb)
     go_upto_region 3 with fail
     refine wp_region_held_drew (S := (fun W => W.cell? ⟨B5, 27, none⟩ = some (.int .i64 t) ∧ W.cell? ⟨B5, 28, none⟩ = some (.int .i64 late))) (by kernel_rfl) ⟨cellb c27 (Below.refl _ _).drew, cellb c28 (Below.refl _ _).drew⟩ (fun hHeld0 => ?_)
     obtain ⟨wzd, hwz⟩ : ∃ v, v = w1.drew := ⟨_, rfl⟩
     rw [← hwz] at hHeld0 ⊢
     have hbzd : Below w1.heap.size w1 wzd := by rw [hwz]; exact (Below.refl _ _).drew
     have hlzd : Below w1.heap.size w1 wzd := by rw [hwz]; exact (Below.refl _ _).drew
     clear hwz hlzd
     refine wpAnyH_take (i := 0) (oi := ⟨some 37, .move (.tmp 1), 82, "law.go:259", #[], none⟩) (v := ?_) rfl (by kernel_rfl) (by kernel_rfl) (by kernel_rfl) (fun _ _ _ h => h) (Or.inl ⟨by rfl, ?_⟩) (by assumption) ?_
     rotate_left
     ·(intro w hSw; (try dsimp only at hSw); go_simp); (try with_reducible rfl)
     try simp only [Act.put, zS]
     refine wpAnyH_take (i := 2) (oi := ⟨some 39, .fieldAddr 87 (.tmp 5) 5, 0, "law.go:259", #[], none⟩) (v := ?_) rfl (by kernel_rfl) (by kernel_rfl) (by kernel_rfl) (fun _ _ _ h => h) (Or.inl ⟨by rfl, ?_⟩) (by assumption) ?_
     rotate_left
     ·(intro w hSw; (try dsimp only at hSw); go_simp); (try with_reducible rfl)
     try simp only [Act.put, zS]
     refine wpAnyH_take (i := 3) (oi := ⟨some 40, .load 3 (.tmp 39), 3, "law.go:259", #[⟨2, .data⟩], none⟩) (v := ?_) rfl (by kernel_rfl) (by kernel_rfl) (by kernel_rfl) (fun _ _ _ h => h) (Or.inl ⟨by rfl, ?_⟩) (by assumption) ?_
     rotate_left
     ·(intro w hSw; (try dsimp only at hSw); go_simp); (try with_reducible rfl)
     try simp only [Act.put, zS]
     refine wpAnyH_take (i := 4) (oi := ⟨some 41, .fieldAddr 87 (.tmp 5) 6, 0, "law.go:259", #[], none⟩) (v := ?_) rfl (by kernel_rfl) (by kernel_rfl) (by kernel_rfl) (fun _ _ _ h => h) (Or.inl ⟨by rfl, ?_⟩) (by assumption) ?_
     rotate_left
     ·(intro w hSw; (try dsimp only at hSw); go_simp); (try with_reducible rfl)
     try simp only [Act.put, zS]
     refine wpAnyH_take (i := 5) (oi := ⟨some 42, .load 3 (.tmp 41), 3, "law.go:259", #[⟨4, .data⟩], none⟩) (v := ?_) rfl (by kernel_rfl) (by kernel_rfl) (by kernel_rfl) (fun _ _ _ h => h) (Or.inl ⟨by rfl, ?_⟩) (by assumption) ?_
     rotate_left
     ·(intro w hSw; (try dsimp only at hSw); go_simp); (try with_reducible rfl)
     try simp only [Act.put, zS]
     refine wpAnyH_ready (rs := [1]) (by kernel_rfl) (by simp) ?_
     refine (AllReadyH.cons (o := ⟨some 38, .call ⟨.value (.func 43), #[.tmp 37], #[82]⟩, 90, "law.go:259", #[⟨0, .data⟩], none⟩) rfl (fun K hK => ?_) AllReadyH.nil)
     go_simp
     refine (TK.out wzd (HB.out.carry (bthen K3.out (bthen hb hbzd)))).mono ?_
     rintro e wz1 ⟨⟨uk, rfl, hk⟩, hl⟩
     replace hk : Prs _ _ lk := hk.rw pV_len
     (try go_wp2_with fail)
     have hbz1 := bthen hbzd hl
     clear hl
     refine hK.out _ _ ⟨cellb c27 hbz1, cellb c28 hbz1⟩ (fun hHeld1 => ?_)
     clear hK K hHeld0
     try simp only [Act.put, zS]
     refine wpAnyH_ready (rs := [6]) (by kernel_rfl) (by simp) ?_
     refine (AllReadyH.cons (o := ⟨some 43, .call ⟨.value (.func 42), #[.tmp 38, .tmp 40, .tmp 42], #[90, 3, 3]⟩, 71, "law.go:259", #[⟨1, .data⟩, ⟨3, .data⟩, ⟨5, .data⟩, ⟨1, .chain⟩], none⟩) rfl (fun K hK => ?_) AllReadyH.nil)
     go_simp
     refine (TM.out uk wz1 hk).mono ?_
     rintro e wz6 ⟨⟨u7, rfl, h7⟩, hl⟩
     (try go_wp2_with fail)
     have hbz6 := bthen hbz1 hl
     have hk := hk.carry hl
     clear hl
     refine hK.out _ _ ⟨cellb c27 hbz6, cellb c28 hbz6⟩ (fun hHeld2 => ?_)
     clear hK K hHeld1
     try simp only [Act.put, zS]
     refine wpAnyH_take (i := 7) (oi := ⟨some 36, .move (.tmp 43), 71, "law.go:259", #[⟨6, .data⟩], none⟩) (v := ?_) rfl (by kernel_rfl) (by kernel_rfl) (by kernel_rfl) (fun _ _ _ h => h) (Or.inl ⟨by rfl, ?_⟩) (by assumption) ?_
     rotate_left
     ·(intro w hSw; (try dsimp only at hSw); go_simp); (try with_reducible rfl)
     try simp only [Act.put, zS]
     refine wpAnyH_take (i := 8) (oi := ⟨some 44, .extract (.tmp 36) 0, 70, "law.go:259", #[⟨7, .data⟩], none⟩) (v := ?_) rfl (by kernel_rfl) (by kernel_rfl) (by kernel_rfl) (fun _ _ _ h => h) (Or.inl ⟨by rfl, ?_⟩) (by assumption) ?_
     rotate_left
     ·(intro w hSw; (try dsimp only at hSw); go_simp); (try with_reducible rfl)
     try simp only [Act.put, zS]
     refine wpAnyH_take (i := 9) (oi := ⟨some 45, .extract (.tmp 36) 1, 28, "law.go:259", #[⟨7, .data⟩, { on := 10, ground := Ground.gcOnly Departure.lateStores }], none⟩) (v := ?_) rfl (by kernel_rfl) (by kernel_rfl) (by kernel_rfl) (fun _ _ _ h => h) (Or.inl ⟨by rfl, ?_⟩) (by assumption) ?_
     rotate_left
     ·(intro w hSw; (try dsimp only at hSw); go_simp); (try with_reducible rfl)
     try simp only [Act.put, zS]
     refine wpAnyH_take (i := 10) (oi := ⟨some 7, .assign (.tmp 44), 70, "law.go:259", #[⟨8, .data⟩, ⟨6, .chain⟩, ⟨0, .phase⟩, ⟨1, .phase⟩, ⟨2, .phase⟩, ⟨3, .phase⟩, ⟨4, .phase⟩, ⟨5, .phase⟩, ⟨6, .phase⟩, ⟨7, .phase⟩, ⟨8, .phase⟩, { on := 9, ground := Ground.textOnly Departure.lateStores }], none⟩) (v := ?_) rfl (by kernel_rfl) (by kernel_rfl) (by kernel_rfl) (fun _ _ _ h => h) (Or.inl ⟨by rfl, ?_⟩) (by assumption) ?_
     rotate_left
     ·(intro w hSw; (try dsimp only at hSw); go_simp); (try with_reducible rfl)
     try simp only [Act.put, zS]
     refine wpAnyH_take (i := 11) (oi := ⟨some 8, .assign (.tmp 45), 28, "law.go:259", #[⟨9, .data⟩, ⟨10, .chain⟩, ⟨0, .phase⟩, ⟨1, .phase⟩, ⟨2, .phase⟩, ⟨3, .phase⟩, ⟨4, .phase⟩, ⟨5, .phase⟩, ⟨6, .phase⟩, ⟨7, .phase⟩, ⟨8, .phase⟩, ⟨9, .phase⟩, ⟨10, .phase⟩], none⟩) (v := ?_) rfl (by kernel_rfl) (by kernel_rfl) (by kernel_rfl) (fun _ _ _ h => h) (Or.inl ⟨by rfl, ?_⟩) (by assumption) ?_
     rotate_left
     ·(intro w hSw; (try dsimp only at hSw); go_simp); (try with_reducible rfl)
     try simp only [Act.put, zS]
     refine wpAnyH_done (by kernel_rfl) ?_ _
     clear hHeld2
     have hb2 := hbz6
     obtain ⟨W4, hW4⟩ : ∃ v, v = wz6 := ⟨_, rfl⟩
     rw [← hW4] at hb2 h7 ⊢
     clear hW4
     rename_i W4
     replace hb := bthen hb hb2
     clear c24 c25 c26 c27 c28 hb2
     have iL := I5.out.carry hb
     go_upto_region 4 with fail
     go_cut [9, 10] from 46 to 53 (fun u9 u10 wn => u10 = .int .i64 WE ∧ ∃ G9, u9 = .pointer (some ⟨G9, 0, none⟩) ∧ BlkF wn G9 85 WR ∧ Below W4.heap.size W4 wn)
     case first =>
      refine wp_region_held_drew (S := (fun W => Blk W B5 87 (lifV ws xs lim f s t late))) (by kernel_rfl) (Blk.carry iL (Below.refl _ _).drew) (fun hHeld0 => ?_)
      obtain ⟨wzd, hwz⟩ : ∃ v, v = W4.drew := ⟨_, rfl⟩
      rw [← hwz] at hHeld0 ⊢
      have hbzd : Below W4.heap.size W4 wzd := by rw [hwz]; exact (Below.refl _ _).drew
      have hlzd : Below W4.heap.size W4 wzd := by rw [hwz]; exact (Below.refl _ _).drew
      clear hwz hlzd
      refine wpAnyH_take (i := 0) (oi := ⟨some 47, .move (.tmp 0), 22, "law.go:260", #[], none⟩) (v := ?_) rfl (by kernel_rfl) (by kernel_rfl) (by kernel_rfl) (fun _ _ _ h => h) (Or.inl ⟨by rfl, ?_⟩) (by assumption) ?_
      rotate_left
      ·(intro w hSw; (try dsimp only at hSw); go_simp); (try with_reducible rfl)
      try simp only [Act.put, zS]
      refine wpAnyH_take (i := 2) (oi := ⟨some 49, .fieldAddr 87 (.tmp 5) 0, 0, "law.go:260", #[], none⟩) (v := ?_) rfl (by kernel_rfl) (by kernel_rfl) (by kernel_rfl) (fun _ _ _ h => h) (Or.inl ⟨by rfl, ?_⟩) (by assumption) ?_
      rotate_left
      ·(intro w hSw; (try dsimp only at hSw); go_simp); (try with_reducible rfl)
      try simp only [Act.put, zS]
      refine wpAnyH_take (i := 3) (oi := ⟨some 50, .load 83 (.tmp 49), 83, "law.go:260", #[⟨2, .data⟩], none⟩) (v := ?_) rfl (by kernel_rfl) (by kernel_rfl) (by kernel_rfl) (fun _ _ _ h => h) (Or.inl ⟨by rfl, ?_⟩) (by assumption) ?_
      rotate_left
      ·(intro w hSw; (try dsimp only at hSw); refine Eq.trans (exec_load rfl (lif_loadI HWS.out hSw)) ?_); (try with_reducible rfl)
      try simp only [Act.put, zS]
      refine wpAnyH_ready (rs := [1, 8]) (by kernel_rfl) (by simp) ?_
      refine (AllReadyH.cons (o := ⟨some 48, .call ⟨.value (.func 45), #[.tmp 47], #[22]⟩, 31, "law.go:260", #[⟨0, .data⟩], none⟩) rfl (fun K hK => ?_) (AllReadyH.cons (o := ⟨some 9, .alloc 85, 0, "law.go:260", #[], none⟩) rfl (fun K hK => ?_) AllReadyH.nil))
      ·go_simp
       refine (TP.out wzd (HA.out.carry (bthen K3.out (bthen hb hbzd)))).mono ?_
       rintro e wz1 ⟨⟨up, rfl, hu⟩, hl⟩
       replace hu : Prs _ _ la := hu.rw pV_len
       (try go_wp2_with fail)
       have hbz1 := bthen hbzd hl
       clear hl
       refine hK.out _ _ (Blk.carry iL hbz1) (fun hHeld1 => ?_)
       clear hK K hHeld0
       try simp only [Act.put, zS]
       refine wpAnyH_ready (rs := [4, 8]) (by kernel_rfl) (by simp) ?_
       refine (AllReadyH.cons (o := ⟨some 51, .call ⟨.value (.func 44), #[.tmp 48, .tmp 50], #[31, 83]⟩, 92, "law.go:260", #[⟨1, .data⟩, ⟨3, .data⟩, ⟨1, .chain⟩], none⟩) rfl (fun K hK => ?_) (AllReadyH.cons (o := ⟨some 9, .alloc 85, 0, "law.go:260", #[], none⟩) rfl (fun K hK => ?_) AllReadyH.nil))
       ·go_simp
        refine (TW.out up wz1 hu).mono ?_
        rintro e wz4 ⟨rfl, hl⟩
        (try go_wp2_with fail)
        have hbz4 := bthen hbz1 hl
        have hu := hu.carry hl
        clear hl
        refine hK.out _ _ (Blk.carry iL hbz4) (fun hHeld2 => ?_)
        clear hK K hHeld1
        try simp only [Act.put, zS]
        refine wpAnyH_take (i := 5) (oi := ⟨some 46, .move (.tmp 51), 92, "law.go:260", #[⟨4, .data⟩], none⟩) (v := ?_) rfl (by kernel_rfl) (by kernel_rfl) (by kernel_rfl) (fun _ _ _ h => h) (Or.inl ⟨by rfl, ?_⟩) (by assumption) ?_
        rotate_left
        ·(intro w hSw; (try dsimp only at hSw); go_simp); (try with_reducible rfl)
        try simp only [Act.put, zS]
        refine wpAnyH_take (i := 6) (oi := ⟨some 52, .extract (.tmp 46) 0, 85, "law.go:260", #[⟨5, .data⟩], none⟩) (v := ?_) rfl (by kernel_rfl) (by kernel_rfl) (by kernel_rfl) (fun _ _ _ h => h) (Or.inl ⟨by rfl, ?_⟩) (by assumption) ?_
        rotate_left
        ·(intro w hSw; (try dsimp only at hSw); go_simp); (try with_reducible rfl)
        try simp only [Act.put, zS]
        refine wpAnyH_take (i := 7) (oi := ⟨some 53, .extract (.tmp 46) 1, 28, "law.go:260", #[⟨5, .data⟩, { on := 9, ground := Ground.gcOnly Departure.lateStores }], none⟩) (v := ?_) rfl (by kernel_rfl) (by kernel_rfl) (by kernel_rfl) (fun _ _ _ h => h) (Or.inl ⟨by rfl, ?_⟩) (by assumption) ?_
        rotate_left
        ·(intro w hSw; (try dsimp only at hSw); go_simp); (try with_reducible rfl)
        try simp only [Act.put, zS]
        refine wpAnyH_ready (rs := [8]) (by kernel_rfl) (by simp) ?_
        refine (AllReadyH.cons (o := ⟨some 9, .alloc 85, 0, "law.go:260", #[], none⟩) rfl (fun K hK => ?_) AllReadyH.nil)
        go_simp
        obtain ⟨wz8, hwz⟩ : ∃ v, v = wz4.alloc (Obj.cells #[Value.float FloatKind.f32 0, Value.float FloatKind.f32 0, Value.float FloatKind.f32 0, Value.float FloatKind.f32 0, Value.float FloatKind.f32 0, Value.float FloatKind.f32 0, Value.float FloatKind.f32 0, Value.float FloatKind.f32 0, Value.float FloatKind.f32 0, Value.float FloatKind.f32 0, Value.float FloatKind.f32 0, Value.float FloatKind.f32 0] 85) := ⟨_, rfl⟩
        rw [← hwz]
        have hl : Below wz4.heap.size wz4 wz8 := by rw [hwz]; exact below_new _ _
        have hbz8 := bthen hbz4 hl
        have i9 : BlkF wz8 wz4.heap.size 85 zerF := by rw [hwz]; exact Blk.new _ _ _
        have hG9 : W4.heap.size ≤ wz4.heap.size := (hbz4).size
        generalize wz4.heap.size = G9 at i9 hG9 ⊢
        clear hwz
        have hu := hu.carry hl
        clear hl
        refine hK.out _ _ (Blk.carry iL hbz8) (fun hHeld3 => ?_)
        clear hK K hHeld2
        try simp only [Act.put, zS]
        refine wpAnyH_ready (rs := [9]) (by kernel_rfl) (by simp) ?_
        refine (AllReadyH.cons (o := ⟨none, .store 85 (.tmp 9) (.tmp 52), 0, "law.go:260", #[⟨8, .data⟩, ⟨6, .data⟩, ⟨4, .chain⟩, ⟨0, .phase⟩, ⟨1, .phase⟩, ⟨2, .phase⟩, ⟨3, .phase⟩, ⟨4, .phase⟩, ⟨5, .phase⟩, ⟨6, .phase⟩, { on := 7, ground := Ground.textOnly Departure.lateStores }, ⟨8, .phase⟩], none⟩) rfl (fun K hK => ?_) AllReadyH.nil)
        refine wp_storeF _ _ _ rfl G9 WR zerF rfl rfl i9 (by rw [HWL.out]; rfl) (by rw [HWL.out]; exact Tryz.infoF12) ?_
        obtain ⟨wz9, hwz⟩ : ∃ v, v = World.setRow wz8 G9 (fa WR) := ⟨_, rfl⟩
        rw [← hwz]
        have hbz9 : Below W4.heap.size W4 wz9 := by rw [hwz]; exact below_rowA hbz8 hG9 _
        replace i9 := BlkF.setRowA i9 WR
        rw [← hwz] at i9
        refine hK.out _ _ (Blk.carry iL hbz9) (fun hHeld4 => ?_)
        clear hK K hHeld3
        try simp only [Act.put, zS]
        refine wpAnyH_take (i := 10) (oi := ⟨some 10, .assign (.tmp 53), 28, "law.go:260", #[⟨7, .data⟩, ⟨9, .chain⟩, ⟨0, .phase⟩, ⟨1, .phase⟩, ⟨2, .phase⟩, ⟨3, .phase⟩, ⟨4, .phase⟩, ⟨5, .phase⟩, ⟨6, .phase⟩, ⟨7, .phase⟩, ⟨8, .phase⟩, ⟨9, .phase⟩], none⟩) (v := ?_) rfl (by kernel_rfl) (by kernel_rfl) (by kernel_rfl) (fun _ _ _ h => h) (Or.inl ⟨by rfl, ?_⟩) (by assumption) ?_
        rotate_left
        ·(intro w hSw; (try dsimp only at hSw); go_simp); (try with_reducible rfl)
        try simp only [Act.put, zS]
        refine wpAnyH_done (by kernel_rfl) ?_ _
        clear hHeld4
        have hb2 := hbz9
        obtain ⟨W5, hW5⟩ : ∃ v, v = wz9 := ⟨_, rfl⟩
        rw [← hW5] at hb2 i9 ⊢
        clear hW5
        go_wp2_with fail
        go_meet
        exact ⟨rfl, _, rfl, i9, hb2⟩
       ·go_simp
        obtain ⟨wz8, hwz⟩ : ∃ v, v = wz1.alloc (Obj.cells #[Value.float FloatKind.f32 0, Value.float FloatKind.f32 0, Value.float FloatKind.f32 0, Value.float FloatKind.f32 0, Value.float FloatKind.f32 0, Value.float FloatKind.f32 0, Value.float FloatKind.f32 0, Value.float FloatKind.f32 0, Value.float FloatKind.f32 0, Value.float FloatKind.f32 0, Value.float FloatKind.f32 0, Value.float FloatKind.f32 0] 85) := ⟨_, rfl⟩
        rw [← hwz]
        have hl : Below wz1.heap.size wz1 wz8 := by rw [hwz]; exact below_new _ _
        have hbz8 := bthen hbz1 hl
        have i9 : BlkF wz8 wz1.heap.size 85 zerF := by rw [hwz]; exact Blk.new _ _ _
        have hG9 : W4.heap.size ≤ wz1.heap.size := (hbz1).size
        generalize wz1.heap.size = G9 at i9 hG9 ⊢
        clear hwz
        have hu := hu.carry hl
        clear hl
        refine hK.out _ _ (Blk.carry iL hbz8) (fun hHeld2 => ?_)
        clear hK K hHeld1
        try simp only [Act.put, zS]
        refine wpAnyH_ready (rs := [4]) (by kernel_rfl) (by simp) ?_
        refine (AllReadyH.cons (o := ⟨some 51, .call ⟨.value (.func 44), #[.tmp 48, .tmp 50], #[31, 83]⟩, 92, "law.go:260", #[⟨1, .data⟩, ⟨3, .data⟩, ⟨1, .chain⟩], none⟩) rfl (fun K hK => ?_) AllReadyH.nil)
        go_simp
        refine (TW.out up wz8 hu).mono ?_
        rintro e wz4 ⟨rfl, hl⟩
        (try go_wp2_with fail)
        have hbz4 := bthen hbz8 hl
        have hu := hu.carry hl
        have i9 := i9.carry hl
        clear hl
        refine hK.out _ _ (Blk.carry iL hbz4) (fun hHeld3 => ?_)
        clear hK K hHeld2
        try simp only [Act.put, zS]
        refine wpAnyH_take (i := 5) (oi := ⟨some 46, .move (.tmp 51), 92, "law.go:260", #[⟨4, .data⟩], none⟩) (v := ?_) rfl (by kernel_rfl) (by kernel_rfl) (by kernel_rfl) (fun _ _ _ h => h) (Or.inl ⟨by rfl, ?_⟩) (by assumption) ?_
        rotate_left
        ·(intro w hSw; (try dsimp only at hSw); go_simp); (try with_reducible rfl)
        try simp only [Act.put, zS]
        refine wpAnyH_take (i := 6) (oi := ⟨some 52, .extract (.tmp 46) 0, 85, "law.go:260", #[⟨5, .data⟩], none⟩) (v := ?_) rfl (by kernel_rfl) (by kernel_rfl) (by kernel_rfl) (fun _ _ _ h => h) (Or.inl ⟨by rfl, ?_⟩) (by assumption) ?_
        rotate_left
        ·(intro w hSw; (try dsimp only at hSw); go_simp); (try with_reducible rfl)
        try simp only [Act.put, zS]
        refine wpAnyH_take (i := 7) (oi := ⟨some 53, .extract (.tmp 46) 1, 28, "law.go:260", #[⟨5, .data⟩, { on := 9, ground := Ground.gcOnly Departure.lateStores }], none⟩) (v := ?_) rfl (by kernel_rfl) (by kernel_rfl) (by kernel_rfl) (fun _ _ _ h => h) (Or.inl ⟨by rfl, ?_⟩) (by assumption) ?_
        rotate_left
        ·(intro w hSw; (try dsimp only at hSw); go_simp); (try with_reducible rfl)
        try simp only [Act.put, zS]
        refine wpAnyH_ready (rs := [9]) (by kernel_rfl) (by simp) ?_
        refine (AllReadyH.cons (o := ⟨none, .store 85 (.tmp 9) (.tmp 52), 0, "law.go:260", #[⟨8, .data⟩, ⟨6, .data⟩, ⟨4, .chain⟩, ⟨0, .phase⟩, ⟨1, .phase⟩, ⟨2, .phase⟩, ⟨3, .phase⟩, ⟨4, .phase⟩, ⟨5, .phase⟩, ⟨6, .phase⟩, { on := 7, ground := Ground.textOnly Departure.lateStores }, ⟨8, .phase⟩], none⟩) rfl (fun K hK => ?_) AllReadyH.nil)
        refine wp_storeF _ _ _ rfl G9 WR zerF rfl rfl i9 (by rw [HWL.out]; rfl) (by rw [HWL.out]; exact Tryz.infoF12) ?_
        obtain ⟨wz9, hwz⟩ : ∃ v, v = World.setRow wz4 G9 (fa WR) := ⟨_, rfl⟩
        rw [← hwz]
        have hbz9 : Below W4.heap.size W4 wz9 := by rw [hwz]; exact below_rowA hbz4 hG9 _
        replace i9 := BlkF.setRowA i9 WR
        rw [← hwz] at i9
        refine hK.out _ _ (Blk.carry iL hbz9) (fun hHeld4 => ?_)
        clear hK K hHeld3
        try simp only [Act.put, zS]
        refine wpAnyH_take (i := 10) (oi := ⟨some 10, .assign (.tmp 53), 28, "law.go:260", #[⟨7, .data⟩, ⟨9, .chain⟩, ⟨0, .phase⟩, ⟨1, .phase⟩, ⟨2, .phase⟩, ⟨3, .phase⟩, ⟨4, .phase⟩, ⟨5, .phase⟩, ⟨6, .phase⟩, ⟨7, .phase⟩, ⟨8, .phase⟩, ⟨9, .phase⟩], none⟩) (v := ?_) rfl (by kernel_rfl) (by kernel_rfl) (by kernel_rfl) (fun _ _ _ h => h) (Or.inl ⟨by rfl, ?_⟩) (by assumption) ?_
        rotate_left
        ·(intro w hSw; (try dsimp only at hSw); go_simp); (try with_reducible rfl)
        try simp only [Act.put, zS]
        refine wpAnyH_done (by kernel_rfl) ?_ _
        clear hHeld4
        have hb2 := hbz9
        obtain ⟨W5, hW5⟩ : ∃ v, v = wz9 := ⟨_, rfl⟩
        rw [← hW5] at hb2 i9 ⊢
        clear hW5
        go_wp2_with fail
        go_meet
        exact ⟨rfl, _, rfl, i9, hb2⟩
      ·go_simp
       obtain ⟨wz8, hwz⟩ : ∃ v, v = wzd.alloc (Obj.cells #[Value.float FloatKind.f32 0, Value.float FloatKind.f32 0, Value.float FloatKind.f32 0, Value.float FloatKind.f32 0, Value.float FloatKind.f32 0, Value.float FloatKind.f32 0, Value.float FloatKind.f32 0, Value.float FloatKind.f32 0, Value.float FloatKind.f32 0, Value.float FloatKind.f32 0, Value.float FloatKind.f32 0, Value.float FloatKind.f32 0] 85) := ⟨_, rfl⟩
       rw [← hwz]
       have hl : Below wzd.heap.size wzd wz8 := by rw [hwz]; exact below_new _ _
       have hbz8 := bthen hbzd hl
       have i9 : BlkF wz8 wzd.heap.size 85 zerF := by rw [hwz]; exact Blk.new _ _ _
       have hG9 : W4.heap.size ≤ wzd.heap.size := (hbzd).size
       generalize wzd.heap.size = G9 at i9 hG9 ⊢
       clear hwz
       clear hl
       refine hK.out _ _ (Blk.carry iL hbz8) (fun hHeld1 => ?_)
       clear hK K hHeld0
       try simp only [Act.put, zS]
       refine wpAnyH_ready (rs := [1]) (by kernel_rfl) (by simp) ?_
       refine (AllReadyH.cons (o := ⟨some 48, .call ⟨.value (.func 45), #[.tmp 47], #[22]⟩, 31, "law.go:260", #[⟨0, .data⟩], none⟩) rfl (fun K hK => ?_) AllReadyH.nil)
       go_simp
       refine (TP.out wz8 (HA.out.carry (bthen K3.out (bthen hb hbz8)))).mono ?_
       rintro e wz1 ⟨⟨up, rfl, hu⟩, hl⟩
       replace hu : Prs _ _ la := hu.rw pV_len
       (try go_wp2_with fail)
       have hbz1 := bthen hbz8 hl
       have i9 := i9.carry hl
       clear hl
       refine hK.out _ _ (Blk.carry iL hbz1) (fun hHeld2 => ?_)
       clear hK K hHeld1
       try simp only [Act.put, zS]
       refine wpAnyH_ready (rs := [4]) (by kernel_rfl) (by simp) ?_
       refine (AllReadyH.cons (o := ⟨some 51, .call ⟨.value (.func 44), #[.tmp 48, .tmp 50], #[31, 83]⟩, 92, "law.go:260", #[⟨1, .data⟩, ⟨3, .data⟩, ⟨1, .chain⟩], none⟩) rfl (fun K hK => ?_) AllReadyH.nil)
       go_simp
       refine (TW.out up wz1 hu).mono ?_
       rintro e wz4 ⟨rfl, hl⟩
       (try go_wp2_with fail)
       have hbz4 := bthen hbz1 hl
       have i9 := i9.carry hl
       have hu := hu.carry hl
       clear hl
       refine hK.out _ _ (Blk.carry iL hbz4) (fun hHeld3 => ?_)
       clear hK K hHeld2
       try simp only [Act.put, zS]
       refine wpAnyH_take (i := 5) (oi := ⟨some 46, .move (.tmp 51), 92, "law.go:260", #[⟨4, .data⟩], none⟩) (v := ?_) rfl (by kernel_rfl) (by kernel_rfl) (by kernel_rfl) (fun _ _ _ h => h) (Or.inl ⟨by rfl, ?_⟩) (by assumption) ?_
       rotate_left
       ·(intro w hSw; (try dsimp only at hSw); go_simp); (try with_reducible rfl)
       try simp only [Act.put, zS]
       refine wpAnyH_take (i := 6) (oi := ⟨some 52, .extract (.tmp 46) 0, 85, "law.go:260", #[⟨5, .data⟩], none⟩) (v := ?_) rfl (by kernel_rfl) (by kernel_rfl) (by kernel_rfl) (fun _ _ _ h => h) (Or.inl ⟨by rfl, ?_⟩) (by assumption) ?_
       rotate_left
       ·(intro w hSw; (try dsimp only at hSw); go_simp); (try with_reducible rfl)
       try simp only [Act.put, zS]
       refine wpAnyH_take (i := 7) (oi := ⟨some 53, .extract (.tmp 46) 1, 28, "law.go:260", #[⟨5, .data⟩, { on := 9, ground := Ground.gcOnly Departure.lateStores }], none⟩) (v := ?_) rfl (by kernel_rfl) (by kernel_rfl) (by kernel_rfl) (fun _ _ _ h => h) (Or.inl ⟨by rfl, ?_⟩) (by assumption) ?_
       rotate_left
       ·(intro w hSw; (try dsimp only at hSw); go_simp); (try with_reducible rfl)
       try simp only [Act.put, zS]
       refine wpAnyH_ready (rs := [9]) (by kernel_rfl) (by simp) ?_
       refine (AllReadyH.cons (o := ⟨none, .store 85 (.tmp 9) (.tmp 52), 0, "law.go:260", #[⟨8, .data⟩, ⟨6, .data⟩, ⟨4, .chain⟩, ⟨0, .phase⟩, ⟨1, .phase⟩, ⟨2, .phase⟩, ⟨3, .phase⟩, ⟨4, .phase⟩, ⟨5, .phase⟩, ⟨6, .phase⟩, { on := 7, ground := Ground.textOnly Departure.lateStores }, ⟨8, .phase⟩], none⟩) rfl (fun K hK => ?_) AllReadyH.nil)
       refine wp_storeF _ _ _ rfl G9 WR zerF rfl rfl i9 (by rw [HWL.out]; rfl) (by rw [HWL.out]; exact Tryz.infoF12) ?_
       obtain ⟨wz9, hwz⟩ : ∃ v, v = World.setRow wz4 G9 (fa WR) := ⟨_, rfl⟩
       rw [← hwz]
       have hbz9 : Below W4.heap.size W4 wz9 := by rw [hwz]; exact below_rowA hbz4 hG9 _
       replace i9 := BlkF.setRowA i9 WR
       rw [← hwz] at i9
       refine hK.out _ _ (Blk.carry iL hbz9) (fun hHeld4 => ?_)
       clear hK K hHeld3
       try simp only [Act.put, zS]
       refine wpAnyH_take (i := 10) (oi := ⟨some 10, .assign (.tmp 53), 28, "law.go:260", #[⟨7, .data⟩, ⟨9, .chain⟩, ⟨0, .phase⟩, ⟨1, .phase⟩, ⟨2, .phase⟩, ⟨3, .phase⟩, ⟨4, .phase⟩, ⟨5, .phase⟩, ⟨6, .phase⟩, ⟨7, .phase⟩, ⟨8, .phase⟩, ⟨9, .phase⟩], none⟩) (v := ?_) rfl (by kernel_rfl) (by kernel_rfl) (by kernel_rfl) (fun _ _ _ h => h) (Or.inl ⟨by rfl, ?_⟩) (by assumption) ?_
       rotate_left
       ·(intro w hSw; (try dsimp only at hSw); go_simp); (try with_reducible rfl)
       try simp only [Act.put, zS]
       refine wpAnyH_done (by kernel_rfl) ?_ _
       clear hHeld4
       have hb2 := hbz9
       obtain ⟨W5, hW5⟩ : ∃ v, v = wz9 := ⟨_, rfl⟩
       rw [← hW5] at hb2 i9 ⊢
       clear hW5
       go_wp2_with fail
       go_meet
       exact ⟨rfl, _, rfl, i9, hb2⟩
     case rest =>
      rename_i W5
      obtain ⟨rfl, G9, rfl, i9, hb2⟩ := hcut
      replace hb := bthen hb hb2
      replace h7 := h7.carry hb2
      clear hb2 iL TW
      have hldF := lif_loadF HWS.out HXS.out (I5.out.carry hb)
      have c24 := (lif_cells HWS.out HXS.out (I5.out.carry hb)).1
      go_wp2_with (refine wpList_load rfl _ _ rfl hldF ?_)
      refine (TO.out _).mono ?_
      rintro e W6 ⟨⟨u11, rfl, h11⟩, hl⟩
      replace hb := bthen hb hl
      replace h7 := h7.carry hl
      replace i9 := Blk.carry i9 hl
      clear hl hldF c24 TO
      obtain ⟨-, c25, c26, -, -⟩ := lif_cells HWS.out HXS.out (I5.out.carry hb)
      go_upto_region 6 with fail
      refine wp_region_held_drew (S := (fun W => W.cell? ⟨B5, 25, none⟩ = some (.int .i64 f) ∧ W.cell? ⟨B5, 26, none⟩ = some (.int .i64 s))) (by kernel_rfl) ⟨cellb c25 (Below.refl _ _).drew, cellb c26 (Below.refl _ _).drew⟩ (fun hHeld0 => ?_)
      obtain ⟨wzd, hwz⟩ : ∃ v, v = W6.drew := ⟨_, rfl⟩
      rw [← hwz] at hHeld0 ⊢
      have hbzd : Below W6.heap.size W6 wzd := by rw [hwz]; exact (Below.refl _ _).drew
      have hlzd : Below W6.heap.size W6 wzd := by rw [hwz]; exact (Below.refl _ _).drew
      clear hwz hlzd
      refine wpAnyH_take (i := 0) (oi := ⟨some 63, .move (.tmp 0), 22, "law.go:262", #[], none⟩) (v := ?_) rfl (by kernel_rfl) (by kernel_rfl) (by kernel_rfl) (fun _ _ _ h => h) (Or.inl ⟨by rfl, ?_⟩) (by assumption) ?_
      rotate_left
      ·(intro w hSw; (try dsimp only at hSw); go_simp); (try with_reducible rfl)
      try simp only [Act.put, zS]
      refine wpAnyH_take (i := 2) (oi := ⟨some 65, .fieldAddr 87 (.tmp 5) 3, 0, "law.go:262", #[], none⟩) (v := ?_) rfl (by kernel_rfl) (by kernel_rfl) (by kernel_rfl) (fun _ _ _ h => h) (Or.inl ⟨by rfl, ?_⟩) (by assumption) ?_
      rotate_left
      ·(intro w hSw; (try dsimp only at hSw); go_simp); (try with_reducible rfl)
      try simp only [Act.put, zS]
      refine wpAnyH_take (i := 3) (oi := ⟨some 66, .load 3 (.tmp 65), 3, "law.go:262", #[⟨2, .data⟩], none⟩) (v := ?_) rfl (by kernel_rfl) (by kernel_rfl) (by kernel_rfl) (fun _ _ _ h => h) (Or.inl ⟨by rfl, ?_⟩) (by assumption) ?_
      rotate_left
      ·(intro w hSw; (try dsimp only at hSw); go_simp); (try with_reducible rfl)
      try simp only [Act.put, zS]
      refine wpAnyH_take (i := 4) (oi := ⟨some 67, .fieldAddr 87 (.tmp 5) 4, 0, "law.go:262", #[], none⟩) (v := ?_) rfl (by kernel_rfl) (by kernel_rfl) (by kernel_rfl) (fun _ _ _ h => h) (Or.inl ⟨by rfl, ?_⟩) (by assumption) ?_
      rotate_left
      ·(intro w hSw; (try dsimp only at hSw); go_simp); (try with_reducible rfl)
      try simp only [Act.put, zS]
      refine wpAnyH_take (i := 5) (oi := ⟨some 68, .load 3 (.tmp 67), 3, "law.go:262", #[⟨4, .data⟩], none⟩) (v := ?_) rfl (by kernel_rfl) (by kernel_rfl) (by kernel_rfl) (fun _ _ _ h => h) (Or.inl ⟨by rfl, ?_⟩) (by assumption) ?_
      rotate_left
      ·(intro w hSw; (try dsimp only at hSw); go_simp); (try with_reducible rfl)
      try simp only [Act.put, zS]
      refine wpAnyH_ready (rs := [1]) (by kernel_rfl) (by simp) ?_
      refine (AllReadyH.cons (o := ⟨some 64, .call ⟨.value (.func 45), #[.tmp 63], #[22]⟩, 31, "law.go:262", #[⟨0, .data⟩], none⟩) rfl (fun K hK => ?_) AllReadyH.nil)
      go_simp
      refine (TP.out wzd (HA.out.carry (bthen K3.out (bthen hb hbzd)))).mono ?_
      rintro e wz1 ⟨⟨up, rfl, hu⟩, hl⟩
      replace hu : Prs _ _ la := hu.rw pV_len
      (try go_wp2_with fail)
      have hbz1 := bthen hbzd hl
      clear hl
      refine hK.out _ _ ⟨cellb c25 hbz1, cellb c26 hbz1⟩ (fun hHeld1 => ?_)
      clear hK K hHeld0
      try simp only [Act.put, zS]
      refine wpAnyH_ready (rs := [6]) (by kernel_rfl) (by simp) ?_
      refine (AllReadyH.cons (o := ⟨some 69, .call ⟨.value (.func 47), #[.tmp 64, .tmp 66, .tmp 68], #[31, 3, 3]⟩, 37, "law.go:262", #[⟨1, .data⟩, ⟨3, .data⟩, ⟨5, .data⟩, ⟨1, .chain⟩], none⟩) rfl (fun K hK => ?_) AllReadyH.nil)
      go_simp
      refine (TS.out up wz1 hu).mono ?_
      rintro e wz6 ⟨⟨u13, rfl, h13⟩, hl⟩
      (try go_wp2_with fail)
      have hbz6 := bthen hbz1 hl
      have hu := hu.carry hl
      clear hl
      refine hK.out _ _ ⟨cellb c25 hbz6, cellb c26 hbz6⟩ (fun hHeld2 => ?_)
      clear hK K hHeld1
      try simp only [Act.put, zS]
      refine wpAnyH_take (i := 7) (oi := ⟨some 62, .move (.tmp 69), 37, "law.go:262", #[⟨6, .data⟩], none⟩) (v := ?_) rfl (by kernel_rfl) (by kernel_rfl) (by kernel_rfl) (fun _ _ _ h => h) (Or.inl ⟨by rfl, ?_⟩) (by assumption) ?_
      rotate_left
      ·(intro w hSw; (try dsimp only at hSw); go_simp); (try with_reducible rfl)
      try simp only [Act.put, zS]
      refine wpAnyH_take (i := 8) (oi := ⟨some 70, .extract (.tmp 62) 0, 31, "law.go:262", #[⟨7, .data⟩], none⟩) (v := ?_) rfl (by kernel_rfl) (by kernel_rfl) (by kernel_rfl) (fun _ _ _ h => h) (Or.inl ⟨by rfl, ?_⟩) (by assumption) ?_
      rotate_left
      ·(intro w hSw; (try dsimp only at hSw); go_simp); (try with_reducible rfl)
      try simp only [Act.put, zS]
      refine wpAnyH_take (i := 9) (oi := ⟨some 71, .extract (.tmp 62) 1, 28, "law.go:262", #[⟨7, .data⟩, { on := 10, ground := Ground.gcOnly Departure.lateStores }], none⟩) (v := ?_) rfl (by kernel_rfl) (by kernel_rfl) (by kernel_rfl) (fun _ _ _ h => h) (Or.inl ⟨by rfl, ?_⟩) (by assumption) ?_
      rotate_left
      ·(intro w hSw; (try dsimp only at hSw); go_simp); (try with_reducible rfl)
      try simp only [Act.put, zS]
      refine wpAnyH_take (i := 10) (oi := ⟨some 13, .assign (.tmp 70), 31, "law.go:262", #[⟨8, .data⟩, ⟨6, .chain⟩, ⟨0, .phase⟩, ⟨1, .phase⟩, ⟨2, .phase⟩, ⟨3, .phase⟩, ⟨4, .phase⟩, ⟨5, .phase⟩, ⟨6, .phase⟩, ⟨7, .phase⟩, ⟨8, .phase⟩, { on := 9, ground := Ground.textOnly Departure.lateStores }], none⟩) (v := ?_) rfl (by kernel_rfl) (by kernel_rfl) (by kernel_rfl) (fun _ _ _ h => h) (Or.inl ⟨by rfl, ?_⟩) (by assumption) ?_
      rotate_left
      ·(intro w hSw; (try dsimp only at hSw); go_simp); (try with_reducible rfl)
      try simp only [Act.put, zS]
      refine wpAnyH_take (i := 11) (oi := ⟨some 14, .assign (.tmp 71), 28, "law.go:262", #[⟨9, .data⟩, ⟨10, .chain⟩, ⟨0, .phase⟩, ⟨1, .phase⟩, ⟨2, .phase⟩, ⟨3, .phase⟩, ⟨4, .phase⟩, ⟨5, .phase⟩, ⟨6, .phase⟩, ⟨7, .phase⟩, ⟨8, .phase⟩, ⟨9, .phase⟩, ⟨10, .phase⟩], none⟩) (v := ?_) rfl (by kernel_rfl) (by kernel_rfl) (by kernel_rfl) (fun _ _ _ h => h) (Or.inl ⟨by rfl, ?_⟩) (by assumption) ?_
      rotate_left
      ·(intro w hSw; (try dsimp only at hSw); go_simp); (try with_reducible rfl)
      try simp only [Act.put, zS]
      refine wpAnyH_done (by kernel_rfl) ?_ _
      clear hHeld2
      have hb2 := hbz6
      obtain ⟨W7, hW7⟩ : ∃ v, v = wz6 := ⟨_, rfl⟩
      rw [← hW7] at hb2 h13 ⊢
      clear hW7
      rename_i W7
      replace hb := bthen hb hb2
      replace h7 := h7.carry hb2
      replace i9 := Blk.carry i9 hb2
      replace h11 := h11.carry hb2
      clear c25 c26 hb2 TS TP
      have hA := HA.out.carry (bthen K3.out hb)
      have hB := HB.out.carry (bthen K3.out hb)
      have iL := I5.out.carry hb
      obtain ⟨c24, c25, c26, c27, c28⟩ := lif_cells HWS.out HXS.out iL
      go_upto_region 7 with fail
      refine wp_region_E 99 (by kernel_rfl) ?_
      obtain ⟨wz, hwz⟩ : ∃ v, v = W7.drew := ⟨_, rfl⟩
      rw [← hwz]
      have hlz : Below W7.heap.size W7 wz := by rw [hwz]; exact (Below.refl _ _).drew
      have hbz := bthen hb hlz
      have c24 := cellb c24 hlz
      have c25 := cellb c25 hlz
      have c26 := cellb c26 hlz
      have c27 := cellb c27 hlz
      have c28 := cellb c28 hlz
      have h7 := h7.carry hlz
      have i9 := i9.carry hlz
      have h11 := h11.carry hlz
      have h13 := h13.carry hlz
      have hA := hA.carry hlz
      have hB := hB.carry hlz
      have iL := iL.carry hlz
      clear hwz hlz
      refine zT 0 ⟨some 72, .move (.tmp 1), 82, "law.go:263", #[], none⟩ (v := ?_) rfl (Or.inl ⟨by rfl, ?_⟩) ?_
      rotate_left
      ·(intro w hE; have c24 := cellb c24 hE; have c25 := cellb c25 hE; have c26 := cellb c26 hE; have c27 := cellb c27 hE; have c28 := cellb c28 hE; (try dsimp only); go_simp); (try with_reducible rfl)
      try simp only [Act.put, zS]
      refine zT 2 ⟨some 74, .fieldAddr 87 (.tmp 5) 5, 0, "law.go:263", #[], none⟩ (v := ?_) rfl (Or.inl ⟨by rfl, ?_⟩) ?_
      rotate_left
      ·(intro w hE; have c24 := cellb c24 hE; have c25 := cellb c25 hE; have c26 := cellb c26 hE; have c27 := cellb c27 hE; have c28 := cellb c28 hE; (try dsimp only); go_simp); (try with_reducible rfl)
      try simp only [Act.put, zS]
      refine zT 3 ⟨some 75, .load 3 (.tmp 74), 3, "law.go:263", #[⟨2, .data⟩], none⟩ (v := ?_) rfl (Or.inl ⟨by rfl, ?_⟩) ?_
      rotate_left
      ·(intro w hE; have c24 := cellb c24 hE; have c25 := cellb c25 hE; have c26 := cellb c26 hE; have c27 := cellb c27 hE; have c28 := cellb c28 hE; (try dsimp only); go_simp); (try with_reducible rfl)
      try simp only [Act.put, zS]
      refine zT 5 ⟨some 77, .fieldAddr 87 (.tmp 5) 6, 0, "law.go:263", #[], none⟩ (v := ?_) rfl (Or.inl ⟨by rfl, ?_⟩) ?_
      rotate_left
      ·(intro w hE; have c24 := cellb c24 hE; have c25 := cellb c25 hE; have c26 := cellb c26 hE; have c27 := cellb c27 hE; have c28 := cellb c28 hE; (try dsimp only); go_simp); (try with_reducible rfl)
      try simp only [Act.put, zS]
      refine zT 6 ⟨some 78, .load 3 (.tmp 77), 3, "law.go:263", #[⟨5, .data⟩], none⟩ (v := ?_) rfl (Or.inl ⟨by rfl, ?_⟩) ?_
      rotate_left
      ·(intro w hE; have c24 := cellb c24 hE; have c25 := cellb c25 hE; have c26 := cellb c26 hE; have c27 := cellb c27 hE; have c28 := cellb c28 hE; (try dsimp only); go_simp); (try with_reducible rfl)
      try simp only [Act.put, zS]
      refine zT 10 ⟨some 82, .move (.tmp 0), 22, "law.go:263", #[], none⟩ (v := ?_) rfl (Or.inl ⟨by rfl, ?_⟩) ?_
      rotate_left
      ·(intro w hE; have c24 := cellb c24 hE; have c25 := cellb c25 hE; have c26 := cellb c26 hE; have c27 := cellb c27 hE; have c28 := cellb c28 hE; (try dsimp only); go_simp); (try with_reducible rfl)
      try simp only [Act.put, zS]
      refine zT 12 ⟨some 84, .fieldAddr 87 (.tmp 5) 0, 0, "law.go:263", #[], none⟩ (v := ?_) rfl (Or.inl ⟨by rfl, ?_⟩) ?_
      rotate_left
      ·(intro w hE; have c24 := cellb c24 hE; have c25 := cellb c25 hE; have c26 := cellb c26 hE; have c27 := cellb c27 hE; have c28 := cellb c28 hE; (try dsimp only); go_simp); (try with_reducible rfl)
      try simp only [Act.put, zS]
      refine zT 13 ⟨some 85, .load 83 (.tmp 84), 83, "law.go:263", #[⟨12, .data⟩], none⟩ (v := ?_) rfl (Or.inl ⟨by rfl, ?_⟩) ?_
      rotate_left
      ·(intro w hE; have c24 := cellb c24 hE; have c25 := cellb c25 hE; have c26 := cellb c26 hE; have c27 := cellb c27 hE; have c28 := cellb c28 hE; (try dsimp only); refine (exec_load rfl (lif_loadI HWS.out (Blk.carry iL hE))).trans ?_); (try with_reducible rfl)
      try simp only [Act.put, zS]
      refine zT 17 ⟨some 89, .fieldAddr 87 (.tmp 5) 1, 0, "law.go:263", #[], none⟩ (v := ?_) rfl (Or.inl ⟨by rfl, ?_⟩) ?_
      rotate_left
      ·(intro w hE; have c24 := cellb c24 hE; have c25 := cellb c25 hE; have c26 := cellb c26 hE; have c27 := cellb c27 hE; have c28 := cellb c28 hE; (try dsimp only); go_simp); (try with_reducible rfl)
      try simp only [Act.put, zS]
      refine zT 18 ⟨some 90, .load 85 (.tmp 89), 85, "law.go:263", #[⟨17, .data⟩], none⟩ (v := ?_) rfl (Or.inl ⟨by rfl, ?_⟩) ?_
      rotate_left
      ·(intro w hE; have c24 := cellb c24 hE; have c25 := cellb c25 hE; have c26 := cellb c26 hE; have c27 := cellb c27 hE; have c28 := cellb c28 hE; (try dsimp only); refine (exec_load rfl (lif_loadF HWS.out HXS.out (Blk.carry iL hE))).trans ?_); (try with_reducible rfl)
      try simp only [Act.put, zS]
      refine zT 19 ⟨some 91, .fieldAddr 87 (.tmp 5) 2, 0, "law.go:263", #[], none⟩ (v := ?_) rfl (Or.inl ⟨by rfl, ?_⟩) ?_
      rotate_left
      ·(intro w hE; have c24 := cellb c24 hE; have c25 := cellb c25 hE; have c26 := cellb c26 hE; have c27 := cellb c27 hE; have c28 := cellb c28 hE; (try dsimp only); go_simp); (try with_reducible rfl)
      try simp only [Act.put, zS]
      refine zT 20 ⟨some 92, .load 84 (.tmp 91), 84, "law.go:263", #[⟨19, .data⟩], none⟩ (v := ?_) rfl (Or.inl ⟨by rfl, ?_⟩) ?_
      rotate_left
      ·(intro w hE; have c24 := cellb c24 hE; have c25 := cellb c25 hE; have c26 := cellb c26 hE; have c27 := cellb c27 hE; have c28 := cellb c28 hE; (try dsimp only); go_simp); (try with_reducible rfl)
      try simp only [Act.put, zS]
      refine zT 22 ⟨some 94, .move (.tmp 0), 22, "law.go:263", #[], none⟩ (v := ?_) rfl (Or.inl ⟨by rfl, ?_⟩) ?_
      rotate_left
      ·(intro w hE; have c24 := cellb c24 hE; have c25 := cellb c25 hE; have c26 := cellb c26 hE; have c27 := cellb c27 hE; have c28 := cellb c28 hE; (try dsimp only); go_simp); (try with_reducible rfl)
      try simp only [Act.put, zS]
      refine zT 24 ⟨some 96, .fieldAddr 87 (.tmp 5) 3, 0, "law.go:263", #[], none⟩ (v := ?_) rfl (Or.inl ⟨by rfl, ?_⟩) ?_
      rotate_left
      ·(intro w hE; have c24 := cellb c24 hE; have c25 := cellb c25 hE; have c26 := cellb c26 hE; have c27 := cellb c27 hE; have c28 := cellb c28 hE; (try dsimp only); go_simp); (try with_reducible rfl)
      try simp only [Act.put, zS]
      refine zT 25 ⟨some 97, .load 3 (.tmp 96), 3, "law.go:263", #[⟨24, .data⟩], none⟩ (v := ?_) rfl (Or.inl ⟨by rfl, ?_⟩) ?_
      rotate_left
      ·(intro w hE; have c24 := cellb c24 hE; have c25 := cellb c25 hE; have c26 := cellb c26 hE; have c27 := cellb c27 hE; have c28 := cellb c28 hE; (try dsimp only); go_simp); (try with_reducible rfl)
      try simp only [Act.put, zS]
      refine zT 27 ⟨some 99, .fieldAddr 87 (.tmp 5) 4, 0, "law.go:263", #[], none⟩ (v := ?_) rfl (Or.inl ⟨by rfl, ?_⟩) ?_
      rotate_left
      ·(intro w hE; have c24 := cellb c24 hE; have c25 := cellb c25 hE; have c26 := cellb c26 hE; have c27 := cellb c27 hE; have c28 := cellb c28 hE; (try dsimp only); go_simp); (try with_reducible rfl)
      try simp only [Act.put, zS]
      refine zT 28 ⟨some 100, .load 3 (.tmp 99), 3, "law.go:263", #[⟨27, .data⟩], none⟩ (v := ?_) rfl (Or.inl ⟨by rfl, ?_⟩) ?_
      rotate_left
      ·(intro w hE; have c24 := cellb c24 hE; have c25 := cellb c25 hE; have c26 := cellb c26 hE; have c27 := cellb c27 hE; have c28 := cellb c28 hE; (try dsimp only); go_simp); (try with_reducible rfl)
      try simp only [Act.put, zS]
      refine zC 1 ⟨some 73, .call ⟨.value (.func 48), #[.tmp 72], #[82]⟩, 3, "law.go:263", #[⟨0, .data⟩], none⟩ (fun w hE => RK.out w (hB.carry hE)) rfl (by rfl) (fun w hE => by (try dsimp only); go_simp) ?_
      try simp only [Act.put, zS]
      refine zC 4 ⟨some 76, .call ⟨.value (.func 15), #[.tmp 75], #[3]⟩, 3, "law.go:263", #[⟨3, .data⟩, ⟨1, .chain⟩], none⟩ (fun w hE => ofPure (R1.out w)) rfl (by rfl) (fun w hE => by (try dsimp only); go_simp) ?_
      try simp only [Act.put, zS]
      refine zC 7 ⟨some 79, .call ⟨.value (.func 15), #[.tmp 78], #[3]⟩, 3, "law.go:263", #[⟨6, .data⟩, ⟨4, .chain⟩], none⟩ (fun w hE => ofPure (R2.out w)) rfl (by rfl) (fun w hE => by (try dsimp only); go_simp) ?_
      try simp only [Act.put, zS]
      refine wpAnyE_one (i := 8) (o := ⟨some 80, .buildSlice 70 3 #[(0, .tmp 73), (1, .tmp 76), (2, .tmp 79)], 70, "law.go:263", #[⟨1, .data⟩, ⟨4, .data⟩, ⟨7, .data⟩], none⟩) (by kernel_rfl) rfl (fun wy1 hE K hK => ?_)
      have c24 := cellb c24 hE
      have c25 := cellb c25 hE
      have c26 := cellb c26 hE
      have c27 := cellb c27 hE
      have c28 := cellb c28 hE
      have h7 := h7.carry hE
      have i9 := i9.carry hE
      have h11 := h11.carry hE
      have h13 := h13.carry hE
      have hA := hA.carry hE
      have hB := hB.carry hE
      have iL := iL.carry hE
      have hbz1 := bthen hbz hE
      clear hE
      go_simp
      obtain ⟨wx1, hwz⟩ : ∃ v, v = wy1.alloc (Obj.cells #[.int .i64 e1, .int .i64 e2, .int .i64 e3] 3) := ⟨_, rfl⟩
      rw [← hwz]
      have hl : Below wy1.heap.size wy1 wx1 := by rw [hwz]; exact below_new _ _
      have hcz1 := bthen hbz1 hl
      have iN1 : BlkI wx1 wy1.heap.size 3 [e1, e2, e3] := by rw [hwz]; exact Blk.new _ _ _
      generalize wy1.heap.size = G1 at iN1 ⊢
      have c24 := cellb c24 hl
      have c25 := cellb c25 hl
      have c26 := cellb c26 hl
      have c27 := cellb c27 hl
      have c28 := cellb c28 hl
      have h7 := h7.carry hl
      have i9 := i9.carry hl
      have h11 := h11.carry hl
      have h13 := h13.carry hl
      have hA := hA.carry hl
      have hB := hB.carry hl
      have iL := iL.carry hl
      clear hwz
      refine hK _ _ (fun _ => hl) ?_
      clear hK K hl
      try simp only [Act.put, zS]
      refine zC 9 ⟨some 81, .call ⟨.value (.func 13), #[.tmp 80], #[70]⟩, 3, "law.go:263", #[⟨8, .data⟩, ⟨7, .chain⟩], none⟩ (fun w hE => ofPure (F1.out _ w (BlkI.ints (l := [e1, e2, e3]) (Blk.carry iN1 hE) rfl))) rfl (by rfl) (fun w hE => by (try dsimp only); go_simp) ?_
      try simp only [Act.put, zS]
      refine zC 11 ⟨some 83, .call ⟨.value (.func 49), #[.tmp 82], #[22]⟩, 3, "law.go:263", #[⟨10, .data⟩, ⟨9, .chain⟩], none⟩ (fun w hE => RT.out w (hA.carry hE)) rfl (by rfl) (fun w hE => by (try dsimp only); go_simp) ?_
      try simp only [Act.put, zS]
      refine zC 14 ⟨some 86, .call ⟨.value (.func 50), #[.tmp 85], #[83]⟩, 3, "law.go:263", #[⟨13, .data⟩, ⟨11, .chain⟩], none⟩ (fun w hE => RW.out w) rfl (by rfl) (fun w hE => by (try dsimp only); go_simp) ?_
      try simp only [Act.put, zS]
      refine wpAnyE_one (i := 15) (o := ⟨some 87, .buildSlice 70 2 #[(0, .tmp 83), (1, .tmp 86)], 70, "law.go:263", #[⟨11, .data⟩, ⟨14, .data⟩], none⟩) (by kernel_rfl) rfl (fun wy2 hE K hK => ?_)
      have c24 := cellb c24 hE
      have c25 := cellb c25 hE
      have c26 := cellb c26 hE
      have c27 := cellb c27 hE
      have c28 := cellb c28 hE
      have h7 := h7.carry hE
      have i9 := i9.carry hE
      have h11 := h11.carry hE
      have h13 := h13.carry hE
      have hA := hA.carry hE
      have hB := hB.carry hE
      have iL := iL.carry hE
      have iN1 := iN1.carry hE
      have hbz2 := bthen hcz1 hE
      clear hE
      go_simp
      obtain ⟨wx2, hwz⟩ : ∃ v, v = wy2.alloc (Obj.cells #[.int .i64 e4, .int .i64 e5] 3) := ⟨_, rfl⟩
      rw [← hwz]
      have hl : Below wy2.heap.size wy2 wx2 := by rw [hwz]; exact below_new _ _
      have hcz2 := bthen hbz2 hl
      have iN2 : BlkI wx2 wy2.heap.size 3 [e4, e5] := by rw [hwz]; exact Blk.new _ _ _
      generalize wy2.heap.size = G2 at iN2 ⊢
      have c24 := cellb c24 hl
      have c25 := cellb c25 hl
      have c26 := cellb c26 hl
      have c27 := cellb c27 hl
      have c28 := cellb c28 hl
      have h7 := h7.carry hl
      have i9 := i9.carry hl
      have h11 := h11.carry hl
      have h13 := h13.carry hl
      have hA := hA.carry hl
      have hB := hB.carry hl
      have iL := iL.carry hl
      have iN1 := iN1.carry hl
      clear hwz
      refine hK _ _ (fun _ => hl) ?_
      clear hK K hl
      try simp only [Act.put, zS]
      refine zC 16 ⟨some 88, .call ⟨.value (.func 13), #[.tmp 87], #[70]⟩, 3, "law.go:263", #[⟨15, .data⟩, ⟨14, .chain⟩], none⟩ (fun w hE => ofPure (F2.out _ w (BlkI.ints (l := [e4, e5]) (Blk.carry iN2 hE) rfl))) rfl (by rfl) (fun w hE => by (try dsimp only); go_simp) ?_
      try simp only [Act.put, zS]
      refine zC 21 ⟨some 93, .call ⟨.value (.func 51), #[.tmp 90, .tmp 92], #[85, 84]⟩, 3, "law.go:263", #[⟨18, .data⟩, ⟨20, .data⟩, ⟨16, .chain⟩], none⟩ (fun w hE => RX.out w) rfl (by rfl) (fun w hE => by (try dsimp only); go_simp) ?_
      try simp only [Act.put, zS]
      refine zC 23 ⟨some 95, .call ⟨.value (.func 49), #[.tmp 94], #[22]⟩, 3, "law.go:263", #[⟨22, .data⟩, ⟨21, .chain⟩], none⟩ (fun w hE => RT.out w (hA.carry hE)) rfl (by rfl) (fun w hE => by (try dsimp only); go_simp) ?_
      try simp only [Act.put, zS]
      refine zC 26 ⟨some 98, .call ⟨.value (.func 52), #[.tmp 97], #[3]⟩, 3, "law.go:263", #[⟨25, .data⟩, ⟨23, .chain⟩], none⟩ (fun w hE => ofPure (R3.out w)) rfl (by rfl) (fun w hE => by (try dsimp only); go_simp) ?_
      try simp only [Act.put, zS]
      refine zC 29 ⟨some 101, .call ⟨.value (.func 52), #[.tmp 100], #[3]⟩, 3, "law.go:263", #[⟨28, .data⟩, ⟨26, .chain⟩], none⟩ (fun w hE => ofPure (R4.out w)) rfl (by rfl) (fun w hE => by (try dsimp only); go_simp) ?_
      try simp only [Act.put, zS]
      refine wpAnyE_one (i := 30) (o := ⟨some 102, .buildSlice 70 3 #[(0, .tmp 95), (1, .tmp 98), (2, .tmp 101)], 70, "law.go:263", #[⟨23, .data⟩, ⟨26, .data⟩, ⟨29, .data⟩], none⟩) (by kernel_rfl) rfl (fun wy3 hE K hK => ?_)
      have c24 := cellb c24 hE
      have c25 := cellb c25 hE
      have c26 := cellb c26 hE
      have c27 := cellb c27 hE
      have c28 := cellb c28 hE
      have h7 := h7.carry hE
      have i9 := i9.carry hE
      have h11 := h11.carry hE
      have h13 := h13.carry hE
      have hA := hA.carry hE
      have hB := hB.carry hE
      have iL := iL.carry hE
      have iN1 := iN1.carry hE
      have iN2 := iN2.carry hE
      have hbz3 := bthen hcz2 hE
      clear hE
      go_simp
      obtain ⟨wx3, hwz⟩ : ∃ v, v = wy3.alloc (Obj.cells #[.int .i64 e4, .int .i64 e6, .int .i64 e7] 3) := ⟨_, rfl⟩
      rw [← hwz]
      have hl : Below wy3.heap.size wy3 wx3 := by rw [hwz]; exact below_new _ _
      have hcz3 := bthen hbz3 hl
      have iN3 : BlkI wx3 wy3.heap.size 3 [e4, e6, e7] := by rw [hwz]; exact Blk.new _ _ _
      generalize wy3.heap.size = G3 at iN3 ⊢
      have c24 := cellb c24 hl
      have c25 := cellb c25 hl
      have c26 := cellb c26 hl
      have c27 := cellb c27 hl
      have c28 := cellb c28 hl
      have h7 := h7.carry hl
      have i9 := i9.carry hl
      have h11 := h11.carry hl
      have h13 := h13.carry hl
      have hA := hA.carry hl
      have hB := hB.carry hl
      have iL := iL.carry hl
      have iN1 := iN1.carry hl
      have iN2 := iN2.carry hl
      clear hwz
      refine hK _ _ (fun _ => hl) ?_
      clear hK K hl
      try simp only [Act.put, zS]
      refine zC 31 ⟨some 103, .call ⟨.value (.func 13), #[.tmp 102], #[70]⟩, 3, "law.go:263", #[⟨30, .data⟩, ⟨29, .chain⟩], none⟩ (fun w hE => ofPure (F4.out _ w (BlkI.ints (l := [e4, e6, e7]) (Blk.carry iN3 hE) rfl))) rfl (by rfl) (fun w hE => by (try dsimp only); go_simp) ?_
      try simp only [Act.put, zS]
      refine zT 32 ⟨some 15, .assign (.tmp 81), 3, "law.go:263", #[⟨9, .data⟩, ⟨31, .chain⟩, ⟨0, .phase⟩, ⟨1, .phase⟩, ⟨2, .phase⟩, ⟨3, .phase⟩, ⟨4, .phase⟩, ⟨5, .phase⟩, ⟨6, .phase⟩, ⟨7, .phase⟩, ⟨8, .phase⟩, ⟨9, .phase⟩, { on := 10, ground := Ground.textOnly Departure.lateStores }, { on := 11, ground := Ground.textOnly Departure.lateStoresUnsure }, { on := 12, ground := Ground.textOnly Departure.lateStores }, { on := 13, ground := Ground.textOnly Departure.lateStores }, { on := 14, ground := Ground.textOnly Departure.lateStoresUnsure }, { on := 15, ground := Ground.textOnly Departure.lateStores }, { on := 16, ground := Ground.textOnly Departure.lateStoresUnsure }, { on := 17, ground := Ground.textOnly Departure.lateStores }, { on := 18, ground := Ground.textOnly Departure.lateStores }, { on := 19, ground := Ground.textOnly Departure.lateStores }, { on := 20, ground := Ground.textOnly Departure.lateStores }, { on := 21, ground := Ground.textOnly Departure.lateStoresUnsure }, { on := 22, ground := Ground.textOnly Departure.lateStores }, { on := 23, ground := Ground.textOnly Departure.lateStoresUnsure }, { on := 24, ground := Ground.textOnly Departure.lateStores }, { on := 25, ground := Ground.textOnly Departure.lateStores }, { on := 26, ground := Ground.textOnly Departure.lateStoresUnsure }, { on := 27, ground := Ground.textOnly Departure.lateStores }, { on := 28, ground := Ground.textOnly Departure.lateStores }, { on := 29, ground := Ground.textOnly Departure.lateStoresUnsure }, { on := 30, ground := Ground.textOnly Departure.lateStores }, { on := 31, ground := Ground.textOnly Departure.lateStoresUnsure }], none⟩ (v := ?_) rfl (Or.inl ⟨by rfl, ?_⟩) ?_
      rotate_left
      ·(intro w hE; have c24 := cellb c24 hE; have c25 := cellb c25 hE; have c26 := cellb c26 hE; have c27 := cellb c27 hE; have c28 := cellb c28 hE; (try dsimp only); go_simp); (try with_reducible rfl)
      try simp only [Act.put, zS]
      refine zT 33 ⟨some 16, .assign (.tmp 88), 3, "law.go:263", #[⟨16, .data⟩, ⟨32, .chain⟩, ⟨0, .phase⟩, ⟨1, .phase⟩, ⟨2, .phase⟩, ⟨3, .phase⟩, ⟨4, .phase⟩, ⟨5, .phase⟩, ⟨6, .phase⟩, ⟨7, .phase⟩, ⟨8, .phase⟩, ⟨9, .phase⟩, ⟨10, .phase⟩, ⟨11, .phase⟩, ⟨12, .phase⟩, ⟨13, .phase⟩, ⟨14, .phase⟩, ⟨15, .phase⟩, ⟨16, .phase⟩, { on := 17, ground := Ground.textOnly Departure.lateStores }, { on := 18, ground := Ground.textOnly Departure.lateStores }, { on := 19, ground := Ground.textOnly Departure.lateStores }, { on := 20, ground := Ground.textOnly Departure.lateStores }, { on := 21, ground := Ground.textOnly Departure.lateStoresUnsure }, { on := 22, ground := Ground.textOnly Departure.lateStores }, { on := 23, ground := Ground.textOnly Departure.lateStoresUnsure }, { on := 24, ground := Ground.textOnly Departure.lateStores }, { on := 25, ground := Ground.textOnly Departure.lateStores }, { on := 26, ground := Ground.textOnly Departure.lateStoresUnsure }, { on := 27, ground := Ground.textOnly Departure.lateStores }, { on := 28, ground := Ground.textOnly Departure.lateStores }, { on := 29, ground := Ground.textOnly Departure.lateStoresUnsure }, { on := 30, ground := Ground.textOnly Departure.lateStores }, { on := 31, ground := Ground.textOnly Departure.lateStoresUnsure }, ⟨32, .phase⟩], none⟩ (v := ?_) rfl (Or.inl ⟨by rfl, ?_⟩) ?_
      rotate_left
      ·(intro w hE; have c24 := cellb c24 hE; have c25 := cellb c25 hE; have c26 := cellb c26 hE; have c27 := cellb c27 hE; have c28 := cellb c28 hE; (try dsimp only); go_simp); (try with_reducible rfl)
      try simp only [Act.put, zS]
      refine zT 34 ⟨some 17, .assign (.tmp 93), 3, "law.go:263", #[⟨21, .data⟩, ⟨33, .chain⟩, ⟨0, .phase⟩, ⟨1, .phase⟩, ⟨2, .phase⟩, ⟨3, .phase⟩, ⟨4, .phase⟩, ⟨5, .phase⟩, ⟨6, .phase⟩, ⟨7, .phase⟩, ⟨8, .phase⟩, ⟨9, .phase⟩, ⟨10, .phase⟩, ⟨11, .phase⟩, ⟨12, .phase⟩, ⟨13, .phase⟩, ⟨14, .phase⟩, ⟨15, .phase⟩, ⟨16, .phase⟩, ⟨17, .phase⟩, ⟨18, .phase⟩, ⟨19, .phase⟩, ⟨20, .phase⟩, ⟨21, .phase⟩, { on := 22, ground := Ground.textOnly Departure.lateStores }, { on := 23, ground := Ground.textOnly Departure.lateStoresUnsure }, { on := 24, ground := Ground.textOnly Departure.lateStores }, { on := 25, ground := Ground.textOnly Departure.lateStores }, { on := 26, ground := Ground.textOnly Departure.lateStoresUnsure }, { on := 27, ground := Ground.textOnly Departure.lateStores }, { on := 28, ground := Ground.textOnly Departure.lateStores }, { on := 29, ground := Ground.textOnly Departure.lateStoresUnsure }, { on := 30, ground := Ground.textOnly Departure.lateStores }, { on := 31, ground := Ground.textOnly Departure.lateStoresUnsure }, ⟨32, .phase⟩, ⟨33, .phase⟩], none⟩ (v := ?_) rfl (Or.inl ⟨by rfl, ?_⟩) ?_
      rotate_left
      ·(intro w hE; have c24 := cellb c24 hE; have c25 := cellb c25 hE; have c26 := cellb c26 hE; have c27 := cellb c27 hE; have c28 := cellb c28 hE; (try dsimp only); go_simp); (try with_reducible rfl)
      try simp only [Act.put, zS]
      refine zT 35 ⟨some 18, .assign (.tmp 103), 3, "law.go:263", #[⟨31, .data⟩, ⟨34, .chain⟩, ⟨0, .phase⟩, ⟨1, .phase⟩, ⟨2, .phase⟩, ⟨3, .phase⟩, ⟨4, .phase⟩, ⟨5, .phase⟩, ⟨6, .phase⟩, ⟨7, .phase⟩, ⟨8, .phase⟩, ⟨9, .phase⟩, ⟨10, .phase⟩, ⟨11, .phase⟩, ⟨12, .phase⟩, ⟨13, .phase⟩, ⟨14, .phase⟩, ⟨15, .phase⟩, ⟨16, .phase⟩, ⟨17, .phase⟩, ⟨18, .phase⟩, ⟨19, .phase⟩, ⟨20, .phase⟩, ⟨21, .phase⟩, ⟨22, .phase⟩, ⟨23, .phase⟩, ⟨24, .phase⟩, ⟨25, .phase⟩, ⟨26, .phase⟩, ⟨27, .phase⟩, ⟨28, .phase⟩, ⟨29, .phase⟩, ⟨30, .phase⟩, ⟨31, .phase⟩, ⟨32, .phase⟩, ⟨33, .phase⟩, ⟨34, .phase⟩], none⟩ (v := ?_) rfl (Or.inl ⟨by rfl, ?_⟩) ?_
      rotate_left
      ·(intro w hE; have c24 := cellb c24 hE; have c25 := cellb c25 hE; have c26 := cellb c26 hE; have c27 := cellb c27 hE; have c28 := cellb c28 hE; (try dsimp only); go_simp); (try with_reducible rfl)
      try simp only [Act.put, zS]
      refine wpAnyE_done (by kernel_rfl) (fun wy4 hE => ?_) _
      have hbz4 := bthen hcz3 hE
      have c24 := cellb c24 hE
      have c25 := cellb c25 hE
      have c26 := cellb c26 hE
      have c27 := cellb c27 hE
      have c28 := cellb c28 hE
      have h7 := h7.carry hE
      have i9 := i9.carry hE
      have h11 := h11.carry hE
      have h13 := h13.carry hE
      have hA := hA.carry hE
      have hB := hB.carry hE
      have iL := iL.carry hE
      have iN1 := iN1.carry hE
      have iN2 := iN2.carry hE
      have iN3 := iN3.carry hE
      clear hE
      replace hb := hbz4
      obtain ⟨W8, hW8⟩ : ∃ v, v = wy4 := ⟨_, rfl⟩
      rw [← hW8] at hb h7 i9 h11 h13 ⊢
      clear hW8 iN1 iN2 iN3
      rename_i W8
      clear c24 c25 c26 c27 c28 hA hB iL RK R1 R2 R3 R4 RT RW RX F1 F2 F4
      go_upto_if 105 with fail
      obtain ⟨W9, hW9⟩ : ∃ v, v = World.alloc W8 (Obj.cells (fa zerF) 85) := ⟨_, rfl⟩
      have hW9' : W9 = W8.alloc (Obj.cells #[Value.float FloatKind.f32 0, Value.float FloatKind.f32 0, Value.float FloatKind.f32 0, Value.float FloatKind.f32 0, Value.float FloatKind.f32 0, Value.float FloatKind.f32 0, Value.float FloatKind.f32 0, Value.float FloatKind.f32 0, Value.float FloatKind.f32 0, Value.float FloatKind.f32 0, Value.float FloatKind.f32 0, Value.float FloatKind.f32 0] 85) := hW9
      have kW9 : Below W8.heap.size W8 W9 := by rw [hW9]; exact below_new _ _
      have i21 : BlkF W9 W8.heap.size 85 zerF := by rw [hW9]; exact Blk.new _ _ _
      rw [← hW9']
      clear hW9 hW9'
      obtain ⟨G21, hG21⟩ : ∃ g, g = W8.heap.size := ⟨_, rfl⟩
      rw [← hG21] at i21 ⊢
      have hsz : G21 + 1 ≤ W9.heap.size := by have := Blk.lt i21; omega
      have HG := Lib.hid hG21
      have H7 := Lib.hid h7
      have H9 := Lib.hid i9
      have H11 := Lib.hid h11
      have H13 := Lib.hid h13
      have HB8 := Lib.hid (bthen K3.out hb)
      have HI5 := Lib.hid (I5.out.carry hb)
      have hbN := kW9
      clear kW9 hG21 h7 i9 h11 h13 hb
      go_cut [19] from 106 to 111 (fun u19 wn => wn.ownsRow (G21 + 1) 3 1 u19 MR.length (MR.map (Value.int .i64)) ∧ BlkF wn G21 85 zerF ∧ Below W8.heap.size W8 wn)
      case first =>
       by_cases h1 : ME = 0
       ·subst h1
        obtain ⟨g1, g2, g3⟩ := HM1.out.1 rfl
        have Q1 := HMF.out W9 g1 g2 (HB.out.carry (bthen HB8.out hbN))
        rw [← g3] at Q1
        have Q2 := Lib.hid Q1
        obtain ⟨-, -, -, c27, c28⟩ := lif_cells HWS.out HXS.out (HI5.out.carry hbN)
        clear g1 g2 g3 Q1
        go_wp2_with fail
        refine Q2.out.mono ?_
        rintro e Wf ⟨⟨u19, rfl, h19⟩, hl⟩
        clear c27 c28
        go_wp2_with fail
        go_meet
        exact ⟨own_baseV h19 hsz, Blk.carry i21 hl, bthen hbN hl⟩
       ·have z : (ME == 0) = false := by rw [beq_eq_false_iff_ne]; exact h1
        have hx := Lib.hid (HM1.out.2 h1)
        clear h1
        go_wp2_with fail
        go_meet
        exact ⟨by rw [hx.out]; exact World.ownsRow_nil _ _ _ _, i21, hbN⟩
      case rest =>
       clear i21 hbN hsz
       obtain ⟨h19, i21, hbN⟩ := hcut
       go_upto_if 113 with fail
       go_cut [16] from 114 to 120 (fun u16 wn => u16 = .int .i64 WE ∧ wn.ownsRow (G21 + 1) 3 1 u19 MR.length (MR.map (Value.int .i64)) ∧ BlkF wn G21 85 WR ∧ Below W8.heap.size W8 wn)
       case first =>
        by_cases h1 : WE1 = 0
        ·subst h1
         have Q2 := Lib.hid (HWF.out wc rfl (HA.out.carry (bthen HB8.out hbN)))
         have hldI := lif_loadI HWS.out (HI5.out.carry hbN)
         go_wp2_with (refine wpList_load rfl _ _ rfl hldI ?_)
         refine Q2.out.mono ?_
         rintro e Wf ⟨rfl, hl⟩
         replace i21 := Blk.carry i21 hl
         replace hbN := bthen hbN hl
         replace h19 := own_below h19 hl
         clear hldI
         go_wp2_with (refine wpList_storeF rfl _ _ _ rfl G21 WR zerF rfl rfl i21 (by rw [HWL.out]; rfl) (by rw [HWL.out]; exact Tryz.infoF12) ?_)
         go_meet
         exact ⟨rfl, own_setRow h19 (by omega), BlkF.setRowA i21 WR, below_rowA hbN (by rw [HG.out]; exact Nat.le_refl _) _⟩
        ·have z : (WE1 == 0) = false := by rw [beq_eq_false_iff_ne]; exact h1
         obtain ⟨g1, g2⟩ := HW1.out h1
         have G1 := Lib.hid g1
         have G2 := Lib.hid g2
         clear h1 g1 g2
         go_wp2_with fail
         go_meet
         exact ⟨by rw [G1.out], h19, by rw [G2.out]; exact i21, hbN⟩
       case rest =>
        clear i21 hbN h19
        obtain ⟨rfl, h19, i21, hbN⟩ := hcut
        replace h19 : Ints wc u19 MR := Ints.of_own h19 rfl
        go_upto_if 122 with fail
        go_cut [20] from 123 to 127 (fun u20 wn => Ints wn u20 OR ∧ Ints wn u19 MR ∧ BlkF wn G21 85 WR ∧ Below W8.heap.size W8 wn)
        case first =>
         by_cases h1 : OE = 0
         ·subst h1
          have Q2 := Lib.hid (HOF.out wc rfl)
          have hldF := lif_loadF HWS.out HXS.out (HI5.out.carry hbN)
          have c24 := (lif_cells HWS.out HXS.out (HI5.out.carry hbN)).1
          go_wp2_with (refine wpList_load rfl _ _ rfl hldF ?_)
          refine Q2.out.mono ?_
          rintro e Wf ⟨⟨u20, rfl, h20⟩, hl⟩
          clear hldF c24
          go_wp2_with fail
          go_meet
          exact ⟨h20, h19.carry hl, Blk.carry i21 hl, bthen hbN hl⟩
         ·have z : (OE == 0) = false := by rw [beq_eq_false_iff_ne]; exact h1
          have hx := Lib.hid (HO1.out h1)
          clear h1
          go_wp2_with fail
          go_meet
          exact ⟨by rw [hx.out]; exact Ints.nil _, h19, i21, hbN⟩
        case rest =>
         clear i21 hbN h19
         obtain ⟨h20, h19, i21, hbN⟩ := hcut
         go_upto_if 129 with fail
         go_cut [18, 22] from 130 to 138 (fun u18 u22 wn => u18 = .int .i64 SE ∧ Prs wn u22 SR ∧ Ints wn u20 OR ∧ Ints wn u19 MR ∧ BlkF wn G21 85 WR ∧ Below W8.heap.size W8 wn)
         case first =>
          by_cases h1 : E4 = 0
          ·subst h1
           obtain ⟨g1, g2, g3⟩ := HS1.out.1 rfl
           have Q2 := Lib.hid (HSF.out wc g1 g2 g3 (HA.out.carry (bthen HB8.out hbN)))
           obtain ⟨-, c25, c26, -, -⟩ := lif_cells HWS.out HXS.out (HI5.out.carry hbN)
           clear g1 g2 g3
           go_wp2_with fail
           refine Q2.out.mono ?_
           rintro e Wf ⟨⟨u22, rfl, h22⟩, hl⟩
           clear c25 c26
           go_wp2_with fail
           go_meet
           exact ⟨rfl, h22, h20.carry hl, h19.carry hl, Blk.carry i21 hl, bthen hbN hl⟩
          ·have z : (E4 == 0) = false := by rw [beq_eq_false_iff_ne]; exact h1
           obtain ⟨g1, g2⟩ := HS1.out.2 h1
           have G1 := Lib.hid g1
           have G2 := Lib.hid g2
           clear h1 g1 g2
           go_wp2_with fail
           go_meet
           exact ⟨by rw [G1.out], by rw [G2.out]; exact Rw.nil 2 pV _ none 0, h20, h19, i21, hbN⟩
         case rest =>
          clear i21 hbN h19 h20
          obtain ⟨rfl, h22, h20, h19, i21, hbN⟩ := hcut
          go_wp2_with fail
          refine (same_self _ _ MR _ (H7.out.carry hbN) h19 (by have := HML.out; omega)).mono ?_
          rintro e w23 ⟨rfl, hl⟩
          replace h22 := h22.carry hl
          replace h20 := h20.carry hl
          replace i21 := Blk.carry i21 hl
          replace hbN := bthen hbN hl
          clear hl h19
          have lI := loadF12 HWL.out (Blk.carry H9.out hbN)
          have lJ := loadF12 HWL.out i21
          have nq := HWN.out w23
          go_wp2_with (first | refine wpList_loadG (by rfl) _ _ rfl lI ?_ | refine wpList_loadG (by rfl) _ _ rfl lJ ?_)
          clear lI lJ nq
          refine (same_self _ _ OR _ (H11.out.carry hbN) h20 (by have := HOL.out; omega)).mono ?_
          rintro e w24 ⟨rfl, hl⟩
          replace h22 := h22.carry hl
          replace hbN := bthen hbN hl
          clear hl h20 i21
          go_wp2_with fail
          refine (told_any _ SR _ (by have := HSL.out; omega) (H13.out.carry hbN)).mono ?_
          rintro e w25 ⟨⟨u, rfl, hu⟩, hl⟩
          replace h22 := h22.carry hl
          replace hbN := bthen hbN hl
          clear hl
          replace hu : Prs _ _ _ := hu.rw pV_len
          go_wp2_with fail
          refine (same_train _ _ SR _ hu h22 (by have := HSL.out; omega)).mono ?_
          rintro e w26 ⟨rfl, hl⟩
          replace hbN := bthen hbN hl
          clear hl hu h22
          go_wp2
          go_ret
          exact ⟨rfl, bthen HB8.out hbN⟩
end Go.Proofs.YtgdkomgfalkihaaGreatDoor

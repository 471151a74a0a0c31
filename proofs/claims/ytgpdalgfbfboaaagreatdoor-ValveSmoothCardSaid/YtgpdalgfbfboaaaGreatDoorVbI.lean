/- Package valve: Received, the walk. -/
import Derived.Test.YtgpdalgfbfboaaaGreatDoorVbH
namespace Go.Proofs.YtgpdalgfbfboaaaGreatDoor
set_option linter.unusedSimpArgs false
set_option linter.unusedVariables false
open Go.RowKit
set_option maxRecDepth 100000 in
set_option maxHeartbeats 4000000 in
theorem Received_any (v : Value) (src start : Int) (l : List Tg) (w : World) (hl : l.length ≤ 1000000) (hv : Rw 6 tV w v l) (hp : Pows w) :
 Calls Tryz.prog 33 #[v, .int .i64 src, .int .i64 start] w fun r w' => (∃ a n cap, r = .returned (.tuple #[.agg #[.int .i64 (rcR src start l).1, .slice a n cap], .int .i64 (rcE src start l)]) ∧ Prs w' (.slice a n cap) (rcR src start l).2) ∧ Below w.heap.size w w' := by
 have TP := Lib.hid (fun W (h : Rw 6 tV W v l) (hp : Pows W) => PrintT_any v l W hl h hp)
 have TW1 := Lib.hid (fun W => within_any src 0 255 W)
 have TW2 := Lib.hid (fun W => within_any start 0 100000 W)
 have hE1 : rcE1 src start l = firstE [ctE l, withinE src 0 255, withinE start 0 100000] := rfl
 have hok : rcE1 src start l = 0 → (0 ≤ start ∧ start ≤ 100000) ∧ (0 ≤ src ∧ src ≤ 255) ∧ l.length ≤ 1024 ∧ ∀ t ∈ l, (0 ≤ t.2.1 ∧ t.2.1 ≤ 65535) ∧ ∀ x ∈ tgL t, -32768 ≤ x ∧ x ≤ 32767 := fun h => by
  rw [hE1, firstE_cons0, firstE_cons0, firstE_cons0, withinE_zero, withinE_zero] at h
  have h1 := ctE_ok h.1
  exact ⟨h.2.2.1, h.2.1, h1.1, fun t ht => ⟨(tgE_ok (h1.2 t ht)).2.1, (tgE_ok (h1.2 t ht)).2.2⟩⟩
 have hn1 : rcE1 src start l ≠ 0 → rcE src start l = rcE1 src start l ∧ rcR src start l = (0, []) := fun h => by
  have e : rcE src start l = rcE1 src start l := by unfold rcE; rw [if_neg h]
  exact ⟨e, by unfold rcR; rw [e, if_neg h]⟩
 have hn2 : rcE1 src start l = 0 → rcE2 src start l ≠ 0 → rcE src start l = rcE2 src start l ∧ rcR src start l = (0, []) := fun h h2 => by
  have e : rcE src start l = rcE2 src start l := by unfold rcE; rw [if_pos h, if_neg h2]
  exact ⟨e, by unfold rcR; rw [e, if_neg h2]⟩
 have hn3 : rcE1 src start l = 0 → rcE2 src start l = 0 → 256 < (rcK src start l l.length).1.length → rcE src start l = 5 ∧ rcR src start l = (0, []) := fun h h2 h3 => by
  have e : rcE src start l = 5 := by unfold rcE; rw [if_pos h, if_pos h2, if_pos h3]
  exact ⟨e, by unfold rcR; rw [e, if_neg (by decide)]⟩
 have hn4 : rcE1 src start l = 0 → rcE2 src start l = 0 → ¬ 256 < (rcK src start l l.length).1.length → rcE src start l = 0 ∧ rcR src start l = (src, (rcK src start l l.length).1) := fun h h2 h3 => by
  have e : rcE src start l = 0 := by unfold rcE; rw [if_pos h, if_pos h2, if_neg h3]
  exact ⟨e, by unfold rcR; rw [e, if_pos rfl]⟩
 obtain ⟨e0, he0⟩ : ∃ e, e = ctE l := ⟨_, rfl⟩
 obtain ⟨e1, he1⟩ : ∃ e, e = withinE src 0 255 := ⟨_, rfl⟩
 obtain ⟨e2, he2⟩ : ∃ e, e = withinE start 0 100000 := ⟨_, rfl⟩
 rw [← he0] at TP hE1
 rw [← he1] at TW1 hE1
 rw [← he2] at TW2 hE1
 have TF := Lib.hid (fun W => first3 e0 e1 e2 27 W)
 rw [← hE1] at TF
 obtain ⟨E1, hE1'⟩ : ∃ e, e = rcE1 src start l := ⟨_, rfl⟩
 obtain ⟨E, hE⟩ : ∃ e, e = rcE src start l := ⟨_, rfl⟩
 obtain ⟨R, hR⟩ : ∃ e, e = rcR src start l := ⟨_, rfl⟩
 rw [← hE1'] at TF hok hn1 hn2 hn3 hn4
 rw [← hE] at hn1 hn2 hn3 hn4 ⊢
 rw [← hR] at hn1 hn2 hn3 hn4 ⊢
 obtain ⟨va, vc, rfl, hvc⟩ := hv.slice
 obtain ⟨N, hN⟩ : ∃ N, N = l.length := ⟨_, rfl⟩
 rw [← hN] at TP hv hl hok hn3 hn4 ⊢
 have HOK := Lib.hid hok
 have HN1 := Lib.hid hn1
 have HN2 := Lib.hid hn2
 have HN3 := Lib.hid hn3
 have HN4 := Lib.hid hn4
 have HN := Lib.hid hN
 clear hE1 hok hn1 hn2 hn3 hn4 he0 he1 he2 hE1' hE hR hN hvc
 obtain ⟨i9, hi9, hz0, hz1, hz2⟩ := info_parts Tryz.infZvalvePulse
 go_enter Tryz.func33, Tryz.ntmps33
 go_upto_region 1 with fail
 obtain ⟨W1, hW1⟩ : ∃ v, v = World.alloc w (Obj.cells #[.int .i64 0, .slice none 0 0] 53) := ⟨_, rfl⟩
 have kW1 : Below w.heap.size w W1 := by rw [hW1]; exact below_new _ _
 have iW1 : Blk W1 (w.heap.size) 53 [.int .i64 0, .slice none 0 0] := by rw [hW1]; exact Blk.new _ _ _
 have sW1 : W1.heap.size = w.heap.size + 1 := by rw [hW1]; simp
 rw [← hW1]
 clear hW1
 have i6 := iW1
 have hB := kW1
 replace hv := hv.carry kW1
 replace hp := hp.carry kW1
 clear iW1 kW1 sW1
 go_wp2_with fail
 refine (TP.out W1 hv hp).mono ?_
 rintro e w2 ⟨⟨s0, rfl⟩, hb2⟩
 have i6 := i6.carry hb2
 replace hv := hv.carry hb2
 replace hB := bthen hB hb2
 clear hb2 hp TP
 go_wp2_with fail
 refine (TW1.out w2).mono ?_
 rintro e w3 ⟨rfl, rfl⟩
 go_wp2_with fail
 refine (TW2.out w2).mono ?_
 rintro e w3 ⟨rfl, rfl⟩
 go_wp2_with fail
 refine (TF.out w2).mono ?_
 rintro e w4 ⟨rfl, hw4⟩
 have k4 : Below w2.heap.size w2 w4 := by rw [← hw4]; exact below_new _ _
 have i6 := i6.carry k4
 replace hv := hv.carry k4
 replace hB := bthen hB k4
 clear k4 hw4 TW1 TW2 TF
 by_cases h0 : E1 = 0
 ·subst h0
  have hok := HOK.out (by trivial)
  have hn2 := HN2.out (by trivial)
  have hn3 := HN3.out (by trivial)
  have hn4 := HN4.out (by trivial)
  have HOKz := Lib.hid hok
  have HN2z := Lib.hid hn2
  have HN3z := Lib.hid hn3
  have HN4z := Lib.hid hn4
  clear HOK HN1 HN2 HN3 HN4 hok hn2 hn3 hn4
  go_upto_region 6 with fail
  obtain ⟨W5, hW5⟩ : ∃ v, v = World.alloc w4 (Obj.cells #[.int .i64 src, .slice none 0 0] 53) := ⟨_, rfl⟩
  have kW5 : Below w4.heap.size w4 W5 := by rw [hW5]; exact below_new _ _
  have iW5 : Blk W5 (w4.heap.size) 53 [.int .i64 src, .slice none 0 0] := by rw [hW5]; exact Blk.new _ _ _
  have sW5 : W5.heap.size = w4.heap.size + 1 := by rw [hW5]; simp
  rw [← hW5]
  clear hW5
  have HI6 := Lib.hid i6
  have HV := Lib.hid hv
  have HB := Lib.hid hB
  have HLT := Lib.hid i6.lt
  have HK5 := Lib.hid kW5
  have i11 := iW5
  clear iW5 sW5 kW5 i6 hv hB
  go_wp2_with fail
  go_loopw [12, 37] (fun f i wr => ∃ k : Nat, k ≤ N ∧ i = .int .i64 k ∧ f = .int .i64 (rcK src start l k).2 ∧ (∀ j, j < k → rcX src start l j = 0) ∧ (∃ oa oc, Blk wr w4.heap.size 53 [.int .i64 src, .slice oa (rcK src start l k).1.length oc] ∧ wr.ownsRow (w4.heap.size + 1) 41 2 (.slice oa (rcK src start l k).1.length oc) (rcK src start l k).1.length ((rcK src start l k).1.flatMap pV)) ∧ Below w4.heap.size w4 wr) (fun _ i _ => N - (intOf i).toNat)
  case atStart => exact ⟨0, by omega, rfl, rfl, by omega, ⟨none, 0, i11, World.ownsRow_nil _ _ _ _⟩, HK5.out⟩
  case round =>
   clear i11
   obtain ⟨k, hk, rfl, rfl, hx, ⟨oa, oc, i11, hown⟩, hbel⟩ := hrel
   have HX := Lib.hid hx
   by_cases hlt : k < N
   ·obtain ⟨t, ht⟩ : ∃ t, l[k]? = some t := ⟨_, List.getElem?_eq_getElem (by rw [← HN.out]; exact hlt)⟩
    obtain ⟨b, off, cp, he, hcs⟩ := (HV.out.carry hbel).head (by rw [← HN.out]; omega)
    simp only [Value.slice.injEq] at he
    obtain ⟨rfl, -, rfl⟩ := he
    obtain ⟨d0, d1, d2, d3, d4, d5⟩ := rw6 (hcs k t ht) (show tV t = [.int .i64 t.1, .int .i64 t.2.1, .int .i64 t.2.2.1, .int .i64 t.2.2.2.1, .int .i64 t.2.2.2.2.1, .int .i64 t.2.2.2.2.2] from rfl)
    have hfr := rcK_rng HOKz.out.1 (fun t ht => (HOKz.out.2.2.2 t ht).1) k hx
    have hml := rcK_len src start l k
    have htr := HOKz.out.2.2.2 t (List.mem_of_getElem? ht)
    have hN9 := HOKz.out.2.2.1
    have htk := tick_rng (rcK src start l k).2 t.2.1 hfr htr.1
    have hsK : rcK src start l (k + 1) = if t.1 = src then ((rcK src start l k).1 ++ [(rcTick (rcK src start l k).2 t.2.1, t.2.2.1)], rcTick (rcK src start l k).2 t.2.1 + 1) else rcK src start l k := by simp only [rcK, ht, Option.getD_some]
    have hsX : rcX src start l k = if t.1 = src then (if rcBad t = true then 1 else if 100000 < rcTick (rcK src start l k).2 t.2.1 then 4 else 0) else 0 := by simp only [rcX, ht, Option.getD_some]
    have hst := fun h => rcE2_stop (src := src) (start := start) (l := l) (k := k) (by rw [← HN.out]; exact hlt) hx h
    have HSX := Lib.hid hsX
    have HSK := Lib.hid hsK
    have HST := Lib.hid hst
    obtain ⟨t0, t1, t2, t3, t4, t5⟩ := t
    obtain ⟨F, hF⟩ : ∃ z, z = (rcK src start l k).2 := ⟨_, rfl⟩
    obtain ⟨TR, hTR⟩ : ∃ z, z = (rcK src start l k).1 := ⟨_, rfl⟩
    have hpair : rcK src start l k = (TR, F) := by rw [hF, hTR]
    have HPAIR := Lib.hid hpair
    rw [← hF] at hfr htk ⊢
    rw [← hTR] at hown i11 hml
    obtain ⟨m, hm⟩ : ∃ z, z = TR.length := ⟨_, rfl⟩
    rw [← hm] at hown i11 hml
    have HM := Lib.hid hm
    obtain ⟨T, hT⟩ : ∃ z, z = rcTick F t1 := ⟨_, rfl⟩
    have HT := Lib.hid hT
    dsimp only at d0 d1 d2 d3 d4 d5 htr htk
    rw [← hT] at htk
    have hT2 := hT
    unfold rcTick at hT2
    have HT2 := Lib.hid hT2
    have q1 : IntKind.i64.wrap (t1 - F) = t1 - F := IntWalk.i64_in _ (by omega)
    have q3 : IntKind.i64.wrap (Int.tmod (t1 - F) 65536 + 65536) = Int.tmod (t1 - F) 65536 + 65536 := IntWalk.i64_in _ (by omega)
    have q5 : IntKind.i64.wrap (F + Int.tmod (t1 - F) 65536 % 65536) = F + Int.tmod (t1 - F) 65536 % 65536 := IntWalk.i64_in _ (by omega)
    have hb1 : -65536 < Int.tmod (t1 - F) 65536 := htk.1.1
    have hneq := neq4 t2 t3 t4 t5
    have HFR := Lib.hid hfr
    have HTK := Lib.hid htk
    have hbad : rcBad (t0, t1, t2, t3, t4, t5) = !([t2, t3, t4, t5] == [bits .and .i64 t2 4095, 0, 0, 0]) := rfl
    have HBAD := Lib.hid hbad
    have hdk : (k : Int) < (N : Int) := by omega
    clear hF hTR hpair hm hT hT2 hbad htk hst hsX hsK hcs ht hx
    go_upto_region 10 with fail
    obtain ⟨W9, hW9⟩ : ∃ v, v = World.alloc wr (Obj.cells #[.int .i64 t0, .int .i64 t1, .int .i64 t2, .int .i64 t3, .int .i64 t4, .int .i64 t5] 75) := ⟨_, rfl⟩
    have kW9 : Below wr.heap.size wr W9 := by rw [hW9]; exact below_new _ _
    have iW9 : Blk W9 (wr.heap.size) 75 [.int .i64 t0, .int .i64 t1, .int .i64 t2, .int .i64 t3, .int .i64 t4, .int .i64 t5] := by rw [hW9]; exact Blk.new _ _ _
    have sW9 : W9.heap.size = wr.heap.size + 1 := by rw [hW9]; simp
    rw [← hW9]
    clear hW9
    have c0 := iW9.cell (j := 0) (v := .int .i64 t0) rfl
    have c1 := iW9.cell (j := 1) (v := .int .i64 t1) rfl
    have c2 := iW9.cell (j := 2) (v := .int .i64 t2) rfl
    have c3 := iW9.cell (j := 3) (v := .int .i64 t3) rfl
    have c4 := iW9.cell (j := 4) (v := .int .i64 t4) rfl
    have c5 := iW9.cell (j := 5) (v := .int .i64 t5) rfl
    have i11 := i11.carry kW9
    have hown := own_below hown kW9
    have hbel := bthen hbel kW9
    clear d0 d1 d2 d3 d4 d5 iW9 sW9 kW9
    by_cases hs : t0 = src
    ·have b0 : (t0 != src) = false := by rw [bne_eq_false_iff_eq]; exact hs
     obtain ⟨B, hBd⟩ : ∃ z, z = !([t2, t3, t4, t5] == [bits .and .i64 t2 4095, 0, 0, 0]) := ⟨_, rfl⟩
     have hnq : ∀ w, Sem.run Tryz.prog (binOp .neq 73 (.agg #[.int .i64 t2, .int .i64 t3, .int .i64 t4, .int .i64 t5]) (.agg #[.int .i64 (bits .and .i64 t2 4095), .int .i64 0, .int .i64 0, .int .i64 0])) w = .ok (.bool B) w := fun w => by rw [hBd]; exact hneq _ w
     have hB2 : rcBad (t0, t1, t2, t3, t4, t5) = B := by rw [hBd]; exact HBAD.out
     have hX2 : rcX src start l k = if B = true then 1 else if 100000 < T then 4 else 0 := by
      rw [HSX.out, if_pos hs, hB2, HT.out, HPAIR.out]
     have hK2 : rcK src start l (k + 1) = (TR ++ [(T, t2)], T + 1) := by
      rw [HSK.out, if_pos hs, HPAIR.out, HT.out]
     have HX2 := Lib.hid hX2
     have HK2 := Lib.hid hK2
     clear hX2 hK2 hBd hB2 hneq hs
     cases B with
     | true =>
       have hx2 : rcX src start l k = 1 := by rw [HX2.out, if_pos rfl]
       have hst := HST.out (by rw [hx2]; decide)
       obtain ⟨hE, rfl⟩ := HN2z.out (by rw [hst, hx2]; decide)
       obtain rfl : E = 1 := by rw [hE, hst, hx2]
       clear hx2 hst hE HN2z HN3z HN4z HST
       have i6 := HI6.out.carry hbel
       have f0 := i6.frozen 0
       have f1 := i6.frozen 1
       have g0 := i6.cell (j := 0) (v := .int .i64 0) rfl
       have g1 := i6.cell (j := 1) (v := .slice none 0 0) rfl
       have j6 := (i6.set 0 (.int .i64 0)).set 1 (.slice none 0 0)
       have hb := below_setC (below_setC (bthen HB.out hbel) w.heap.size 0 (Nat.le_refl _) (.int .i64 0)) w.heap.size 1 (Nat.le_refl _) (.slice none 0 0)
       have HZ0 := Lib.hid (j6.cell (j := 0) (v := .int .i64 0) rfl)
       have HZ1 := Lib.hid (j6.cell (j := 1) (v := .slice none 0 0) rfl)
       have HBB := Lib.hid hb
       clear j6 hb
       go_wp2
       have z0 := HZ0.out
       have z1 := HZ1.out
       exact bodyPost_ret (v := .tuple #[.agg #[.int .i64 0, .slice none 0 0], .int .i64 1]) (by simp [results, Tryz.f33, go_sem, z0, z1]) rfl ⟨⟨_, _, _, rfl, Rw.nil _ _ _ _ _⟩, HBB.out⟩
     | false =>
       by_cases hbig : 100000 < T
       ·have hx2 : rcX src start l k = 4 := by rw [HX2.out, if_neg (by decide), if_pos hbig]
        have hst := HST.out (by rw [hx2]; decide)
        obtain ⟨hE, rfl⟩ := HN2z.out (by rw [hst, hx2]; decide)
        obtain rfl : E = 4 := by rw [hE, hst, hx2]
        have b9 : decide (100000 < F + Int.tmod (t1 - F) 65536 % 65536) = true := by rw [← HT2.out]; exact decide_eq_true hbig
        clear hx2 hst hE hbig HN2z HN3z HN4z HST
        have i6 := HI6.out.carry hbel
        have f0 := i6.frozen 0
        have f1 := i6.frozen 1
        have g0 := i6.cell (j := 0) (v := .int .i64 0) rfl
        have g1 := i6.cell (j := 1) (v := .slice none 0 0) rfl
        have j6 := (i6.set 0 (.int .i64 0)).set 1 (.slice none 0 0)
        have hb := below_setC (below_setC (bthen HB.out hbel) w.heap.size 0 (Nat.le_refl _) (.int .i64 0)) w.heap.size 1 (Nat.le_refl _) (.slice none 0 0)
        have HZ0 := Lib.hid (j6.cell (j := 0) (v := .int .i64 0) rfl)
        have HZ1 := Lib.hid (j6.cell (j := 1) (v := .slice none 0 0) rfl)
        have HBB := Lib.hid hb
        clear j6 hb
        go_wp2
        have z0 := HZ0.out
        have z1 := HZ1.out
        exact bodyPost_ret (v := .tuple #[.agg #[.int .i64 0, .slice none 0 0], .int .i64 4]) (by simp [results, Tryz.f33, go_sem, z0, z1]) rfl ⟨⟨_, _, _, rfl, Rw.nil _ _ _ _ _⟩, HBB.out⟩
       ·have hx2 : rcX src start l k = 0 := by rw [HX2.out, if_neg (by decide), if_neg hbig]
        have hX1 : ∀ j, j < k + 1 → rcX src start l j = 0 := fun j hj => by
         by_cases hjk : j = k
         ·subst hjk; exact hx2
         ·exact HX.out j (by omega)
        have HX1 := Lib.hid hX1
        have b9 : decide (100000 < F + Int.tmod (t1 - F) 65536 % 65536) = false := by rw [← HT2.out]; exact decide_eq_false hbig
        have hT9 : T ≤ 100000 := by omega
        clear hx2 hX1 hbig
        have HT9 := Lib.hid hT9
        go_upto_region 16 with fail
        rw [← HT2.out]
        have y1 := i11.cell (j := 1) (v := .slice oa m oc) rfl
        have hlt11 := i11.lt
        have q6 : IntKind.i64.wrap (T + 1) = T + 1 := IntWalk.i64_in _ (by have := HFR.out; have := HTK.out; have := HT9.out; omega)
        have kn := below_new W9 (.cells #[.int .i64 T, .int .i64 t2] 41)
        have hks := kn.size
        clear q1 q3 q5 hb1 hnq b9 hT9
        go_wp2_with (at_builtin; refine wpList_append_own _ rfl _ _ 26 rfl (w4.heap.size + 1) 41 i9 (.agg #[.int .i64 0, .int .i64 0]) 2 16 Tryz.undZvalvePulse hi9 hz0 hz1 hz2 rfl (by decide) _ _ _ rfl (own_below hown kn) ⟨W9.heap.size, 0, none⟩ 1 1 [.int .i64 T, .int .i64 t2] rfl rfl (fun j u hj => (Blk.new W9 41 [.int .i64 T, .int .i64 t2]).news j u hj) (by simp [Value.oneCell']) (by unfold maxLen; omega) (by omega) (by have := kn.size; omega) ?_; intro v9 w1 hown9 hgrow9 _; obtain ⟨va9, vc9, rfl⟩ := own_slice hown9; have j11 := Blk.keptV (i11.carry kn) (own_below hown kn) (by omega) hgrow9; have y2 := j11.cell (j := 1) (v := .slice oa m oc) rfl; have fz := j11.frozen 1)
        have hbel2 : Below w4.heap.size w4 w1 := (bthen hbel kn).grown hgrow9 (by omega) (fun k' hk' => by have := (World.ownsRow.lt (own_below hown kn) k' hk').1; omega)
        have k11 := j11.set 1 (.slice va9 (m + 1) vc9)
        have hown10 := own_setCellV (j := 1) (x := .slice va9 (m + 1) vc9) hown9 (by omega : w4.heap.size < w4.heap.size + 1)
        have hbel3 := below_setC hbel2 w4.heap.size 1 (Nat.le_refl _) (.slice va9 (m + 1) vc9)
        have hlen2 : (rcK src start l (k + 1)).1.length = m + 1 := by rw [HK2.out, List.length_append, HM.out]; rfl
        have hfl2 : (rcK src start l (k + 1)).1.flatMap pV = TR.flatMap pV ++ [.int .i64 T, .int .i64 t2] := by rw [HK2.out, List.flatMap_append]; rfl
        refine ⟨⟨k + 1, by omega, by go_num, by rw [HK2.out], HX1.out, ⟨va9, vc9, ?_, ?_⟩, hbel3⟩, by simp [intOf]; omega⟩
        ·rw [hlen2]; exact k11
        ·rw [hlen2, hfl2]; exact hown10
    ·have b0 : (t0 != src) = true := by rw [bne_iff_ne]; exact hs
     have hK1 : rcK src start l (k + 1) = (TR, F) := by rw [HSK.out, if_neg hs, HPAIR.out]
     have hX1 : ∀ j, j < k + 1 → rcX src start l j = 0 := fun j hj => by
      by_cases hjk : j = k
      ·subst hjk; rw [HSX.out, if_neg hs]
      ·exact HX.out j (by omega)
     have HK1 := Lib.hid hK1
     have HX1 := Lib.hid hX1
     clear hK1 hX1 hs
     go_wp2
     go_roundw
     case rel => exact ⟨k + 1, by omega, by go_num, by rw [HK1.out], HX1.out, ⟨oa, oc, by rw [HK1.out, ← HM.out]; exact i11, by rw [HK1.out, ← HM.out]; exact hown⟩, hbel⟩
     case measure => simp [intOf]; omega
   ·obtain rfl : k = N := by omega
    have hE2 := rcE2_end (src := src) (start := start) (l := l) (by rw [← HN.out]; exact hx)
    obtain ⟨F, hF⟩ : ∃ z, z = (rcK src start l k).2 := ⟨_, rfl⟩
    obtain ⟨TR, hTR⟩ : ∃ z, z = (rcK src start l k).1 := ⟨_, rfl⟩
    have hn3 := HN3z.out hE2
    have hn4 := HN4z.out hE2
    rw [← hTR] at hn3 hn4
    rw [← hTR] at hown i11
    rw [← hF]
    obtain ⟨m, hm⟩ : ∃ z, z = TR.length := ⟨_, rfl⟩
    have HM := Lib.hid hm
    rw [← hm] at hown i11 hn3 hn4
    have y0 := i11.cell (j := 0) (v := .int .i64 src) rfl
    have y1 := i11.cell (j := 1) (v := .slice oa m oc) rfl
    have dd : ¬ ((k : Int) < (k : Int)) := by omega
    have HLT6 := HLT.out
    clear hE2 hF hTR hm hlt hk hx HN2z HN3z HN4z
    by_cases hbig : 256 < m
    ·obtain ⟨rfl, rfl⟩ := hn3 hbig
     have b9 : decide ((256 : Int) < (m : Int)) = true := by simp; omega
     clear hn3 hn4 hbig
     have i6 := HI6.out.carry hbel
     have f0 := i6.frozen 0
     have f1 := i6.frozen 1
     have g0 := i6.cell (j := 0) (v := .int .i64 0) rfl
     have g1 := i6.cell (j := 1) (v := .slice none 0 0) rfl
     have j6 := (i6.set 0 (.int .i64 0)).set 1 (.slice none 0 0)
     have hb := below_setC (below_setC (bthen HB.out hbel) w.heap.size 0 (Nat.le_refl _) (.int .i64 0)) w.heap.size 1 (Nat.le_refl _) (.slice none 0 0)
     have HZ0 := Lib.hid (j6.cell (j := 0) (v := .int .i64 0) rfl)
     have HZ1 := Lib.hid (j6.cell (j := 1) (v := .slice none 0 0) rfl)
     have HBB := Lib.hid hb
     clear j6 hb
     go_wp2
     have z0 := HZ0.out
     have z1 := HZ1.out
     exact bodyPost_ret (v := .tuple #[.agg #[.int .i64 0, .slice none 0 0], .int .i64 5]) (by simp [results, Tryz.f33, go_sem, z0, z1]) rfl ⟨⟨_, _, _, rfl, Rw.nil _ _ _ _ _⟩, HBB.out⟩
    ·obtain ⟨rfl, rfl⟩ := hn4 hbig
     have b9 : decide ((256 : Int) < (m : Int)) = false := by simp; omega
     clear hn3 hn4 hbig
     have hown2 := own_setCellV (j := 1) (x := .slice oa m oc) (own_setCellV (j := 0) (x := .int .i64 src) hown (by omega : w.heap.size < w4.heap.size + 1)) (by omega : w.heap.size < w4.heap.size + 1)
     have HPR := Lib.hid (Rw.of_own (l := TR) pV_len hown2 HM.out)
     clear hown2
     have i6 := HI6.out.carry hbel
     have f0 := i6.frozen 0
     have f1 := i6.frozen 1
     have g0 := i6.cell (j := 0) (v := .int .i64 0) rfl
     have g1 := i6.cell (j := 1) (v := .slice none 0 0) rfl
     have j6 := (i6.set 0 (.int .i64 src)).set 1 (.slice oa m oc)
     have hb := below_setC (below_setC (bthen HB.out hbel) w.heap.size 0 (Nat.le_refl _) (.int .i64 src)) w.heap.size 1 (Nat.le_refl _) (.slice oa m oc)
     have HZ0 := Lib.hid (j6.cell (j := 0) (v := .int .i64 src) rfl)
     have HZ1 := Lib.hid (j6.cell (j := 1) (v := .slice oa m oc) rfl)
     have HBB := Lib.hid hb
     clear j6 hb
     go_wp2
     have z0 := HZ0.out
     have z1 := HZ1.out
     exact bodyPost_ret (v := .tuple #[.agg #[.int .i64 src, .slice oa m oc], .int .i64 0]) (by simp [results, Tryz.f33, go_sem, z0, z1]) rfl ⟨⟨_, _, _, rfl, HPR.out⟩, HBB.out⟩
 ·obtain ⟨rfl, rfl⟩ := HN1.out h0
  have b0 : (E != 0) = true := by rw [bne_iff_ne]; exact h0
  have f0 := i6.frozen 0
  have f1 := i6.frozen 1
  have c0 := i6.cell (j := 0) (v := .int .i64 0) rfl
  have c1 := i6.cell (j := 1) (v := .slice none 0 0) rfl
  have j6 := (i6.set 0 (.int .i64 0)).set 1 (.slice none 0 0)
  have hb := below_setC (below_setC hB w.heap.size 0 (Nat.le_refl _) (.int .i64 0)) w.heap.size 1 (Nat.le_refl _) (.slice none 0 0)
  have z0 := j6.cell (j := 0) (v := .int .i64 0) rfl
  have z1 := j6.cell (j := 1) (v := .slice none 0 0) rfl
  have HZ0 := Lib.hid z0
  have HZ1 := Lib.hid z1
  have HBB := Lib.hid hb
  clear h0 j6 hb z0 z1
  go_wp2
  have z0 := HZ0.out
  have z1 := HZ1.out
  exact bodyPost_ret (v := .tuple #[.agg #[.int .i64 0, .slice none 0 0], .int .i64 E]) (by simp [results, Tryz.f33, go_sem, z0, z1]) rfl ⟨⟨_, _, _, rfl, Rw.nil _ _ _ _ _⟩, HBB.out⟩
end Go.Proofs.YtgpdalgfbfboaaaGreatDoor

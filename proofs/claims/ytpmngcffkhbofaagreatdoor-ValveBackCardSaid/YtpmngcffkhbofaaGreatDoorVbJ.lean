/- Package valve: Received, the walk. -/
import Derived.Test.YtpmngcffkhbofaaGreatDoorVbH
namespace Go.Proofs.YtpmngcffkhbofaaGreatDoor
section
set_option linter.unusedSimpArgs false
set_option linter.unusedVariables false
open Go.RowKit
set_option maxRecDepth 100000 in
set_option maxHeartbeats 4000000 in
theorem Received_any (v : Value) (src start : Int) (l : List Tg) (w : World) (hl : l.length ≤ 1000000) (hv : Rw 6 tV w v l) (hp : Pows w) :
 Calls Tryz.prog 18 #[v, .int .i64 src, .int .i64 start] w fun r w' => (∃ a n cap, r = .returned (.tuple #[.agg #[.int .i64 (rcR src start l).1, .slice a n cap], .int .i64 (rcE src start l)]) ∧ Prs w' (.slice a n cap) (rcR src start l).2) ∧ Below w.heap.size w w' := by
 have TP := Lib.hid (fun W (h : Rw 6 tV W v l) (hp : Pows W) => PrintT_any v l W hl h hp)
 have TW1 := Lib.hid (fun W => within_any src 0 255 W)
 have TW2 := Lib.hid (fun W => within_any start 0 100000 W)
 have hE1 : rcE1 src start l = firstE [ctE l, withinE src 0 255, withinE start 0 100000] := rfl
 have hok : rcE1 src start l = 0 → (0 ≤ start ∧ start ≤ 100000) ∧ (0 ≤ src ∧ src ≤ 255) ∧ l.length ≤ 1024 ∧ ∀ t ∈ l, (0 ≤ t.2.1 ∧ t.2.1 ≤ 65535) ∧ ∀ x ∈ tgL t, -32768 ≤ x ∧ x ≤ 32767 := fun h => by
  rw [hE1, firstE_cons0, firstE_cons0, firstE_cons0, withinE_zero, withinE_zero] at h
  have h1 := ctE_ok h.1
  exact ⟨h.2.2.1, h.2.1, h1.1, fun t ht => ⟨(tgE_ok (h1.2 t ht)).2.1, (tgE_ok (h1.2 t ht)).2.2⟩⟩
 have hn1 : rcE1 src start l ≠ 0 → rcE src start l = rcE1 src start l ∧ rcR src start l = (0, []) := fun h => by
  have e : rcE src start l = rcE1 src start l := by unfold rcE; rw [if_neg h]
  exact ⟨e, by unfold rcR; rw [e, if_neg h]⟩
 have hn2 : rcE1 src start l = 0 → rcE2 src start l ≠ 0 → rcE src start l = rcE2 src start l ∧ rcR src start l = (0, []) := fun h h2 => by
  have e : rcE src start l = rcE2 src start l := by unfold rcE; rw [if_pos h, if_neg h2]
  exact ⟨e, by unfold rcR; rw [e, if_neg h2]⟩
 have hn3 : rcE1 src start l = 0 → rcE2 src start l = 0 → 256 < (rcK src start l l.length).1.length → rcE src start l = 5 ∧ rcR src start l = (0, []) := fun h h2 h3 => by
  have e : rcE src start l = 5 := by unfold rcE; rw [if_pos h, if_pos h2, if_pos h3]
  exact ⟨e, by unfold rcR; rw [e, if_neg (by decide)]⟩
 have hn4 : rcE1 src start l = 0 → rcE2 src start l = 0 → ¬ 256 < (rcK src start l l.length).1.length → rcE src start l = 0 ∧ rcR src start l = (src, (rcK src start l l.length).1) := fun h h2 h3 => by
  have e : rcE src start l = 0 := by unfold rcE; rw [if_pos h, if_pos h2, if_neg h3]
  exact ⟨e, by unfold rcR; rw [e, if_pos rfl]⟩
 obtain ⟨e0, he0⟩ : ∃ e, e = ctE l := ⟨_, rfl⟩
 obtain ⟨e1, he1⟩ : ∃ e, e = withinE src 0 255 := ⟨_, rfl⟩
 obtain ⟨e2, he2⟩ : ∃ e, e = withinE start 0 100000 := ⟨_, rfl⟩
 rw [← he0] at TP hE1
 rw [← he1] at TW1 hE1
 rw [← he2] at TW2 hE1
 have TF := Lib.hid (fun W => first3 e0 e1 e2 27 W)
 rw [← hE1] at TF
 obtain ⟨E1, hE1'⟩ : ∃ e, e = rcE1 src start l := ⟨_, rfl⟩
 obtain ⟨E, hE⟩ : ∃ e, e = rcE src start l := ⟨_, rfl⟩
 obtain ⟨R, hR⟩ : ∃ e, e = rcR src start l := ⟨_, rfl⟩
 rw [← hE1'] at TF hok hn1 hn2 hn3 hn4
 rw [← hE] at hn1 hn2 hn3 hn4 ⊢
 rw [← hR] at hn1 hn2 hn3 hn4 ⊢
 obtain ⟨va, vc, rfl, hvc⟩ := hv.slice
 obtain ⟨N, hN⟩ : ∃ N, N = l.length := ⟨_, rfl⟩
 rw [← hN] at TP hv hl hok hn3 hn4 ⊢
 have HOK := Lib.hid hok
 have HN1 := Lib.hid hn1
 have HN2 := Lib.hid hn2
 have HN3 := Lib.hid hn3
 have HN4 := Lib.hid hn4
 have HN := Lib.hid hN
 clear hE1 hok hn1 hn2 hn3 hn4 he0 he1 he2 hE1' hE hR hN hvc
 obtain ⟨i9, hi9, hz0, hz1, hz2⟩ := info_parts Tryz.infZvalvePulse
 go_enter Tryz.func18, Tryz.ntmps18
 go_upto_region 1 with fail
 obtain ⟨W1, hW1⟩ : ∃ v, v = World.alloc w (Obj.cells #[.int .i64 0, .slice none 0 0] 32) := ⟨_, rfl⟩
 have kW1 : Below w.heap.size w W1 := by rw [hW1]; exact below_new _ _
 have iW1 : Blk W1 (w.heap.size) 32 [.int .i64 0, .slice none 0 0] := by rw [hW1]; exact Blk.new _ _ _
 have sW1 : W1.heap.size = w.heap.size + 1 := by rw [hW1]; simp
 rw [← hW1]
 clear hW1
 have i6 := iW1
 have hB := kW1
 replace hv := hv.carry kW1
 replace hp := hp.carry kW1
 clear iW1 kW1 sW1
 go_wp2_with fail
 refine (TP.out W1 hv hp).mono ?_
 rintro e w2 ⟨⟨s0, rfl⟩, hb2⟩
 have i6 := i6.carry hb2
 replace hv := hv.carry hb2
 replace hB := bthen hB hb2
 clear hb2 hp TP
 go_wp2_with fail
 refine (TW1.out w2).mono ?_
 rintro e w3 ⟨rfl, rfl⟩
 go_wp2_with fail
 refine (TW2.out w2).mono ?_
 rintro e w3 ⟨rfl, rfl⟩
 go_wp2_with fail
 refine (TF.out w2).mono ?_
 rintro e w4 ⟨rfl, hw4⟩
 have k4 : Below w2.heap.size w2 w4 := by rw [← hw4]; exact below_new _ _
 have i6 := i6.carry k4
 replace hv := hv.carry k4
 replace hB := bthen hB k4
 clear k4 hw4 TW1 TW2 TF
 by_cases h0 : E1 = 0
 ·subst h0
  have hok := HOK.out (by trivial)
  have hn2 := HN2.out (by trivial)
  have hn3 := HN3.out (by trivial)
  have hn4 := HN4.out (by trivial)
  have HOKz := Lib.hid hok
  have HN2z := Lib.hid hn2
  have HN3z := Lib.hid hn3
  have HN4z := Lib.hid hn4
  clear HOK HN1 HN2 HN3 HN4 hok hn2 hn3 hn4
  go_upto_region 6 with fail
  obtain ⟨W5, hW5⟩ : ∃ v, v = World.alloc w4 (Obj.cells #[.int .i64 src, .slice none 0 0] 32) := ⟨_, rfl⟩
  have kW5 : Below w4.heap.size w4 W5 := by rw [hW5]; exact below_new _ _
  have iW5 : Blk W5 (w4.heap.size) 32 [.int .i64 src, .slice none 0 0] := by rw [hW5]; exact Blk.new _ _ _
  have sW5 : W5.heap.size = w4.heap.size + 1 := by rw [hW5]; simp
  rw [← hW5]
  clear hW5
  have HI6 := Lib.hid i6
  have HV := Lib.hid hv
  have HB := Lib.hid hB
  have HLT := Lib.hid i6.lt
  have HK5 := Lib.hid kW5
  have i11 := iW5
  clear iW5 sW5 kW5 i6 hv hB
  go_wp2_with fail
  go_loopw [12, 37] (fun f i wr => ∃ k : Nat, k ≤ N ∧ i = .int .i64 k ∧ f = .int .i64 (rcK src start l k).2 ∧ (∀ j, j < k → rcX src start l j = 0) ∧ (∃ oa oc, Blk wr w4.heap.size 32 [.int .i64 src, .slice oa (rcK src start l k).1.length oc] ∧ wr.ownsRow (w4.heap.size + 1) 104 2 (.slice oa (rcK src start l k).1.length oc) (rcK src start l k).1.length ((rcK src start l k).1.flatMap pV)) ∧ Below w4.heap.size w4 wr) (fun _ i _ => N - (intOf i).toNat)
  case atStart => exact ⟨0, by omega, rfl, rfl, by omega, ⟨none, 0, i11, World.ownsRow_nil _ _ _ _⟩, HK5.out⟩
  case round =>
   clear i11
   obtain ⟨k, hk, rfl, rfl, hx, ⟨oa, oc, i11, hown⟩, hbel⟩ := hrel
   have HX := Lib.hid hx
   by_cases hlt : k < N
   ·obtain ⟨t, ht⟩ : ∃ t, l[k]? = some t := ⟨_, List.getElem?_eq_getElem (by rw [← HN.out]; exact hlt)⟩
    obtain ⟨b, off, cp, he, hcs⟩ := (HV.out.carry hbel).head (by rw [← HN.out]; omega)
    simp only [Value.slice.injEq] at he
    obtain ⟨rfl, -, rfl⟩ := he
    obtain ⟨d0, d1, d2, d3, d4, d5⟩ := rw6 (hcs k t ht) (show tV t = [.int .i64 t.1, .int .i64 t.2.1, .int .i64 t.2.2.1, .int .i64 t.2.2.2.1, .int .i64 t.2.2.2.2.1, .int .i64 t.2.2.2.2.2] from rfl)
    have hfr := rcK_rng HOKz.out.1 (fun t ht => (HOKz.out.2.2.2 t ht).1) k hx
    have hml := rcK_len src start l k
    have htr := HOKz.out.2.2.2 t (List.mem_of_getElem? ht)
    have hN9 := HOKz.out.2.2.1
    have htk := tick_rng (rcK src start l k).2 t.2.1 hfr htr.1
    have hsK : rcK src start l (k + 1) = if t.1 = src then ((rcK src start l k).1 ++ [(rcTick (rcK src start l k).2 t.2.1, t.2.2.1)], rcTick (rcK src start l k).2 t.2.1 + 1) else rcK src start l k := by simp only [rcK, ht, Option.getD_some]
    have hsX : rcX src start l k = if t.1 = src then (if rcBad t = true then 1 else if 100000 < rcTick (rcK src start l k).2 t.2.1 then 4 else 0) else 0 := by simp only [rcX, ht, Option.getD_some]
    have hst := fun h => rcE2_stop (src := src) (start := start) (l := l) (k := k) (by rw [← HN.out]; exact hlt) hx h
    have HSX := Lib.hid hsX
    have HSK := Lib.hid hsK
    have HST := Lib.hid hst
    obtain ⟨t0, t1, t2, t3, t4, t5⟩ := t
    obtain ⟨F, hF⟩ : ∃ z, z = (rcK src start l k).2 := ⟨_, rfl⟩
    obtain ⟨TR, hTR⟩ : ∃ z, z = (rcK src start l k).1 := ⟨_, rfl⟩
    have hpair : rcK src start l k = (TR, F) := by rw [hF, hTR]
    have HPAIR := Lib.hid hpair
    rw [← hF] at hfr htk ⊢
    rw [← hTR] at hown i11 hml
    obtain ⟨m, hm⟩ : ∃ z, z = TR.length := ⟨_, rfl⟩
    rw [← hm] at hown i11 hml
    have HM := Lib.hid hm
    obtain ⟨T, hT⟩ : ∃ z, z = rcTick F t1 := ⟨_, rfl⟩
    have HT := Lib.hid hT
    dsimp only at d0 d1 d2 d3 d4 d5 htr htk
    rw [← hT] at htk
    have hT2 := hT
    unfold rcTick at hT2
    have HT2 := Lib.hid hT2
    have q1 : IntKind.i64.wrap (t1 - F) = t1 - F := IntWalk.i64_in _ (by omega)
    have q3 : IntKind.i64.wrap (Int.tmod (t1 - F) 65536 + 65536) = Int.tmod (t1 - F) 65536 + 65536 := IntWalk.i64_in _ (by omega)
    have q5 : IntKind.i64.wrap (F + Int.tmod (t1 - F) 65536 % 65536) = F + Int.tmod (t1 - F) 65536 % 65536 := IntWalk.i64_in _ (by omega)
    have hb1 : -65536 < Int.tmod (t1 - F) 65536 := htk.1.1
    have hneq := neq4 t2 t3 t4 t5
    have HFR := Lib.hid hfr
    have HTK := Lib.hid htk
    have hbad : rcBad (t0, t1, t2, t3, t4, t5) = !([t2, t3, t4, t5] == [bits .and .i64 t2 4095, 0, 0, 0]) := rfl
    have HBAD := Lib.hid hbad
    have hdk : (k : Int) < (N : Int) := by omega
    clear hF hTR hpair hm hT hT2 hbad htk hst hsX hsK hcs ht hx
    go_upto_region 10 with fail
    obtain ⟨W9, hW9⟩ : ∃ v, v = World.alloc wr (Obj.cells #[.int .i64 t0, .int .i64 t1, .int .i64 t2, .int .i64 t3, .int .i64 t4, .int .i64 t5] 53) := ⟨_, rfl⟩
    have kW9 : Below wr.heap.size wr W9 := by rw [hW9]; exact below_new _ _
    have iW9 : Blk W9 (wr.heap.size) 53 [.int .i64 t0, .int .i64 t1, .int .i64 t2, .int .i64 t3, .int .i64 t4, .int .i64 t5] := by rw [hW9]; exact Blk.new _ _ _
    have sW9 : W9.heap.size = wr.heap.size + 1 := by rw [hW9]; simp
    rw [← hW9]
    clear hW9
    have c0 := iW9.cell (j := 0) (v := .int .i64 t0) rfl
    have c1 := iW9.cell (j := 1) (v := .int .i64 t1) rfl
    have c2 := iW9.cell (j := 2) (v := .int .i64 t2) rfl
    have c3 := iW9.cell (j := 3) (v := .int .i64 t3) rfl
    have c4 := iW9.cell (j := 4) (v := .int .i64 t4) rfl
    have c5 := iW9.cell (j := 5) (v := .int .i64 t5) rfl
    have i11 := i11.carry kW9
    have hown := own_below hown kW9
    have hbel := bthen hbel kW9
    clear d0 d1 d2 d3 d4 d5 iW9 sW9 kW9
    by_cases hs : t0 = src
    ·have b0 : (t0 != src) = false := by rw [bne_eq_false_iff_eq]; exact hs
     obtain ⟨B, hBd⟩ : ∃ z, z = !([t2, t3, t4, t5] == [bits .and .i64 t2 4095, 0, 0, 0]) := ⟨_, rfl⟩
     have hnq : ∀ w, Sem.run Tryz.prog (binOp .neq 51 (.agg #[.int .i64 t2, .int .i64 t3, .int .i64 t4, .int .i64 t5]) (.agg #[.int .i64 (bits .and .i64 t2 4095), .int .i64 0, .int .i64 0, .int .i64 0])) w = .ok (.bool B) w := fun w => by rw [hBd]; exact hneq _ w
     have hB2 : rcBad (t0, t1, t2, t3, t4, t5) = B := by rw [hBd]; exact HBAD.out
     have hX2 : rcX src start l k = if B = true then 1 else if 100000 < T then 4 else 0 := by
      rw [HSX.out, if_pos hs, hB2, HT.out, HPAIR.out]
     have hK2 : rcK src start l (k + 1) = (TR ++ [(T, t2)], T + 1) := by
      rw [HSK.out, if_pos hs, HPAIR.out, HT.out]
     have HX2 := Lib.hid hX2
     have HK2 := Lib.hid hK2
     clear hX2 hK2 hBd hB2 hneq hs
     cases B with
     | true =>
       have hx2 : rcX src start l k = 1 := by rw [HX2.out, if_pos rfl]
       have hst := HST.out (by rw [hx2]; decide)
       obtain ⟨hE, rfl⟩ := HN2z.out (by rw [hst, hx2]; decide)
       obtain rfl : E = 1 := by rw [hE, hst, hx2]
       clear hx2 hst hE HN2z HN3z HN4z HST
       have i6 := HI6.out.carry hbel
       have f0 := i6.frozen 0
       have f1 := i6.frozen 1
       have g0 := i6.cell (j := 0) (v := .int .i64 0) rfl
       have g1 := i6.cell (j := 1) (v := .slice none 0 0) rfl
       have j6 := (i6.set 0 (.int .i64 0)).set 1 (.slice none 0 0)
       have hb := below_setC (below_setC (bthen HB.out hbel) w.heap.size 0 (Nat.le_refl _) (.int .i64 0)) w.heap.size 1 (Nat.le_refl _) (.slice none 0 0)
       have HZ0 := Lib.hid (j6.cell (j := 0) (v := .int .i64 0) rfl)
       have HZ1 := Lib.hid (j6.cell (j := 1) (v := .slice none 0 0) rfl)
       have HBB := Lib.hid hb
       clear j6 hb
       go_wp2
       have z0 := HZ0.out
       have z1 := HZ1.out
       exact bodyPost_ret (v := .tuple #[.agg #[.int .i64 0, .slice none 0 0], .int .i64 1]) (by simp [results, Tryz.f18, go_sem, z0, z1]) rfl ⟨⟨_, _, _, rfl, Rw.nil _ _ _ _ _⟩, HBB.out⟩
     | false =>
       by_cases hbig : 100000 < T
       ·have hx2 : rcX src start l k = 4 := by rw [HX2.out, if_neg (by decide), if_pos hbig]
        have hst := HST.out (by rw [hx2]; decide)
        obtain ⟨hE, rfl⟩ := HN2z.out (by rw [hst, hx2]; decide)
        obtain rfl : E = 4 := by rw [hE, hst, hx2]
        have b9 : decide (100000 < F + Int.tmod (t1 - F) 65536 % 65536) = true := by rw [← HT2.out]; exact decide_eq_true hbig
        clear hx2 hst hE hbig HN2z HN3z HN4z HST
        have i6 := HI6.out.carry hbel
        have f0 := i6.frozen 0
        have f1 := i6.frozen 1
        have g0 := i6.cell (j := 0) (v := .int .i64 0) rfl
        have g1 := i6.cell (j := 1) (v := .slice none 0 0) rfl
        have j6 := (i6.set 0 (.int .i64 0)).set 1 (.slice none 0 0)
        have hb := below_setC (below_setC (bthen HB.out hbel) w.heap.size 0 (Nat.le_refl _) (.int .i64 0)) w.heap.size 1 (Nat.le_refl _) (.slice none 0 0)
        have HZ0 := Lib.hid (j6.cell (j := 0) (v := .int .i64 0) rfl)
        have HZ1 := Lib.hid (j6.cell (j := 1) (v := .slice none 0 0) rfl)
        have HBB := Lib.hid hb
        clear j6 hb
        go_wp2
        have z0 := HZ0.out
        have z1 := HZ1.out
        exact bodyPost_ret (v := .tuple #[.agg #[.int .i64 0, .slice none 0 0], .int .i64 4]) (by simp [results, Tryz.f18, go_sem, z0, z1]) rfl ⟨⟨_, _, _, rfl, Rw.nil _ _ _ _ _⟩, HBB.out⟩
       ·have hx2 : rcX src start l k = 0 := by rw [HX2.out, if_neg (by decide), if_neg hbig]
        have hX1 : ∀ j, j < k + 1 → rcX src start l j = 0 := fun j hj => by
         by_cases hjk : j = k
         ·subst hjk; exact hx2
         ·exact HX.out j (by omega)
        have HX1 := Lib.hid hX1
        have b9 : decide (100000 < F + Int.tmod (t1 - F) 65536 % 65536) = false := by rw [← HT2.out]; exact decide_eq_false hbig
        have hT9 : T ≤ 100000 := by omega
        clear hx2 hX1 hbig
        have HT9 := Lib.hid hT9
        go_upto_region 16 with fail
        rw [← HT2.out]
        have y1 := i11.cell (j := 1) (v := .slice oa m oc) rfl
        have hlt11 := i11.lt
        have q6 : IntKind.i64.wrap (T + 1) = T + 1 := IntWalk.i64_in _ (by have := HFR.out; have := HTK.out; have := HT9.out; omega)
        have kn := below_new W9 (.cells #[.int .i64 T, .int .i64 t2] 104)
        have hks := kn.size
        clear q1 q3 q5 hb1 hnq b9 hT9
        go_wp2_with (at_builtin; refine wpList_append_own _ rfl _ _ 30 rfl (w4.heap.size + 1) 104 i9 (.agg #[.int .i64 0, .int .i64 0]) 2 16 Tryz.undZvalvePulse hi9 hz0 hz1 hz2 rfl (by decide) _ _ _ rfl (own_below hown kn) ⟨W9.heap.size, 0, none⟩ 1 1 [.int .i64 T, .int .i64 t2] rfl rfl (fun j u hj => (Blk.new W9 104 [.int .i64 T, .int .i64 t2]).news j u hj) (by simp [Value.oneCell']) (by unfold maxLen; omega) (by omega) (by have := kn.size; omega) ?_; intro v9 w1 hown9 hgrow9 _; obtain ⟨va9, vc9, rfl⟩ := own_slice hown9; have j11 := Blk.keptV (i11.carry kn) (own_below hown kn) (by omega) hgrow9; have y2 := j11.cell (j := 1) (v := .slice oa m oc) rfl; have fz := j11.frozen 1)
        have hbel2 : Below w4.heap.size w4 w1 := (bthen hbel kn).grown hgrow9 (by omega) (fun k' hk' => by have := (World.ownsRow.lt (own_below hown kn) k' hk').1; omega)
        have k11 := j11.set 1 (.slice va9 (m + 1) vc9)
        have hown10 := own_setCellV (j := 1) (x := .slice va9 (m + 1) vc9) hown9 (by omega : w4.heap.size < w4.heap.size + 1)
        have hbel3 := below_setC hbel2 w4.heap.size 1 (Nat.le_refl _) (.slice va9 (m + 1) vc9)
        have hlen2 : (rcK src start l (k + 1)).1.length = m + 1 := by rw [HK2.out, List.length_append, HM.out]; rfl
        have hfl2 : (rcK src start l (k + 1)).1.flatMap pV = TR.flatMap pV ++ [.int .i64 T, .int .i64 t2] := by rw [HK2.out, List.flatMap_append]; rfl
        refine ⟨⟨k + 1, by omega, by go_num, by rw [HK2.out], HX1.out, ⟨va9, vc9, ?_, ?_⟩, hbel3⟩, by simp [intOf]; omega⟩
        ·rw [hlen2]; exact k11
        ·rw [hlen2, hfl2]; exact hown10
    ·have b0 : (t0 != src) = true := by rw [bne_iff_ne]; exact hs
     have hK1 : rcK src start l (k + 1) = (TR, F) := by rw [HSK.out, if_neg hs, HPAIR.out]
     have hX1 : ∀ j, j < k + 1 → rcX src start l j = 0 := fun j hj => by
      by_cases hjk : j = k
      ·subst hjk; rw [HSX.out, if_neg hs]
      ·exact HX.out j (by omega)
     have HK1 := Lib.hid hK1
     have HX1 := Lib.hid hX1
     clear hK1 hX1 hs
     go_wp2
     go_roundw
     case rel => exact ⟨k + 1, by omega, by go_num, by rw [HK1.out], HX1.out, ⟨oa, oc, by rw [HK1.out, ← HM.out]; exact i11, by rw [HK1.out, ← HM.out]; exact hown⟩, hbel⟩
     case measure => simp [intOf]; omega
   ·obtain rfl : k = N := by omega
    have hE2 := rcE2_end (src := src) (start := start) (l := l) (by rw [← HN.out]; exact hx)
    obtain ⟨F, hF⟩ : ∃ z, z = (rcK src start l k).2 := ⟨_, rfl⟩
    obtain ⟨TR, hTR⟩ : ∃ z, z = (rcK src start l k).1 := ⟨_, rfl⟩
    have hn3 := HN3z.out hE2
    have hn4 := HN4z.out hE2
    rw [← hTR] at hn3 hn4
    rw [← hTR] at hown i11
    rw [← hF]
    obtain ⟨m, hm⟩ : ∃ z, z = TR.length := ⟨_, rfl⟩
    have HM := Lib.hid hm
    rw [← hm] at hown i11 hn3 hn4
    have y0 := i11.cell (j := 0) (v := .int .i64 src) rfl
    have y1 := i11.cell (j := 1) (v := .slice oa m oc) rfl
    have dd : ¬ ((k : Int) < (k : Int)) := by omega
    have HLT6 := HLT.out
    clear hE2 hF hTR hm hlt hk hx HN2z HN3z HN4z
    by_cases hbig : 256 < m
    ·obtain ⟨rfl, rfl⟩ := hn3 hbig
     have b9 : decide ((256 : Int) < (m : Int)) = true := by simp; omega
     clear hn3 hn4 hbig
     have i6 := HI6.out.carry hbel
     have f0 := i6.frozen 0
     have f1 := i6.frozen 1
     have g0 := i6.cell (j := 0) (v := .int .i64 0) rfl
     have g1 := i6.cell (j := 1) (v := .slice none 0 0) rfl
     have j6 := (i6.set 0 (.int .i64 0)).set 1 (.slice none 0 0)
     have hb := below_setC (below_setC (bthen HB.out hbel) w.heap.size 0 (Nat.le_refl _) (.int .i64 0)) w.heap.size 1 (Nat.le_refl _) (.slice none 0 0)
     have HZ0 := Lib.hid (j6.cell (j := 0) (v := .int .i64 0) rfl)
     have HZ1 := Lib.hid (j6.cell (j := 1) (v := .slice none 0 0) rfl)
     have HBB := Lib.hid hb
     clear j6 hb
     go_wp2
     have z0 := HZ0.out
     have z1 := HZ1.out
     exact bodyPost_ret (v := .tuple #[.agg #[.int .i64 0, .slice none 0 0], .int .i64 5]) (by simp [results, Tryz.f18, go_sem, z0, z1]) rfl ⟨⟨_, _, _, rfl, Rw.nil _ _ _ _ _⟩, HBB.out⟩
    ·obtain ⟨rfl, rfl⟩ := hn4 hbig
     have b9 : decide ((256 : Int) < (m : Int)) = false := by simp; omega
     clear hn3 hn4 hbig
     have hown2 := own_setCellV (j := 1) (x := .slice oa m oc) (own_setCellV (j := 0) (x := .int .i64 src) hown (by omega : w.heap.size < w4.heap.size + 1)) (by omega : w.heap.size < w4.heap.size + 1)
     have HPR := Lib.hid (Rw.of_own (l := TR) pV_len hown2 HM.out)
     clear hown2
     have i6 := HI6.out.carry hbel
     have f0 := i6.frozen 0
     have f1 := i6.frozen 1
     have g0 := i6.cell (j := 0) (v := .int .i64 0) rfl
     have g1 := i6.cell (j := 1) (v := .slice none 0 0) rfl
     have j6 := (i6.set 0 (.int .i64 src)).set 1 (.slice oa m oc)
     have hb := below_setC (below_setC (bthen HB.out hbel) w.heap.size 0 (Nat.le_refl _) (.int .i64 src)) w.heap.size 1 (Nat.le_refl _) (.slice oa m oc)
     have HZ0 := Lib.hid (j6.cell (j := 0) (v := .int .i64 src) rfl)
     have HZ1 := Lib.hid (j6.cell (j := 1) (v := .slice oa m oc) rfl)
     have HBB := Lib.hid hb
     clear j6 hb
     go_wp2
     have z0 := HZ0.out
     have z1 := HZ1.out
     exact bodyPost_ret (v := .tuple #[.agg #[.int .i64 src, .slice oa m oc], .int .i64 0]) (by simp [results, Tryz.f18, go_sem, z0, z1]) rfl ⟨⟨_, _, _, rfl, HPR.out⟩, HBB.out⟩
 ·obtain ⟨rfl, rfl⟩ := HN1.out h0
  have b0 : (E != 0) = true := by rw [bne_iff_ne]; exact h0
  have f0 := i6.frozen 0
  have f1 := i6.frozen 1
  have c0 := i6.cell (j := 0) (v := .int .i64 0) rfl
  have c1 := i6.cell (j := 1) (v := .slice none 0 0) rfl
  have j6 := (i6.set 0 (.int .i64 0)).set 1 (.slice none 0 0)
  have hb := below_setC (below_setC hB w.heap.size 0 (Nat.le_refl _) (.int .i64 0)) w.heap.size 1 (Nat.le_refl _) (.slice none 0 0)
  have z0 := j6.cell (j := 0) (v := .int .i64 0) rfl
  have z1 := j6.cell (j := 1) (v := .slice none 0 0) rfl
  have HZ0 := Lib.hid z0
  have HZ1 := Lib.hid z1
  have HBB := Lib.hid hb
  clear h0 j6 hb z0 z1
  go_wp2
  have z0 := HZ0.out
  have z1 := HZ1.out
  exact bodyPost_ret (v := .tuple #[.agg #[.int .i64 0, .slice none 0 0], .int .i64 E]) (by simp [results, Tryz.f18, go_sem, z0, z1]) rfl ⟨⟨_, _, _, rfl, Rw.nil _ _ _ _ _⟩, HBB.out⟩
end
section
set_option linter.unusedSimpArgs false
set_option linter.unusedVariables false
open Go.RowKit
def plnG (ms : List Mo) (os : List I3) (i : Nat) (k : Int) : Int := if k < 0 ∨ (os.length : Int) ≤ k then 10 else whenE (!perB (os[k.toNat]?.getD (0, 0, 0)) (ms[i]?.getD noM)) 14
def plnE2 (ms : List Mo) (os : List I3) (pl : List Int) : Int := eachE (plnG ms os) pl
def plnE (ms : List Mo) (os : List I3) (pl : List Int) : Int := if pl.length = ms.length then (if plnE2 ms os pl = 0 then whenE (!fitB ms os pl) 20 else plnE2 ms os pl) else 2
theorem Tryz.enterCkP1 (args : Array Value) (w : World) : Sem.run Tryz.prog (callFunc 147 args) w = .ok (.enter 147 args) w :=
 MuLone.run_callFunc_enter Tryz.func147 (by kernel_rfl) rfl args w
set_option maxRecDepth 100000 in
set_option maxHeartbeats 2000000 in
theorem checkPlan1_any (i : Nat) (k : Int) (vm vo : Value) (ms : List Mo) (os : List I3) (B C : Nat) (w : World) (hi : i < ms.length) (hml : ms.length ≤ 1000) (hol : os.length ≤ 1000) (hB : w.cell? ⟨B, 0, none⟩ = some vo) (hC : w.cell? ⟨C, 0, none⟩ = some vm) (hm : Rw 4 mV w vm ms) (ho : Rw 3 iV w vo os) :
 Calls Tryz.prog 147 #[.int .i64 i, .int .i64 k, .pointer (some ⟨B, 0, none⟩), .pointer (some ⟨C, 0, none⟩)] w fun r w' => r = .returned (.int .i64 (plnG ms os i k)) ∧ Below w.heap.size w w' := by
 obtain ⟨oa, oc, rfl, hoc⟩ := ho.slice
 by_cases hk : k < 0
 ·have he : plnG ms os i k = 10 := by unfold plnG; rw [if_pos (Or.inl hk)]
  have b0 : decide (k < 0) = true := decide_eq_true hk
  rw [he]
  clear he hk hm ho hoc
  go_enter Tryz.func147, Tryz.ntmps147
  go_wp2
  go_ret
  exact ⟨rfl, Below.refl _ _⟩
 ·have b0 : decide (k < 0) = false := decide_eq_false hk
  by_cases hk2 : (os.length : Int) ≤ k
  ·have he : plnG ms os i k = 10 := by unfold plnG; rw [if_pos (Or.inr hk2)]
   have b1 : decide ((os.length : Int) ≤ k) = true := decide_eq_true hk2
   rw [he]
   clear he hk hk2 hm ho hoc
   go_enter Tryz.func147, Tryz.ntmps147
   go_wp2
   go_ret
   exact ⟨rfl, Below.refl _ _⟩
  ·have b1 : decide ((os.length : Int) ≤ k) = false := decide_eq_false hk2
   obtain ⟨x, hx⟩ : ∃ x, os[k.toNat]? = some x := ⟨_, List.getElem?_eq_getElem (by omega)⟩
   obtain ⟨m, hmk⟩ : ∃ m, ms[i]? = some m := ⟨_, List.getElem?_eq_getElem hi⟩
   have he : plnG ms os i k = whenE (!perB x m) 14 := by unfold plnG; rw [if_neg (by omega), hx, hmk]; rfl
   rw [he]
   obtain ⟨ob, oo, ocap, hoe, hocs⟩ := ho.head (by omega)
   simp only [Value.slice.injEq] at hoe
   obtain ⟨rfl, -, rfl⟩ := hoe
   obtain ⟨mb, mo, mcap, rfl, hmcs⟩ := hm.head (by omega)
   obtain ⟨o0, o1, o2⟩ := rw3 (hocs _ x hx) (show iV x = [.int .i64 x.1, .int .i64 x.2.1, .int .i64 x.2.2] from rfl)
   obtain ⟨m0, m1, m2, m3⟩ := rw4 (hmcs i m hmk) (show mV m = [.string m.1, .int .i64 m.2.1, .int .i64 m.2.2.1, .int .i64 m.2.2.2] from rfl)
   obtain ⟨x0, x1, x2⟩ := x
   obtain ⟨s, y1, y2, y3⟩ := m
   dsimp only at o0 o1 o2 m0 m1 m2 m3
   have TP := Lib.hid (fun W => permits_any x0 x1 x2 s y1 y2 y3 W)
   obtain ⟨A, hA⟩ : ∃ A, A = perB (x0, x1, x2) (s, y1, y2, y3) := ⟨_, rfl⟩
   rw [← hA] at TP ⊢
   have TW := Lib.hid (fun W => when_any (!A) 14 W)
   obtain ⟨R, hR⟩ : ∃ z, z = whenE (!A) 14 := ⟨_, rfl⟩
   rw [← hR] at TW ⊢
   have hdi : (i : Int) < (ms.length : Int) := by omega
   have hdk : k < (os.length : Int) := by omega
   have hk0 : 0 ≤ k := by omega
   obtain ⟨NM, hNM⟩ : ∃ N, N = ms.length := ⟨_, rfl⟩
   obtain ⟨NO, hNO⟩ : ∃ N, N = os.length := ⟨_, rfl⟩
   rw [← hNM] at hC hdi
   rw [← hNO] at hB hdk b1
   have hW := Below.refl w.heap.size w
   clear he hk hk2 hx hmk hocs hmcs hA hR hm ho hi hNM hNO hml hol hoc
   go_enter Tryz.func147, Tryz.ntmps147
   go_upto_region 3 with fail
   refine wp_region_E 11 (by kernel_rfl) ?_
   obtain ⟨wz, hwz⟩ : ∃ v, v = w.drew := ⟨_, rfl⟩
   rw [← hwz]
   have hlz : Below w.heap.size w wz := by rw [hwz]; exact (Below.refl _ _).drew
   have hbz := bthen hW hlz
   have hB := cellb hB hlz
   have hC := cellb hC hlz
   have o0 := cellb o0 hlz
   have o1 := cellb o1 hlz
   have o2 := cellb o2 hlz
   have m0 := cellb m0 hlz
   have m1 := cellb m1 hlz
   have m2 := cellb m2 hlz
   have m3 := cellb m3 hlz
   clear hwz hlz
   refine zV 0 ⟨some 15, .load 89 (.tmp 2), 89, "plan.go:73", #[], none⟩ rfl ?_ (hv := fun w hE => by have hB := cellb hB hE; have hC := cellb hC hE; have o0 := cellb o0 hE; have o1 := cellb o1 hE; have o2 := cellb o2 hE; have m0 := cellb m0 hE; have m1 := cellb m1 hE; have m2 := cellb m2 hE; have m3 := cellb m3 hE; (try dsimp only); go_simp; try rfl)
   simp only [Act.put, zS]
   refine zV 1 ⟨some 16, .move (.tmp 1), 3, "plan.go:73", #[], none⟩ rfl ?_
   simp only [Act.put, zS]
   refine zV 2 ⟨some 17, .indexAddr 89 (.tmp 15) (.tmp 16), 0, "plan.go:73", #[⟨0, .data⟩, ⟨1, .data⟩], none⟩ rfl ?_
   simp only [Act.put, zS]
   refine zV 3 ⟨some 18, .load 165 (.tmp 17), 165, "plan.go:73", #[⟨2, .data⟩], none⟩ rfl ?_ (hv := fun w hE => by have hB := cellb hB hE; have hC := cellb hC hE; have o0 := cellb o0 hE; have o1 := cellb o1 hE; have o2 := cellb o2 hE; have m0 := cellb m0 hE; have m1 := cellb m1 hE; have m2 := cellb m2 hE; have m3 := cellb m3 hE; (try dsimp only); go_simp; try rfl)
   simp only [Act.put, zS]
   refine zV 4 ⟨some 19, .load 87 (.tmp 3), 87, "plan.go:73", #[], none⟩ rfl ?_ (hv := fun w hE => by have hB := cellb hB hE; have hC := cellb hC hE; have o0 := cellb o0 hE; have o1 := cellb o1 hE; have o2 := cellb o2 hE; have m0 := cellb m0 hE; have m1 := cellb m1 hE; have m2 := cellb m2 hE; have m3 := cellb m3 hE; (try dsimp only); go_simp; try rfl)
   simp only [Act.put, zS]
   refine zV 5 ⟨some 20, .move (.tmp 0), 3, "plan.go:73", #[], none⟩ rfl ?_
   simp only [Act.put, zS]
   refine zV 6 ⟨some 21, .indexAddr 87 (.tmp 19) (.tmp 20), 0, "plan.go:73", #[⟨4, .data⟩, ⟨5, .data⟩], none⟩ rfl ?_
   simp only [Act.put, zS]
   refine zV 7 ⟨some 22, .load 163 (.tmp 21), 163, "plan.go:73", #[⟨6, .data⟩], none⟩ rfl ?_ (hv := fun w hE => by have hB := cellb hB hE; have hC := cellb hC hE; have o0 := cellb o0 hE; have o1 := cellb o1 hE; have o2 := cellb o2 hE; have m0 := cellb m0 hE; have m1 := cellb m1 hE; have m2 := cellb m2 hE; have m3 := cellb m3 hE; (try dsimp only); go_simp; try rfl)
   simp only [Act.put, zS]
   refine zB 8 ⟨some 23, .call ⟨.value (.func 92), #[.tmp 18, .tmp 22], #[165, 163]⟩, 4, "plan.go:73", #[⟨3, .data⟩, ⟨7, .data⟩], none⟩ (fun w hE => TP.out w) rfl ?_
   simp only [Act.put, zS]
   refine zV 9 ⟨some 24, .unOp .not 4 (.tmp 23), 4, "plan.go:73", #[⟨8, .data⟩], none⟩ rfl ?_
   simp only [Act.put, zS]
   refine zB 10 ⟨some 25, .call ⟨.value (.func 47), #[.tmp 24, .const (.int .i64 14)], #[4, 27]⟩, 27, "plan.go:73", #[⟨9, .data⟩, ⟨8, .chain⟩], none⟩ (fun w hE => ofPure (TW.out w)) rfl ?_
   simp only [Act.put, zS]
   refine wpAnyE_one (i := 11) (o := ⟨some 6, .assign (.tmp 25), 27, "plan.go:73", #[⟨10, .data⟩, ⟨10, .chain⟩, ⟨0, .phase⟩, ⟨1, .phase⟩, ⟨2, .phase⟩, ⟨3, .phase⟩, ⟨4, .phase⟩, ⟨5, .phase⟩, ⟨6, .phase⟩, ⟨7, .phase⟩, ⟨8, .phase⟩, ⟨9, .phase⟩, ⟨10, .phase⟩], none⟩) (by kernel_rfl) rfl (fun wy1 hE K hK => ?_)
   have hB := cellb hB hE
   have hC := cellb hC hE
   have o0 := cellb o0 hE
   have o1 := cellb o1 hE
   have o2 := cellb o2 hE
   have m0 := cellb m0 hE
   have m1 := cellb m1 hE
   have m2 := cellb m2 hE
   have m3 := cellb m3 hE
   have hbz1 := bthen hbz hE
   go_simp
   refine hK _ _ (fun _ => Below.refl _ _) ?_
   clear hK K hE
   try simp only [Act.put, zS]
   refine wpAnyE_done (by kernel_rfl) (fun wy2 hE => ?_) _
   have hbz2 := bthen hbz1 hE
   have hB := cellb hB hE
   have hC := cellb hC hE
   have o0 := cellb o0 hE
   have o1 := cellb o1 hE
   have o2 := cellb o2 hE
   have m0 := cellb m0 hE
   have m1 := cellb m1 hE
   have m2 := cellb m2 hE
   have m3 := cellb m3 hE
   clear hE
   have hB := hbz2
   obtain ⟨W9, hW9⟩ : ∃ v, v = wy2 := ⟨_, rfl⟩
   rw [← hW9] at hB ⊢
   clear hW9
   go_wp2
   go_ret
   exact ⟨rfl, hB⟩
set_option maxRecDepth 100000 in
set_option maxHeartbeats 2000000 in
theorem checkPlan_any (vm vo vp : Value) (ms : List Mo) (os : List I3) (pl : List Int) (w : World) (hml : ms.length ≤ 1000) (hol : os.length ≤ 1000) (hpl : pl.length ≤ 1000000) (hm : Rw 4 mV w vm ms) (ho : Rw 3 iV w vo os) (hp : Ints w vp pl)
 (hor : ∀ o ∈ os, 0 ≤ o.2.1 ∧ o.2.1 ≤ 100) (hmr : ∀ m ∈ ms, 0 ≤ m.2.2.2 ∧ m.2.2.2 ≤ 100) :
 Calls Tryz.prog 100 #[vm, vo, vp] w fun r w' => r = .returned (.int .i64 (plnE ms os pl)) ∧ Below w.heap.size w w' := by
 have h1 : pl.length ≠ ms.length → plnE ms os pl = 2 := fun h => by unfold plnE; rw [if_neg h]
 have h2 : pl.length = ms.length → plnE2 ms os pl ≠ 0 → plnE ms os pl = plnE2 ms os pl := fun h h2 => by unfold plnE; rw [if_pos h, if_neg h2]
 have h3 : pl.length = ms.length → plnE2 ms os pl = 0 → plnE ms os pl = whenE (!fitB ms os pl) 20 := fun h h2 => by unfold plnE; rw [if_pos h, if_pos h2]
 have hop : plnE2 ms os pl = 0 → ∀ k ∈ pl, 0 ≤ k ∧ k < os.length := fun h k hk => by
  obtain ⟨j, hj⟩ := List.getElem?_of_mem hk
  have := eachE_zero h j k hj
  unfold plnG at this
  split at this
  ·cases this
  ·omega
 have TE := Lib.hid (fun (hlen : pl.length = ms.length) (B C : Nat) (W : World) (hB : W.cell? ⟨B, 0, none⟩ = some vo) (hC : W.cell? ⟨C, 0, none⟩ = some vm) (hm : Rw 4 mV W vm ms) (ho : Rw 3 iV W vo os) (hp : Ints W vp pl) =>
  eachI_any 147 #[.pointer (some ⟨B, 0, none⟩), .pointer (some ⟨C, 0, none⟩)] Tryz.enterCkP1 (plnG ms os) (fun _ _ => True) W.heap.size vp pl W (by omega) (Nat.le_refl _) (fun w1 h1 => hp.carry h1) trivial (fun _ _ _ _ _ => trivial) (fun k x hx w1 h1 _ => (checkPlan1_any k x vm vo ms os B C w1 (by have := (List.getElem?_eq_some_iff.1 hx).1; omega) hml hol (cellb hB h1) (cellb hC h1) (hm.carry h1) (ho.carry h1)).mono fun r w2 ⟨hr, hb⟩ => ⟨hr, hb.mono h1.size, fun _ => trivial⟩))
 have TX := Lib.hid (fun (hlen : pl.length = ms.length) (hz : plnE2 ms os pl = 0) (W : World) (hm : Rw 4 mV W vm ms) (ho : Rw 3 iV W vo os) (hp : Ints W vp pl) => fits_any vm vo vp ms os pl W hm ho hp hml hol (by omega) (hop hz) hor hmr)
 have hE2 : plnE2 ms os pl = eachE (plnG ms os) pl := rfl
 rw [← hE2] at TE
 obtain ⟨A, hA⟩ : ∃ z, z = fitB ms os pl := ⟨_, rfl⟩
 rw [← hA] at TX h3
 have TW := Lib.hid (fun W => when_any (!A) 20 W)
 obtain ⟨R, hR⟩ : ∃ z, z = whenE (!A) 20 := ⟨_, rfl⟩
 rw [← hR] at TW h3
 obtain ⟨E2, hE2'⟩ : ∃ z, z = plnE2 ms os pl := ⟨_, rfl⟩
 obtain ⟨E, hE⟩ : ∃ z, z = plnE ms os pl := ⟨_, rfl⟩
 rw [← hE2'] at TE TX h2 h3
 rw [← hE] at h1 h2 h3 ⊢
 obtain ⟨ma, mc, rfl, hmc⟩ := hm.slice
 obtain ⟨oa, oc, rfl, hoc⟩ := ho.slice
 obtain ⟨pa, pc, hpe, -⟩ := id hp
 subst hpe
 obtain ⟨NM, hNM⟩ : ∃ N, N = ms.length := ⟨_, rfl⟩
 obtain ⟨NO, hNO⟩ : ∃ N, N = os.length := ⟨_, rfl⟩
 obtain ⟨NP, hNP⟩ : ∃ N, N = pl.length := ⟨_, rfl⟩
 rw [← hNM] at TE TX hm h1 h2 h3 ⊢
 rw [← hNO] at TE TX ho ⊢
 rw [← hNP] at TE TX hp h1 h2 h3 ⊢
 have H1 := Lib.hid h1
 have H2 := Lib.hid h2
 have H3 := Lib.hid h3
 clear h1 h2 h3 hop hE2 hA hR hE2' hE hNM hNO hNP hmc hoc hor hmr hml hol hpl
 by_cases hlen : NP = NM
 ·have b0 : ((NP : Int) != (NM : Int)) = false := by rw [bne_eq_false_iff_eq]; omega
  have TE2 := Lib.hid (TE.out hlen)
  have TX2 := Lib.hid (TX.out hlen)
  have H2z := Lib.hid (H2.out hlen)
  have H3z := Lib.hid (H3.out hlen)
  clear TE TX H1 H2 H3 hlen
  go_enter Tryz.func100, Tryz.ntmps100
  go_upto_region 1 with fail
  obtain ⟨W1, hW1⟩ : ∃ v, v = World.alloc w (Obj.cells #[.slice ma NM mc] 87) := ⟨_, rfl⟩
  have kW1 : Below w.heap.size w W1 := by rw [hW1]; exact below_new _ _
  have iW1 : Blk W1 (w.heap.size) 87 [.slice ma NM mc] := by rw [hW1]; exact Blk.new _ _ _
  have sW1 : W1.heap.size = w.heap.size + 1 := by rw [hW1]; simp
  rw [← hW1]
  clear hW1
  obtain ⟨W2, hW2⟩ : ∃ v, v = World.alloc W1 (Obj.cells #[.slice oa NO oc] 89) := ⟨_, rfl⟩
  have kW2 : Below W1.heap.size W1 W2 := by rw [hW2]; exact below_new _ _
  have iW2 : Blk W2 (w.heap.size + 1) 89 [.slice oa NO oc] := by rw [hW2, ← sW1]; exact Blk.new _ _ _
  have sW2 : W2.heap.size = w.heap.size + 1 + 1 := by rw [hW2]; simp [sW1]
  rw [← hW2]
  clear hW2
  have hB := bthen kW1 kW2
  have c0 := (iW1.carry kW2).cell (j := 0) (v := .slice ma NM mc) rfl
  have c1 := iW2.cell (j := 0) (v := .slice oa NO oc) rfl
  replace hm := hm.carry hB
  replace ho := ho.carry hB
  replace hp := hp.carry hB
  clear iW1 iW2 sW1 sW2 kW1 kW2
  go_wp2_with fail
  refine (TE2.out _ _ W2 c1 c0 hm ho hp).mono ?_
  rintro e w3 ⟨rfl, hb3⟩
  have c0 := cellb c0 hb3
  have c1 := cellb c1 hb3
  replace hm := hm.carry hb3
  replace ho := ho.carry hb3
  replace hp := hp.carry hb3
  replace hB := bthen hB hb3
  clear hb3 TE2
  by_cases h0 : E2 = 0
  ·subst h0
   obtain rfl := H3z.out (by trivial)
   have TX3 := Lib.hid (TX2.out (by trivial) w3 hm ho hp)
   clear TX2 H2z H3z
   go_wp2_with fail
   refine TX3.out.mono ?_
   rintro e w4 ⟨rfl, hb4⟩
   go_wp2_with fail
   refine (TW.out w4).mono ?_
   rintro e w5 ⟨rfl, rfl⟩
   go_wp2
   go_ret
   exact ⟨rfl, bthen hB hb4⟩
  ·obtain rfl := H2z.out h0
   have b1 : (E != 0) = true := by rw [bne_iff_ne]; exact h0
   clear h0 TX2 H2z H3z
   go_wp2
   go_ret
   exact ⟨rfl, hB⟩
 ·have b0 : ((NP : Int) != (NM : Int)) = true := by rw [bne_iff_ne]; omega
  obtain rfl := H1.out hlen
  clear hlen TE TX H1 H2 H3
  go_enter Tryz.func100, Tryz.ntmps100
  go_upto_region 1 with fail
  obtain ⟨W1, hW1⟩ : ∃ v, v = World.alloc w (Obj.cells #[.slice ma NM mc] 87) := ⟨_, rfl⟩
  have kW1 : Below w.heap.size w W1 := by rw [hW1]; exact below_new _ _
  have iW1 : Blk W1 (w.heap.size) 87 [.slice ma NM mc] := by rw [hW1]; exact Blk.new _ _ _
  have sW1 : W1.heap.size = w.heap.size + 1 := by rw [hW1]; simp
  rw [← hW1]
  clear hW1
  obtain ⟨W2, hW2⟩ : ∃ v, v = World.alloc W1 (Obj.cells #[.slice oa NO oc] 89) := ⟨_, rfl⟩
  have kW2 : Below W1.heap.size W1 W2 := by rw [hW2]; exact below_new _ _
  have iW2 : Blk W2 (w.heap.size + 1) 89 [.slice oa NO oc] := by rw [hW2, ← sW1]; exact Blk.new _ _ _
  have sW2 : W2.heap.size = w.heap.size + 1 + 1 := by rw [hW2]; simp [sW1]
  rw [← hW2]
  clear hW2
  have hB := bthen kW1 kW2
  have c0 := (iW1.carry kW2).cell (j := 0) (v := .slice ma NM mc) rfl
  clear iW1 iW2 sW1 sW2 kW1 kW2
  go_wp2
  go_ret
  exact ⟨rfl, hB⟩
end
end Go.Proofs.YtpmngcffkhbofaaGreatDoor

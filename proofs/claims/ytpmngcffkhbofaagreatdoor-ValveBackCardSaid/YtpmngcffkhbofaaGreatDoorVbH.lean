/- Package phasor: integers, line, Print. -/
import Derived.Test.YtpmngcffkhbofaaGreatDoorVbE
namespace Go.Proofs.YtpmngcffkhbofaaGreatDoor
section
set_option linter.unusedSimpArgs false
set_option linter.unusedVariables false
open Go.RowKit
theorem six_get (a b c d e f : Value) (j : Nat) : [a, b, c, d, e, f][2 + j]? = [c, d, e, f][j]? := by
 rw [show [a, b, c, d, e, f] = [a, b] ++ [c, d, e, f] from rfl, List.getElem?_append_right (by simp)]
 simp
set_option maxRecDepth 100000 in
set_option maxHeartbeats 2000000 in
theorem integers_any (a b c d e f : Int) (w : World) :
 Calls Tryz.prog 165 #[.agg #[.int .i64 a, .int .i64 b, .int .i64 c, .int .i64 d, .int .i64 e, .int .i64 f]] w fun r w' => (∃ u, r = .returned u ∧ Ints w' u [a, b, c, d, e, f]) ∧ Below w.heap.size w w' := by
 obtain ⟨i0, hi, hz0, hz1, hz2⟩ := info_parts Tryz.infZint
 go_enter Tryz.func165, Tryz.ntmps165
 go_upto_region 1 with fail
 obtain ⟨W1, hW1⟩ : ∃ v, v = World.alloc w (Obj.cells #[.int .i64 a, .int .i64 b, .int .i64 c, .int .i64 d, .int .i64 e, .int .i64 f] 53) := ⟨_, rfl⟩
 have kW1 : Below w.heap.size w W1 := by rw [hW1]; exact below_new _ _
 have iW1 : Blk W1 (w.heap.size) 53 [.int .i64 a, .int .i64 b, .int .i64 c, .int .i64 d, .int .i64 e, .int .i64 f] := by rw [hW1]; exact Blk.new _ _ _
 have sW1 : W1.heap.size = w.heap.size + 1 := by rw [hW1]; simp
 rw [← hW1]
 clear hW1
 have i1 := iW1
 have hB := kW1
 have a0 := i1.cell (j := 0) (v := .int .i64 a) rfl
 have a1 := i1.cell (j := 1) (v := .int .i64 b) rfl
 clear iW1 kW1 sW1
 refine wp_region_held_drew (S := (fun W => W.cell? ⟨w.heap.size, 0, none⟩ = some (.int .i64 a) ∧ W.cell? ⟨w.heap.size, 1, none⟩ = some (.int .i64 b))) (by kernel_rfl) ⟨i1.cell rfl, i1.cell rfl⟩ (fun hHeld0 => ?_)
 obtain ⟨wzd, hwz⟩ : ∃ v, v = W1.drew := ⟨_, rfl⟩
 rw [← hwz] at hHeld0 ⊢
 have hbzd : Below w.heap.size w wzd := by rw [hwz]; exact hB.drew
 have hlzd : Below W1.heap.size W1 wzd := by rw [hwz]; exact (Below.refl _ _).drew
 have i1 := i1.carry hlzd
 clear hwz hlzd
 refine zH 0 ⟨some 3, .fieldAddr 53 (.tmp 1) 0, 0, "telegram.go:238", #[], none⟩ rfl ?_
 simp only [Act.put, zS]
 refine zH 1 ⟨some 4, .load 3 (.tmp 3), 3, "telegram.go:238", #[⟨0, .data⟩], none⟩ rfl ?_
 simp only [Act.put, zS]
 refine zH 2 ⟨some 5, .fieldAddr 53 (.tmp 1) 1, 0, "telegram.go:238", #[], none⟩ rfl ?_
 simp only [Act.put, zS]
 refine zH 3 ⟨some 6, .load 3 (.tmp 5), 3, "telegram.go:238", #[⟨2, .data⟩], none⟩ rfl ?_
 simp only [Act.put, zS]
 refine zH 5 ⟨some 8, .fieldAddr 53 (.tmp 1) 2, 0, "telegram.go:238", #[], none⟩ rfl ?_
 simp only [Act.put, zS]
 refine zH 6 ⟨some 9, .slice 51 (.tmp 8) none none none, 63, "telegram.go:238", #[⟨5, .data⟩], none⟩ rfl ?_
 simp only [Act.put, zS]
 refine wpAnyH_ready (rs := [4]) (by kernel_rfl) (by simp) ?_
 refine (AllReadyH.cons (o := ⟨some 7, .buildSlice 63 2 #[(0, .tmp 4), (1, .tmp 6)], 63, "telegram.go:238", #[⟨1, .data⟩, ⟨3, .data⟩], none⟩) rfl (fun K hK => ?_) AllReadyH.nil)
 go_simp
 obtain ⟨wz4, hwz⟩ : ∃ v, v = wzd.alloc (Obj.cells #[.int .i64 a, .int .i64 b] 3) := ⟨_, rfl⟩
 rw [← hwz]
 have hl : Below wzd.heap.size wzd wz4 := by rw [hwz]; exact below_new _ _
 have hbz4 := bthen hbzd hl
 have iN : Blk wz4 wzd.heap.size 3 [.int .i64 a, .int .i64 b] := by rw [hwz]; exact Blk.new _ _ _
 have hGle : w.heap.size + 1 ≤ wzd.heap.size := i1.lt
 generalize wzd.heap.size = G at iN hGle ⊢
 clear hwz
 have i1 := i1.carry hl
 clear hl
 refine hK.out _ _ ⟨i1.cell rfl, i1.cell rfl⟩ (fun hHeld1 => ?_)
 clear hK K hHeld0
 try simp only [Act.put, zS]
 refine wpAnyH_ready (rs := [7]) (by kernel_rfl) (by simp) ?_
 refine (AllReadyH.cons (o := ⟨some 10, .call ⟨.builtin .append, #[.tmp 7, .tmp 9], #[63, 63]⟩, 63, "telegram.go:238", #[⟨4, .data⟩, ⟨6, .data⟩], none⟩) rfl (fun K hK => ?_) AllReadyH.nil)
 have hsz : w.heap.size + 1 ≤ wz4.heap.size := i1.lt
 have hown : OwnS wz4 (w.heap.size + 1) 3 1 (.slice (some ⟨G, 0, none⟩) 2 2) 2 [.int .i64 a, .int .i64 b] := ⟨⟨rfl, .inr ⟨G, 2, _, rfl, hGle, iN, Nat.le_refl _, by decide, rfl, rfl⟩⟩⟩
 refine wp_append_own wz4 (.tmp 7) (.tmp 9) 63 rfl (w.heap.size + 1) 3 i0 (.int .i64 0) 1 8 Tryz.undZint hi hz0 hz1 hz2 rfl (by decide) (.slice (some ⟨G, 0, none⟩) 2 2) 2 _ rfl hown.o ⟨w.heap.size, 2, none⟩ 4 4 [.int .i64 c, .int .i64 d, .int .i64 e, .int .i64 f] rfl rfl (fun j u hj => by rw [addr_add]; exact i1.cell (j := 2 + j) (by rw [← hj]; exact six_get _ _ _ _ _ _ j)) (by simp [Value.oneCell']) (by unfold maxLen; omega) (by omega) hsz ?_
 intro v9 wz7 hown9 hgrow9 _
 have hbz7 := (hbz4).grown hgrow9 (by omega) (fun k' hk' => by have := (World.ownsRow.lt hown.o k' hk').1; omega)
 have i1 := Blk.keptV i1 hown.o (by omega) hgrow9
 refine hK.out _ _ ⟨i1.cell rfl, i1.cell rfl⟩ (fun hHeld2 => ?_)
 clear hK K hHeld1
 try simp only [Act.put, zS]
 refine zH 8 ⟨some 2, .assign (.tmp 10), 63, "telegram.go:238", #[⟨7, .data⟩, ⟨7, .chain⟩, ⟨0, .phase⟩, ⟨1, .phase⟩, ⟨2, .phase⟩, ⟨3, .phase⟩, ⟨4, .phase⟩, ⟨5, .phase⟩, ⟨6, .phase⟩, ⟨7, .phase⟩], none⟩ rfl ?_
 simp only [Act.put, zS]
 refine wpAnyH_done (by kernel_rfl) ?_ _
 clear hHeld2
 have hB9 := hbz7
 obtain ⟨W4, hW4⟩ : ∃ v, v = wz7 := ⟨_, rfl⟩
 rw [← hW4] at hB9 hown9 ⊢
 clear hW4
 have hI : Ints W4 v9 [a, b, c, d, e, f] := Ints.of_own (n := 6) (l := [a, b, c, d, e, f]) hown9 rfl
 go_wp2
 go_ret
 exact ⟨⟨_, rfl, hI⟩, hB9⟩
def teleS : ByteArray := ⟨#[116, 101, 108, 101, 103, 114, 97, 109]⟩
set_option maxRecDepth 100000 in
set_option maxHeartbeats 2000000 in
theorem tline_any (x0 x1 x2 x3 x4 x5 : Int) (s : ByteArray) (hse : s = teleS) (l : List Int) (hle : l = [x0, x1, x2, x3, x4, x5]) (w : World) (hs : s.size ≤ 1000) (h0 : 0 < l.length) (hl : l.length ≤ 100) (hr : ∀ x ∈ l, -9223372036854775808 ≤ x ∧ x ≤ 9223372036854775807) (hp : Pows w) :
 Calls Tryz.prog 122 #[.agg #[.int .i64 x0, .int .i64 x1, .int .i64 x2, .int .i64 x3, .int .i64 x4, .int .i64 x5]] w fun e w' => e = .returned (.string (lineW s l)) ∧ Below w.heap.size w w' := by
 obtain ⟨i0, hi, hz0, hz1, hz2⟩ := info_parts Tryz.infZstring
 have TI := Lib.hid (fun W => integers_any x0 x1 x2 x3 x4 x5 W)
 rw [← hle] at TI
 have TM := Lib.hid (fun (v : Value) (W : World) (hv : Ints W v l) (hp : Pows W) => mapISp_any 110 #[] Tryz.enterItoa word v l W (by omega) hv.rw1 (fun x hx w1 hb => Itoa_any x (hr x hx).1 (hr x hx).2 w1 (hp.carry hb)))
 have hjl := lineJ_len s l hr
 have hq : ¬ (9223372036854775807 < (lineJ s l).size + 1) := by
  have : (lineJ s l).size = (Lib.join ((s :: l.map word).map (·.data.toList)) (⟨#[32]⟩ : ByteArray).data.toList).length := by
   show (Lib.join _ _).toArray.size = _
   simp
  omega
 have TJ := Lib.hid (fun (bk o c : Nat) (W : World) (hc : ∀ (j : Nat) x, (s :: l.map word)[j]? = some x → W.cell? ⟨bk, o + j, none⟩ = some (.string x)) (hbk : bk < W.heap.size) (hcap : (s :: l.map word).length ≤ c) => Tryz.strings_Join bk o c (s :: l.map word) ⟨#[32]⟩ W hc hbk (by simp; omega) hcap (by omega))
 rw [lineW]
 obtain ⟨J, hJ⟩ : ∃ J, J = lineJ s l := ⟨_, rfl⟩
 rw [← hJ] at hq ⊢
 have hJ2 : (⟨(Lib.join ((s :: l.map word).map (·.data.toList)) (⟨#[32]⟩ : ByteArray).data.toList).toArray⟩ : ByteArray) = J := by rw [hJ]; rfl
 rw [hJ2] at TJ
 have hlen : (s :: l.map word).length = 1 + l.length := by simp; omega
 rw [hlen] at TJ
 obtain ⟨N, hN⟩ : ∃ N, N = l.length := ⟨_, rfl⟩
 rw [← hN] at TJ hl h0
 have HN := Lib.hid hN
 have HLEN := Lib.hid hlen
 have HSE := Lib.hid hse
 clear hJ hJ2 hjl hr hN hlen hle hse
 go_enter Tryz.func122, Tryz.ntmps122
 go_upto_region 1 with fail
 obtain ⟨W1, hW1⟩ : ∃ v, v = World.alloc w (Obj.cells #[.int .i64 x0, .int .i64 x1, .int .i64 x2, .int .i64 x3, .int .i64 x4, .int .i64 x5] 53) := ⟨_, rfl⟩
 have kW1 : Below w.heap.size w W1 := by rw [hW1]; exact below_new _ _
 have iW1 : Blk W1 (w.heap.size) 53 [.int .i64 x0, .int .i64 x1, .int .i64 x2, .int .i64 x3, .int .i64 x4, .int .i64 x5] := by rw [hW1]; exact Blk.new _ _ _
 have sW1 : W1.heap.size = w.heap.size + 1 := by rw [hW1]; simp
 rw [← hW1]
 clear hW1
 have kS := below_new W1 (.cells #[.string ⟨#[116, 101, 108, 101, 103, 114, 97, 109]⟩] 9)
 have c0 := cellb (iW1.cell (j := 0) (v := .int .i64 x0) rfl) kS
 have c1 := cellb (iW1.cell (j := 1) (v := .int .i64 x1) rfl) kS
 have c2 := cellb (iW1.cell (j := 2) (v := .int .i64 x2) rfl) kS
 have c3 := cellb (iW1.cell (j := 3) (v := .int .i64 x3) rfl) kS
 have c4 := cellb (iW1.cell (j := 4) (v := .int .i64 x4) rfl) kS
 have c5 := cellb (iW1.cell (j := 5) (v := .int .i64 x5) rfl) kS
 have iS : Blk (W1.alloc (.cells #[.string ⟨#[116, 101, 108, 101, 103, 114, 97, 109]⟩] 9)) W1.heap.size 9 [.string ⟨#[116, 101, 108, 101, 103, 114, 97, 109]⟩] := Blk.new W1 _ _
 have hbS := bthen kW1 kS
 have HSV := Lib.hid (show (⟨#[116, 101, 108, 101, 103, 114, 97, 109]⟩ : ByteArray) = s by rw [HSE.out]; rfl)
 have HW1 := Lib.hid kW1.size
 have hp := (hp.carry kW1).carry kS
 clear iW1 sW1 kS kW1
 go_wp2_with fail
 refine (TI.out _).mono ?_
 rintro e w3 ⟨⟨u3, rfl, hu3⟩, hb3⟩
 have iS := iS.carry hb3
 have hB := bthen hbS hb3
 have hp := hp.carry hb3
 clear c0 c1 c2 c3 c4 c5 hbS hb3 TI
 go_wp2_with fail
 refine (TM.out u3 w3 hu3 hp).mono ?_
 rintro e w2 ⟨⟨u, rfl, hu⟩, hb2⟩
 obtain ⟨G, cap, sp, rfl, hG, hcap, hcm, hblk⟩ := OwR.blk sV_len hu (by rw [List.length_map, ← HN.out]; exact h0)
 rw [List.length_map, ← HN.out] at hcap ⊢
 have iS2 := iS.carry hb2
 have hB2 := bthen hB hb2
 have hown : OwnS w2 w.heap.size 9 1 (.slice (some ⟨W1.heap.size, 0, none⟩) 1 1) 1 [.string s] := by
  rw [← HSV.out]
  exact ⟨⟨rfl, .inr ⟨W1.heap.size, 1, _, rfl, HW1.out, iS2, Nat.le_refl _, by decide, rfl, rfl⟩⟩⟩
 have hsz := hB2.size
 have HNEWS := Lib.hid (fun (j : Nat) (y : Value) (hj : ((l.map word).flatMap sV)[j]? = some y) => (show w2.cell? ((⟨G, 0, none⟩ : Addr).add j) = some y by
  rw [addr_add, Nat.zero_add]
  exact hblk.cell (by rw [List.getElem?_append_left (List.getElem?_eq_some_iff.1 hj).1]; exact hj)))
 have HFL := Lib.hid (show ((l.map word).flatMap sV).length = N * 1 by rw [flat_len sV_len, List.length_map, HN.out])
 have HONE := Lib.hid (sV_one (l.map word))
 clear hblk hu iS iS2 hb2 TM hcm hB
 go_wp2_with (at_builtin; refine wpList_append_own _ rfl _ _ 44 rfl w.heap.size 9 i0 (.string ⟨#[]⟩) 1 16 Tryz.undZstring hi hz0 hz1 hz2 rfl (by decide) (.slice (some ⟨W1.heap.size, 0, none⟩) 1 1) 1 [.string s] rfl hown.o ⟨G, 0, none⟩ N cap ((l.map word).flatMap sV) rfl HFL.out HNEWS.out HONE.out (by unfold maxLen; omega) (by omega) hsz ?_; intro v9 w3 hown9 hgrow9 _)
 have hB3 := hB2.trans (below_grow hown.o hsz hgrow9)
 have hown10 : OwR w3 w.heap.size 9 1 sV v9 (s :: l.map word) := by
  unfold OwR
  rw [HLEN.out, ← HN.out]
  exact hown9
 obtain ⟨g, c9, sp9, rfl, hg9, hcap9, hcm9, hblk9⟩ := OwR.blk sV_len hown10 (by rw [HLEN.out]; omega)
 have TJ2 := Lib.hid (TJ.out g 0 c9 w3 (fun j x hj => by
  have h1 := flat_get sV_len _ j x hj 0 _ rfl
  rw [Nat.zero_add]
  have := hblk9.cell (j := j) (v := .string x) (by rw [List.getElem?_append_left (by have := (List.getElem?_eq_some_iff.1 h1).1; omega)]; rw [Nat.mul_one, Nat.add_zero] at h1; exact h1)
  exact this) hblk9.lt (by rw [HLEN.out, ← HN.out] at hcap9; exact hcap9))
 rw [HLEN.out, ← HN.out]
 clear hown9 hown10 hgrow9 hblk9 hcap9 hcm9 hown hB2 hsz TJ
 go_wp2_with fail
 refine TJ2.out.mono ?_
 rintro e w4 ⟨rfl, hb4⟩
 go_wp2
 go_ret
 exact ⟨rfl, bthen hB3 hb4⟩
end
section
set_option linter.unusedSimpArgs false
set_option linter.unusedVariables false
open Go.RowKit
def tg6 (t : Tg) : List Int := [t.1, t.2.1, t.2.2.1, t.2.2.2.1, t.2.2.2.2.1, t.2.2.2.2.2]
def tlnB (t : Tg) : ByteArray := lineW teleS (tg6 t)
theorem tgE_ok {t : Tg} (h : tgE t = 0) : (0 ≤ t.1 ∧ t.1 ≤ 255) ∧ (0 ≤ t.2.1 ∧ t.2.1 ≤ 65535) ∧ ∀ x ∈ tgL t, -32768 ≤ x ∧ x ≤ 32767 := by
 unfold tgE at h
 by_cases h0 : tgA t = 0
 ·rw [if_pos h0] at h
  unfold tgA at h0
  rw [firstE_cons0, firstE_cons0, withinE_zero, withinE_zero] at h0
  refine ⟨h0.1, h0.2.1, fun x hx => ?_⟩
  have := firstE_zero h _ (List.mem_map.2 ⟨x, hx, rfl⟩)
  rwa [withinE_zero] at this
 ·rw [if_neg h0] at h
  exact absurd h h0
theorem ctE_ok {l : List Tg} (h : ctE l = 0) : l.length ≤ 1024 ∧ ∀ t ∈ l, tgE t = 0 := by
 unfold ctE at h
 split at h
 ·cases h
 ·exact ⟨by omega, fun t ht => firstE_zero h _ (List.mem_map.2 ⟨t, ht, rfl⟩)⟩
theorem tg6_rng {t : Tg} (h : tgE t = 0) : ∀ x ∈ tg6 t, -9223372036854775808 ≤ x ∧ x ≤ 9223372036854775807 := by
 obtain ⟨h0, h1, h2⟩ := tgE_ok h
 intro x hx
 unfold tg6 at hx
 rw [show [t.1, t.2.1, t.2.2.1, t.2.2.2.1, t.2.2.2.2.1, t.2.2.2.2.2] = t.1 :: t.2.1 :: tgL t from rfl] at hx
 rcases List.mem_cons.1 hx with rfl | hx
 ·omega
 ·rcases List.mem_cons.1 hx with rfl | hx
  ·omega
  ·have := h2 x hx; omega
theorem tlnB_size {t : Tg} (h : tgE t = 0) : (tlnB t).data.toList.length ≤ 200 := by
 have := lineW_size teleS (tg6 t) (tg6_rng h)
 have e : teleS.size = 8 := rfl
 have e2 : (tg6 t).length = 6 := rfl
 unfold tlnB
 rw [data_len]
 omega
theorem join_nosep (xs : List (List UInt8)) : (Lib.join xs []).length = Lib.lens xs := by
 cases xs with
 | nil => rfl
 | cons x xs => rw [Lib.join_length]; simp
theorem tele_len (l : List Tg) (h : ∀ t ∈ l, tgE t = 0) : (Lib.join ((l.map tlnB).map (·.data.toList)) (⟨#[]⟩ : ByteArray).data.toList).length ≤ 200 * l.length := by
 show (Lib.join _ []).length ≤ _
 rw [join_nosep]
 induction l with
 | nil => simp [Lib.lens]
 | cons t l ih =>
   have h1 := tlnB_size (h t (by simp))
   have h2 := ih (fun y hy => h y (by simp [hy]))
   simp only [Lib.lens, List.map_cons, List.sum_cons, List.length_cons] at h2 ⊢
   omega
set_option maxRecDepth 100000 in
set_option maxHeartbeats 2000000 in
theorem PrintT_any (v : Value) (l : List Tg) (w : World) (hl : l.length ≤ 1000000) (hv : Rw 6 tV w v l) (hp : Pows w) :
 Calls Tryz.prog 58 #[v] w fun r w' => (∃ s, r = .returned (.tuple #[.string s, .int .i64 (ctE l)])) ∧ Below w.heap.size w w' := by
 have TC := Lib.hid (checkTelegrams_any v l w hl hv)
 have TM := Lib.hid (fun (h0 : ctE l = 0) (W : World) (hv : Rw 6 tV W v l) (hp : Pows W) => mapTSp_any 122 #[] Tryz.enterTln tlnB v l W hl hv (fun x hx w1 hb => by
  have hx0 := (ctE_ok h0).2 x hx
  exact tline_any x.1 x.2.1 x.2.2.1 x.2.2.2.1 x.2.2.2.2.1 x.2.2.2.2.2 teleS rfl (tg6 x) rfl w1 (by decide) (by simp [tg6]) (by simp [tg6]) (tg6_rng hx0) (hp.carry hb)))
 have TL := Lib.hid (fun (h0 : ctE l = 0) => (show _ ∧ _ from ⟨(ctE_ok h0).1, tele_len l (ctE_ok h0).2⟩))
 obtain ⟨E, hE⟩ : ∃ e, e = ctE l := ⟨_, rfl⟩
 rw [← hE] at TC TM TL ⊢
 obtain ⟨a, cp, rfl, hcp⟩ := hv.slice
 obtain ⟨N, hN⟩ : ∃ N, N = l.length := ⟨_, rfl⟩
 rw [← hN] at TC TM TL hl hv ⊢
 have HN := Lib.hid hN
 clear hE hN hcp
 go_enter Tryz.func58, Tryz.ntmps58
 go_wp2_with fail
 refine TC.out.mono ?_
 rintro e w2 ⟨rfl, hb2⟩
 have hv2 := hv.carry hb2
 have hp2 := hp.carry hb2
 clear TC hv hp
 by_cases h0 : E = 0
 ·subst h0
  obtain ⟨hl2, hjl⟩ := TL.out (by trivial)
  have TM2 := Lib.hid (TM.out (by trivial) w2 hv2 hp2)
  have HJL := Lib.hid hjl
  clear TM TL hjl hv2 hp2
  go_wp2_with fail
  refine TM2.out.mono ?_
  rintro e w3 ⟨⟨u, rfl, hu⟩, hb3⟩
  have hB := bthen hb2 hb3
  clear TM2 hb2 hb3
  rcases Nat.eq_zero_or_pos N with hz | hz
  ·obtain ⟨sa, sc, rfl⟩ := own_slice hu
   rw [List.length_map, ← HN.out] at hu ⊢
   have hz2 := hz
   subst hz2
   have TJ := Lib.hid (Tryz.strings_Join_none sa sc ⟨#[]⟩ w3)
   clear hu
   go_wp2_with fail
   refine TJ.out.mono ?_
   rintro e w4 ⟨rfl, rfl⟩
   go_wp2
   go_ret2
   exact ⟨⟨_, rfl⟩, hB⟩
  ·obtain ⟨G, cap, sp, rfl, hG, hcap, hcm, hblk⟩ := OwR.blk sV_len hu (by rw [List.length_map, ← HN.out]; exact hz)
   have TJ := Lib.hid (Tryz.strings_Join G 0 cap (l.map tlnB) ⟨#[]⟩ w3 (fun j x hj => by
    have h1 := flat_get sV_len _ j x hj 0 _ rfl
    rw [Nat.zero_add]
    have := hblk.cell (j := j) (v := .string x) (by rw [List.getElem?_append_left (by have := (List.getElem?_eq_some_iff.1 h1).1; omega)]; rw [Nat.mul_one, Nat.add_zero] at h1; exact h1)
    exact this) hblk.lt (by rw [List.length_map]; have := HN.out; omega) hcap (Nat.le_trans HJL.out (by have := HN.out; omega)))
   rw [List.length_map, ← HN.out] at TJ ⊢
   clear hblk hu hcap hcm hG
   go_wp2_with fail
   refine TJ.out.mono ?_
   rintro e w4 ⟨rfl, hb4⟩
   go_wp2
   go_ret2
   exact ⟨⟨_, rfl⟩, bthen hB hb4⟩
 ·have b0 : (E != 0) = true := by rw [bne_iff_ne]; exact h0
  clear h0 TM TL hv2 hp2
  go_wp2
  go_ret2
  exact ⟨⟨_, rfl⟩, hb2⟩
end
section
set_option linter.unusedSimpArgs false
set_option linter.unusedVariables false
open Go.RowKit
/-- arrays of integers are compared. -/
theorem eqItemsI (l m : List Int) (w : World) : ∀ is : List Nat, (∀ i ∈ is, i < l.length ∧ i < m.length) →
 (Op.eqItems 9999 3 1 (ia l) (ia m) is).run Tryz.prog w = .ok (is.all fun i => l[i]?.getD 0 == m[i]?.getD 0) w := by
 have hu : Tryz.prog.underlying 3 = some (.int .i64) := by kernel_rfl
 have he : ∀ x y, (Op.equalIn 9999 3 (.int .i64 x) (.int .i64 y)).run Tryz.prog w = .ok (x == y) w := fun x y => run_equalIn_int w 9998 _ _ _ x y hu
 have hp : ∀ (xs : Array Value) (i : Nat) (x : Int), xs[i]? = some (.int .i64 x) → (part 3 xs i).run Tryz.prog w = .ok (.int .i64 x) w := fun xs i x hx => run_part_plain w (by kernel_rfl) hx
 have hg : ∀ (l : List Int) i, i < l.length → (ia l)[i]? = some (.int .i64 (l[i]?.getD 0)) := fun l i hi => by
  simp [ia, hi]
 intro is
 induction is with
 | nil => intro _; rfl
 | cons i is ih =>
   intro h
   obtain ⟨h1, h2⟩ := h i (by simp)
   simp only [Op.eqItems, Sem.run_bind, Nat.mul_one]
   rw [hp _ _ _ (hg l i h1)]
   simp only [Result.andThen_ok]
   rw [hp _ _ _ (hg m i h2)]
   simp only [Result.andThen_ok, he, List.all_cons]
   cases hb : (l[i]?.getD 0 == m[i]?.getD 0)
   ·simp
   ·simp only [Bool.not_true, Bool.false_eq_true, if_false, Bool.true_and]
    exact ih (fun j hj => h j (by simp [hj]))
theorem allRange_eq (l m : List Int) (n : Nat) (hl : l.length = n) (hm : m.length = n) : ((List.range n).all fun i => l[i]?.getD 0 == m[i]?.getD 0) = (l == m) := by
 rw [Bool.eq_iff_iff]
 simp only [List.all_eq_true, List.mem_range, beq_iff_eq]
 constructor
 ·intro h
  apply List.ext_getElem (by omega)
  intro i h1 h2
  have := h i (by omega)
  simpa [h1, h2] using this
 ·rintro rfl i _
  rfl
theorem neqInts (T : TypeId) (n : Nat) (hT : Tryz.prog.underlying T = some (.array n 3)) (l m : List Int) (hl : l.length = n) (hm : m.length = n) (w : World) :
 Sem.run Tryz.prog (binOp .neq T (.agg (ia l)) (.agg (ia m))) w = .ok (.bool (!(l == m))) w := by
 obtain ⟨i0, hi, hz0, hz1, hz2⟩ := info_parts Tryz.infZint
 have hc : Tryz.prog.cellsOf 3 = 1 := by kernel_rfl
 rw [run_neq_struct, run_equalIn_array w 9999 (t := T) (e := 3) (n := n) _ _ hT hi, hc, eqItemsI l m w _ (fun i hi => by rw [hl, hm]; exact ⟨List.mem_range.1 hi, List.mem_range.1 hi⟩), allRange_eq l m n hl hm]
 rfl
theorem Tryz.undA4 : Tryz.prog.underlying 51 = some (.array 4 3) := by kernel_rfl
def rcBad (t : Tg) : Bool := !(tgL t == [bits .and .i64 t.2.2.1 4095, 0, 0, 0])
theorem neq4 (a b c d : Int) (x : Int) (w : World) : Sem.run Tryz.prog (binOp .neq 51 (.agg #[.int .i64 a, .int .i64 b, .int .i64 c, .int .i64 d]) (.agg #[.int .i64 x, .int .i64 0, .int .i64 0, .int .i64 0])) w = .ok (.bool (!([a, b, c, d] == [x, 0, 0, 0]))) w :=
 neqInts 51 4 Tryz.undA4 [a, b, c, d] [x, 0, 0, 0] rfl rfl w
def rcTick (f c : Int) : Int := f + (Int.tmod (c - f) 65536) % 65536
def noT : Tg := (0, 0, 0, 0, 0, 0)
def rcK (src start : Int) (l : List Tg) : Nat → List P2 × Int
 | 0 => ([], start)
 | k + 1 => if (l[k]?.getD noT).1 = src then ((rcK src start l k).1 ++ [(rcTick (rcK src start l k).2 (l[k]?.getD noT).2.1, (l[k]?.getD noT).2.2.1)], rcTick (rcK src start l k).2 (l[k]?.getD noT).2.1 + 1) else rcK src start l k
def rcX (src start : Int) (l : List Tg) (k : Nat) : Int :=
 if (l[k]?.getD noT).1 = src then (if rcBad (l[k]?.getD noT) = true then 1 else if 100000 < rcTick (rcK src start l k).2 (l[k]?.getD noT).2.1 then 4 else 0) else 0
def rcE1 (src start : Int) (l : List Tg) : Int := firstE [ctE l, withinE src 0 255, withinE start 0 100000]
def rcE2 (src start : Int) (l : List Tg) : Int := firstE ((List.range l.length).map (rcX src start l))
def rcE (src start : Int) (l : List Tg) : Int := if rcE1 src start l = 0 then (if rcE2 src start l = 0 then (if 256 < (rcK src start l l.length).1.length then 5 else 0) else rcE2 src start l) else rcE1 src start l
def rcR (src start : Int) (l : List Tg) : Lg := if rcE src start l = 0 then (src, (rcK src start l l.length).1) else (0, [])
theorem tick_rng (f c : Int) (hf : 0 ≤ f ∧ f ≤ 100001) (hc : 0 ≤ c ∧ c ≤ 65535) : (-65536 < Int.tmod (c - f) 65536 ∧ Int.tmod (c - f) 65536 < 65536) ∧ f ≤ rcTick f c ∧ rcTick f c ≤ f + 65535 := by
 have h1 : -65536 < Int.tmod (c - f) 65536 := Int.lt_tmod_of_pos _ (by decide)
 have h2 : Int.tmod (c - f) 65536 < 65536 := Int.tmod_lt_of_pos _ (by decide)
 unfold rcTick
 omega
theorem rcK_len (src start : Int) (l : List Tg) (k : Nat) : (rcK src start l k).1.length ≤ k := by
 induction k with
 | zero => simp [rcK]
 | succ k ih =>
   simp only [rcK]
   split
   ·rw [List.length_append, List.length_singleton]; omega
   ·omega
theorem rcK_rng {src start : Int} {l : List Tg} (hs : 0 ≤ start ∧ start ≤ 100000) (hl : ∀ t ∈ l, 0 ≤ t.2.1 ∧ t.2.1 ≤ 65535) (k : Nat) (hx : ∀ j, j < k → rcX src start l j = 0) : 0 ≤ (rcK src start l k).2 ∧ (rcK src start l k).2 ≤ 100001 := by
 induction k with
 | zero => simp [rcK]; omega
 | succ k ih =>
   have h1 := ih (fun j hj => hx j (by omega))
   have h2 := hx k (by omega)
   have hc : 0 ≤ (l[k]?.getD noT).2.1 ∧ (l[k]?.getD noT).2.1 ≤ 65535 := by
    cases hq : l[k]? with
    | none => simp [noT]
    | some t => exact hl t (List.mem_of_getElem? hq)
   have h3 := tick_rng _ _ h1 hc
   unfold rcX at h2
   simp only [rcK]
   split
   ·next hsr =>
    rw [if_pos hsr] at h2
    split at h2
    ·cases h2
    ·split at h2
     ·cases h2
     ·dsimp only; omega
   ·exact h1
theorem rcE2_stop {src start : Int} {l : List Tg} {k : Nat} (hk : k < l.length) (h : ∀ j, j < k → rcX src start l j = 0) (hne : rcX src start l k ≠ 0) : rcE2 src start l = rcX src start l k := by
 unfold rcE2
 have h0 : firstE (((List.range l.length).map (rcX src start l)).take k) = 0 := by
  apply firstE_all
  intro y hy
  rw [← List.map_take, List.mem_map] at hy
  obtain ⟨j, hj, rfl⟩ := hy
  rw [List.take_range, List.mem_range] at hj
  exact h j (by omega)
 have hs := firstE_take_succ _ k (by simpa using hk) h0
 have e : ((List.range l.length).map (rcX src start l))[k]?.getD 0 = rcX src start l k := by simp [hk]
 rw [e] at hs
 rw [firstE_of_take _ (k + 1) (by rw [hs]; exact hne), hs]
theorem rcE2_end {src start : Int} {l : List Tg} (h : ∀ j, j < l.length → rcX src start l j = 0) : rcE2 src start l = 0 := by
 unfold rcE2
 apply firstE_all
 intro y hy
 obtain ⟨j, hj, rfl⟩ := List.mem_map.1 hy
 exact h j (List.mem_range.1 hj)
end
end Go.Proofs.YtpmngcffkhbofaaGreatDoor

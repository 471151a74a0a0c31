/- Prices: the walk. -/
import Derived.Test.YtpmngcffkhbofaaGreatDoorVaY
namespace Go.Proofs.YtpmngcffkhbofaaGreatDoor
set_option linter.unusedSimpArgs false
set_option linter.unusedVariables false
open Go.RowKit
theorem OwR.ints {w : World} {base e : Nat} {u : Value} {l : List Int} (h : OwR w base e 1 nV u l) : Ints w u l :=
 Ints.of_own (n := l.length) (by have := h; unfold OwR at this; rw [nV_flat] at this; exact this) rfl
theorem Blk.keptV {w w1 : World} {B base e size n : Nat} {T : TypeId} {vs xs : List Value} {v : Value} (h : Blk w B T vs) (ho : w.ownsRow base e size v n xs) (hB : B < base) (hg : w.grownBy w1 v.ownBlock) : Blk w1 B T vs :=
 h.kept hg (fun hrow => by have := (World.ownsRow.lt ho B hrow.symm).1; omega)
set_option maxRecDepth 100000 in
set_option maxHeartbeats 4000000 in
theorem Prices_any (vm vo : Value) (ms : List Mo) (os : List I3) (w : World) (hl : ms.length ≤ 1000) (hls : ∀ m ∈ ms, m.1.size ≤ 1000000) (hol : os.length ≤ 1000) (hm : Rw 4 mV w vm ms) (ho : Rw 3 iV w vo os) :
 Calls Tryz.prog 39 #[vm, vo] w fun r w' => (∃ u, r = .returned (.tuple #[u, .int .i64 (priE ms os)]) ∧ Ints w' u (priR ms os)) ∧ Below w.heap.size w w' := by
 obtain ⟨i1, hi, hz0, hz1, hz2⟩ := info_parts Tryz.infZint
 have TC := Lib.hid (fun W (h1 : Rw 4 mV W vm ms) (h2 : Rw 3 iV W vo os) => check_any vm vo ms os W hl hls hol h1 h2)
 have hn1 : bothE ms os ≠ 0 → priE ms os = bothE ms os ∧ priR ms os = [] := fun h => by
  have e : priE ms os = bothE ms os := by unfold priE; rw [if_neg h]
  exact ⟨e, by unfold priR; rw [e, if_neg h]⟩
 have hn2 : bothE ms os = 0 → priB ms os = true → priE ms os = 18 ∧ priR ms os = [] := fun h h2 => by
  have e : priE ms os = 18 := by unfold priE; rw [if_pos h, if_pos h2]
  exact ⟨e, by unfold priR; rw [e, if_neg (by decide)]⟩
 have hn3 : bothE ms os = 0 → priB ms os = false → priE ms os = 0 ∧ priR ms os = priK ms os ms.length := fun h h2 => by
  have e : priE ms os = 0 := by unfold priE; rw [if_pos h, h2]; rfl
  exact ⟨e, by unfold priR; rw [e, if_pos rfl]⟩
 have hok := fun (h : bothE ms os = 0) => (outE_ok (bothE_ok h).2).2
 obtain ⟨E0, hE0⟩ : ∃ e, e = bothE ms os := ⟨_, rfl⟩
 obtain ⟨E, hE⟩ : ∃ e, e = priE ms os := ⟨_, rfl⟩
 obtain ⟨R, hR⟩ : ∃ e, e = priR ms os := ⟨_, rfl⟩
 rw [← hE0] at TC hn1 hn2 hn3 hok
 rw [← hE, ← hR] at hn1 hn2 hn3 ⊢
 obtain ⟨ma, mc, rfl, hmc⟩ := hm.slice
 obtain ⟨NM, hNM⟩ : ∃ N, N = ms.length := ⟨_, rfl⟩
 rw [← hNM] at TC hm hl hn3 ⊢
 have HN1 := Lib.hid hn1
 have HN2 := Lib.hid hn2
 have HN3 := Lib.hid hn3
 have HOK := Lib.hid hok
 have HNM := Lib.hid hNM
 clear hE0 hE hR hn1 hn2 hn3 hok hNM hmc hls
 go_enter Tryz.func39, Tryz.ntmps39
 go_upto_region 1 with fail
 obtain ⟨W1, hW1⟩ : ∃ v, v = World.alloc w (Obj.cells #[.slice ma NM mc] 87) := ⟨_, rfl⟩
 have kW1 : Below w.heap.size w W1 := by rw [hW1]; exact below_new _ _
 have iW1 : Blk W1 (w.heap.size) 87 [.slice ma NM mc] := by rw [hW1]; exact Blk.new _ _ _
 have sW1 : W1.heap.size = w.heap.size + 1 := by rw [hW1]; simp
 rw [← hW1]
 clear hW1
 have i2 := iW1
 replace hm := hm.carry kW1
 replace ho := ho.carry kW1
 have c2 := i2.cell (j := 0) (v := .slice ma NM mc) rfl
 have hB := kW1
 clear kW1 sW1 iW1
 go_wp2_with fail
 refine (TC.out W1 hm ho).mono ?_
 rintro e w2 ⟨rfl, hb2⟩
 have i2 := i2.carry hb2
 have c2 := cellb c2 hb2
 replace hm := hm.carry hb2
 replace ho := ho.carry hb2
 replace hB := bthen hB hb2
 clear hb2 TC
 by_cases h0 : E0 = 0
 ·subst h0
  have hok := HOK.out (by trivial)
  have hn2 := HN2.out (by trivial)
  have hn3 := HN3.out (by trivial)
  have HOK2 := Lib.hid hok
  have HN2b := Lib.hid hn2
  have HN3b := Lib.hid hn3
  clear hok hn2 hn3 HOK HN1 HN2 HN3
  have h2lt := i2.lt
  go_upto_region 5 with fail
  obtain ⟨W4, hW4⟩ : ∃ v, v = World.alloc w2 (Obj.cells #[.slice none 0 0] 63) := ⟨_, rfl⟩
  have kW4 : Below w2.heap.size w2 W4 := by rw [hW4]; exact below_new _ _
  have iW4 : Blk W4 (w2.heap.size) 63 [.slice none 0 0] := by rw [hW4]; exact Blk.new _ _ _
  have sW4 : W4.heap.size = w2.heap.size + 1 := by rw [hW4]; simp
  rw [← hW4]
  clear hW4
  have HI2 := Lib.hid (i2.carry kW4)
  have HM := Lib.hid (hm.carry kW4)
  have HO := Lib.hid (ho.carry kW4)
  have HB := Lib.hid (bthen hB kW4)
  have i7 := iW4
  have H2LT := Lib.hid h2lt
  have hz4 : W4.heap.size = w2.heap.size + 1 := by omega
  have HZ4 := Lib.hid hz4
  have HK4 := Lib.hid kW4
  have HMW := Lib.hid hm
  have HOW := Lib.hid ho
  have HBW := Lib.hid hB
  have HI2W := Lib.hid i2
  have c2 := cellb c2 kW4
  clear iW4 i2 hm ho hB sW4 h2lt hz4 kW4
  go_wp2_with fail
  clear c2
  go_loopw [19] (fun i wr => ∃ k : Nat, k ≤ NM ∧ i = .int .i64 k ∧ (∀ j, j < k → permL os (ms[j]?.getD noM) ≠ []) ∧ (∃ oa oc, Blk wr w2.heap.size 63 [.slice oa k oc] ∧ wr.ownsRow (w2.heap.size + 1) 3 1 (.slice oa k oc) k ((priK ms os k).map (Value.int .i64))) ∧ Below w2.heap.size w2 wr) (fun i _ => NM - (intOf i).toNat)
  case atStart => exact ⟨0, by omega, rfl, by omega, ⟨none, 0, i7, World.ownsRow_nil _ _ _ _⟩, HK4.out⟩
  case round =>
   clear i7
   obtain ⟨k, hk, rfl, hpm, ⟨oa, oc, i7, hown⟩, hbel⟩ := hrel
   have HPM := Lib.hid hpm
   clear hpm
   by_cases hlt : k < NM
   ·obtain ⟨m, hmk⟩ : ∃ m, ms[k]? = some m := ⟨_, List.getElem?_eq_getElem (by rw [← HNM.out]; exact hlt)⟩
    have hmr := HMW.out.carry hbel
    obtain ⟨mb, mo, mcap, hme, hmcs⟩ := hmr.head (by rw [← HNM.out]; omega)
    simp only [Value.slice.injEq] at hme
    obtain ⟨rfl, -, rfl⟩ := hme
    obtain ⟨m0, m1, m2, m3⟩ := rw4 (hmcs k m hmk) (show mV m = [.string m.1, .int .i64 m.2.1, .int .i64 m.2.2.1, .int .i64 m.2.2.2] from rfl)
    have hpl : priL ms os k (priK ms os k) = (permL os m).map fun o => o.2.2 - chgS o ms (priK ms os k) := by unfold priL; rw [hmk]; rfl
    have hpe : permL os m = os.filter fun o => !(!perB o m) := by unfold permL; simp only [Bool.not_not]
    have HMK := Lib.hid hmk
    have HPL := Lib.hid hpl
    have HPE := Lib.hid hpe
    have hdk : (k : Int) < (NM : Int) := by omega
    have hlt7 := i7.lt
    clear hmcs hmk hpl hpe hmr
    go_upto_region 8 with fail
    obtain ⟨W6, hW6⟩ : ∃ v, v = World.alloc wr (Obj.cells #[.string m.1, .int .i64 m.2.1, .int .i64 m.2.2.1, .int .i64 m.2.2.2] 163) := ⟨_, rfl⟩
    have kW6 : Below wr.heap.size wr W6 := by rw [hW6]; exact below_new _ _
    have iW6 : Blk W6 (wr.heap.size) 163 [.string m.1, .int .i64 m.2.1, .int .i64 m.2.2.1, .int .i64 m.2.2.2] := by rw [hW6]; exact Blk.new _ _ _
    have sW6 : W6.heap.size = wr.heap.size + 1 := by rw [hW6]; simp
    rw [← hW6]
    clear hW6
    have i9 := iW6
    have i7 := i7.carry kW6
    have hown := own_below hown kW6
    have hbel := bthen hbel kW6
    have h6 : W6.heap.size = wr.heap.size + 1 := by omega
    clear iW6 sW6 kW6 m0 m1 m2 m3
    have TCL := Lib.hid (CloneO_any vo os W6 (HOW.out.carry hbel) (by omega))
    go_wp2_with fail
    refine TCL.out.mono ?_
    rintro e w7 ⟨⟨v7, rfl, hv7⟩, hb7⟩
    have i9 := i9.carry hb7
    have hs7 := hb7.size
    have TD := Lib.hid (DeleteO_any 91 #[.pointer (some ⟨wr.heap.size, 0, none⟩)] Tryz.enterPr1 (fun o => !perB o m) v7 os W6.heap.size w7 (by omega) hs7 hv7 (fun x hx w1 h1 => by
     have i9' := i9.below h1 (by omega)
     exact Prices1_any x.1 x.2.1 x.2.2 m wr.heap.size w1 (i9'.cell rfl) (i9'.cell rfl) (i9'.cell rfl) (i9'.cell rfl)))
    rw [← HPE.out] at TD
    clear TCL
    go_wp2_with fail
    refine TD.out.mono ?_
    rintro e w8 ⟨⟨u8, rfl, hu8⟩, hb8⟩
    have hb68 := hb7.trans hb8
    have i7 := i7.carry hb68
    have hown := own_below hown hb68
    have hbel := bthen hbel hb68
    clear hb7 hb8 hb68 i9 TD hs7 hv7
    have hPLe : (permL os m).length ≤ os.length := List.length_filter_le _ _
    obtain ⟨PN, hPN⟩ : ∃ N, N = (permL os m).length := ⟨_, rfl⟩
    obtain ⟨pa, pc, rfl, hpc⟩ := hu8.slice
    rw [← hPN] at hu8 hPLe ⊢
    have HPN := Lib.hid hPN
    rcases Nat.eq_zero_or_pos PN with hz | hz
    ·obtain ⟨rfl, rfl⟩ := HN2b.out (priB_at HMK.out (List.length_eq_zero_iff.1 (by rw [← hPN]; exact hz)))
     have b0 : ((PN : Int) == 0) = true := by rw [beq_iff_eq]; omega
     have hBF := bthen HBW.out hbel
     clear hz hPN hPLe h6 hlt7
     go_wp2
     go_ret2
     exact ⟨⟨_, rfl, Ints.nil _⟩, hBF⟩
    ·have b0 : ((PN : Int) == 0) = false := by rw [beq_eq_false_iff_ne]; omega
     have hKok := priK_ok (ms := ms) (os := os) (fun o ho => (HOK2.out o ho).2.2) k (by rw [← HNM.out]; omega) HPM.out
     have TM := Lib.hid (fun (W : World) (c2 : W.cell? ⟨w.heap.size, 0, none⟩ = some (.slice (some ⟨mb, mo, none⟩) NM mc)) (c7 : W.cell? ⟨w2.heap.size, 0, none⟩ = some (.slice oa k oc)) (hm : Rw 4 mV W (.slice (some ⟨mb, mo, none⟩) NM mc) ms) (hp : Ints W (.slice oa k oc) (priK ms os k)) (hd : Rw 3 iV W (.slice pa PN pc) (permL os m)) =>
      mapOI_any 95 #[.pointer (some ⟨w.heap.size, 0, none⟩), .pointer (some ⟨w2.heap.size, 0, none⟩)] Tryz.enterPr2 (fun o => o.2.2 - chgS o ms (priK ms os k)) (.slice pa PN pc) (permL os m) W (by omega) hd (fun x hx w1 h1 => Prices2_any x.1 x.2.1 x.2.2 _ _ ms (priK ms os k) w.heap.size w2.heap.size w1 (HOK2.out x (List.mem_filter.1 hx).1).2.2 (cellb c2 h1) (cellb c7 h1) (hm.carry h1) (hp.carry h1) (by rw [priK_len, ← HNM.out]; omega) (by rw [← HNM.out]; exact hl) (fun y hy => by have := hKok.1 y hy; omega)))
     rw [← HPL.out] at TM
     have hll : (priL ms os k (priK ms os k)).length = PN := by rw [HPL.out, List.length_map, ← HPN.out]
     have hks : priK ms os (k + 1) = priK ms os k ++ [minW (priL ms os k (priK ms os k))] := rfl
     have hKl := priK_len ms os k
     have TN := Lib.hid (fun (u : Value) (W : World) (h : Ints W u (priL ms os k (priK ms os k))) => Min_any u _ W h (by omega) (by omega))
     obtain ⟨mn, hmn⟩ : ∃ z, z = minW (priL ms os k (priK ms os k)) := ⟨_, rfl⟩
     rw [← hmn] at TN hks
     obtain ⟨L, hL⟩ : ∃ L, L = priL ms os k (priK ms os k) := ⟨_, rfl⟩
     rw [← hL] at TM TN
     have HKS := Lib.hid hks
     have HKL := Lib.hid hKl
     have i2 := HI2W.out.carry hbel
     have hmx := HMW.out.carry hbel
     have hownS : OwnS w8 (w2.heap.size + 1) 3 1 (.slice oa k oc) k ((priK ms os k).map (Value.int .i64)) := ⟨hown⟩
     have hdl := hu8
     have HPM2 := Lib.hid (show ∀ j, j < k + 1 → permL os (ms[j]?.getD noM) ≠ [] from fun j hj => by
      by_cases hjk : j = k
      ·subst hjk
       rw [HMK.out]
       intro hc
       have hc : permL os m = [] := hc
       rw [hc] at hPN; simp at hPN; omega
      ·exact HPM.out j (by omega))
     clear hz hPN hPLe h6 hlt7 hKok hll hks hKl hmn hL hown hu8 hpc
     go_upto_region 11 with fail
     refine wp_region_held_drew (S := (fun _ => True)) (by kernel_rfl) trivial (fun hHeld0 => ?_)
     obtain ⟨wzd, hwz⟩ : ∃ v, v = w8.drew := ⟨_, rfl⟩
     rw [← hwz]
     have hbzd : Below w2.heap.size w2 wzd := by rw [hwz]; exact hbel.drew
     have hlzd : Below w8.heap.size w8 wzd := by rw [hwz]; exact (Below.refl _ _).drew
     have i2 := i2.carry hlzd
     have i7 := i7.carry hlzd
     have hmx := hmx.carry hlzd
     have hdl := hdl.carry hlzd
     have hownS := hownS.carry hlzd
     clear hwz hlzd
     refine zH 1 ⟨some 31, .move (.tmp 10), 89, "plan.go:176", #[], none⟩ rfl ?_
     simp only [Act.put, zS]
     refine zH 2 ⟨some 32, .makeFunc (Fn.func 95) #[] #[.tmp 2, .tmp 7], 172, "plan.go:176", #[], none⟩ rfl ?_
     simp only [Act.put, zS]
     refine wpAnyH_ready (rs := [0, 3]) (by kernel_rfl) (by simp) ?_
     refine (AllReadyH.cons (o := ⟨some 30, .load 63 (.tmp 7), 63, "plan.go:176", #[], none⟩) rfl (fun K hK => ?_) (AllReadyH.cons (o := ⟨some 33, .call ⟨.value (.func 94), #[.tmp 31, .tmp 32], #[89, 172]⟩, 63, "plan.go:176", #[⟨1, .data⟩, ⟨2, .data⟩], none⟩) rfl (fun K hK => ?_) AllReadyH.nil))
     ·have c0 := i7.cell (j := 0) (v := .slice oa k oc) rfl
      go_simp
      clear c0
      refine hK.out _ _ trivial (fun hHeld1 => ?_)
      clear hK K hHeld0
      try simp only [Act.put, zS]
      refine wpAnyH_ready (rs := [3]) (by kernel_rfl) (by simp) ?_
      refine (AllReadyH.cons (o := ⟨some 33, .call ⟨.value (.func 94), #[.tmp 31, .tmp 32], #[89, 172]⟩, 63, "plan.go:176", #[⟨1, .data⟩, ⟨2, .data⟩], none⟩) rfl (fun K hK => ?_) AllReadyH.nil)
      go_simp
      refine (TM.out wzd (i2.cell rfl) (i7.cell rfl) hmx (Ints.of_own hownS.o HKL.out.symm) hdl).mono ?_
      rintro e wz3 ⟨⟨u3, rfl, hu3⟩, hl⟩
      replace hu3 := OwR.ints hu3
      (try go_wp2_with fail)
      have hbz3 := bthen hbzd hl
      have i2 := i2.carry hl
      have i7 := i7.carry hl
      have hmx := hmx.carry hl
      have hdl := hdl.carry hl
      have hownS := hownS.carry hl
      clear hl
      refine hK.out _ _ trivial (fun hHeld2 => ?_)
      clear hK K hHeld1
      try simp only [Act.put, zS]
      refine wpAnyH_ready (rs := [4]) (by kernel_rfl) (by simp) ?_
      refine (AllReadyH.cons (o := ⟨some 34, .call ⟨.value (.func 93), #[.tmp 33], #[63]⟩, 3, "plan.go:176", #[⟨3, .data⟩, ⟨3, .chain⟩], none⟩) rfl (fun K hK => ?_) AllReadyH.nil)
      go_simp
      refine (TN.out u3 wz3 hu3).mono ?_
      rintro e w' ⟨rfl, rfl⟩
      (try go_wp2_with fail)
      refine hK.out _ _ trivial (fun hHeld3 => ?_)
      clear hK K hHeld2
      try simp only [Act.put, zS]
      refine wpAnyH_ready (rs := [5]) (by kernel_rfl) (by simp) ?_
      refine (AllReadyH.cons (o := ⟨some 35, .buildSlice 63 1 #[(0, .tmp 34)], 63, "plan.go:176", #[⟨4, .data⟩], none⟩) rfl (fun K hK => ?_) AllReadyH.nil)
      go_simp
      obtain ⟨wz5, hwz⟩ : ∃ v, v = wz3.alloc (Obj.cells #[.int .i64 mn] 3) := ⟨_, rfl⟩
      rw [← hwz]
      have hl : Below wz3.heap.size wz3 wz5 := by rw [hwz]; exact below_new _ _
      have hbz5 := bthen hbz3 hl
      have iN : Blk wz5 wz3.heap.size 3 [.int .i64 mn] := by rw [hwz]; exact Blk.new _ _ _
      generalize wz3.heap.size = G at iN ⊢
      clear hwz
      have i2 := i2.carry hl
      have i7 := i7.carry hl
      have hmx := hmx.carry hl
      have hdl := hdl.carry hl
      have hownS := hownS.carry hl
      have hu3 := hu3.carry hl
      clear hl
      refine hK.out _ _ trivial (fun hHeld4 => ?_)
      clear hK K hHeld3
      try simp only [Act.put, zS]
      refine wpAnyH_ready (rs := [6]) (by kernel_rfl) (by simp) ?_
      refine (AllReadyH.cons (o := ⟨some 36, .call ⟨.builtin .append, #[.tmp 30, .tmp 35], #[63, 63]⟩, 63, "plan.go:176", #[⟨0, .data⟩, ⟨5, .data⟩, ⟨4, .chain⟩], none⟩) rfl (fun K hK => ?_) AllReadyH.nil)
      have hsz : w2.heap.size + 1 ≤ wz5.heap.size := i7.lt
      refine wp_append_own wz5 (.tmp 30) (.tmp 35) 63 rfl (w2.heap.size + 1) 3 i1 (.int .i64 0) 1 8 Tryz.undZint hi hz0 hz1 hz2 rfl (by decide) (.slice oa k oc) k _ rfl hownS.o ⟨G, 0, none⟩ 1 1 [.int .i64 mn] rfl rfl (fun j u hj => by rw [addr_add, Nat.zero_add]; exact iN.cell hj) (by simp [Value.oneCell']) (by unfold maxLen; omega) (by omega) hsz ?_
      intro v9 wz6 hown9 hgrow9 _
      have hbz6 := (hbz5).grown hgrow9 (by omega) (fun k' hk' => by have := (World.ownsRow.lt hownS.o k' hk').1; omega)
      replace i7 := Blk.keptV i7 hownS.o (by omega) hgrow9
      obtain ⟨va, vc, rfl⟩ := own_slice hown9
      clear hsz hgrow9
      refine hK.out _ _ trivial (fun hHeld5 => ?_)
      clear hK K hHeld4
      try simp only [Act.put, zS]
      refine wpAnyH_ready (rs := [7]) (by kernel_rfl) (by simp) ?_
      refine (AllReadyH.cons (o := ⟨none, .store 63 (.tmp 7) (.tmp 36), 0, "plan.go:176", #[⟨6, .data⟩, ⟨6, .chain⟩, ⟨0, .phase⟩, ⟨1, .phase⟩, ⟨2, .phase⟩, ⟨3, .phase⟩, ⟨4, .phase⟩, ⟨5, .phase⟩, ⟨6, .phase⟩], none⟩) rfl (fun K hK => ?_) AllReadyH.nil)
      have a7 := i7.cell (j := 0) (v := .slice oa k oc) rfl
      have f7 := i7.frozen 0
      go_simp
      obtain ⟨wz7, hwz⟩ : ∃ v, v = wz6.setCell ⟨w2.heap.size, 0, none⟩ (.slice va (k + 1) vc) := ⟨_, rfl⟩
      rw [← hwz]
      have hbz7 : Below w2.heap.size w2 wz7 := by rw [hwz]; exact (hbz6).setCell (Nat.le_refl _) _
      have j7 := i7.set 0 (.slice va (k + 1) vc)
      have o7 := own_setCellV (j := 0) (x := .slice va (k + 1) vc) hown9 (by omega : w2.heap.size < w2.heap.size + 1)
      rw [← hwz] at j7 o7
      clear hwz
      refine hK.out _ _ trivial (fun hHeld6 => ?_)
      clear hK K hHeld5
      try simp only [Act.put, zS]
      refine wpAnyH_done (by kernel_rfl) ?_ _
      clear hHeld6
      have o8 := by have h9 := o7; rw [show (priK ms os k).map (Value.int .i64) ++ [Value.int .i64 mn] = (priK ms os (k + 1)).map (Value.int .i64) by rw [HKS.out, List.map_append]; rfl] at h9; exact h9
      clear o7
      go_wp2_with fail
      go_roundw
      case rel => exact ⟨k + 1, by omega, by go_num, HPM2.out, ⟨va, vc, j7, o8⟩, hbz7⟩
      case measure => simp [intOf]; omega
     ·go_simp
      refine (TM.out wzd (i2.cell rfl) (i7.cell rfl) hmx (Ints.of_own hownS.o HKL.out.symm) hdl).mono ?_
      rintro e wz3 ⟨⟨u3, rfl, hu3⟩, hl⟩
      replace hu3 := OwR.ints hu3
      (try go_wp2_with fail)
      have hbz3 := bthen hbzd hl
      have i2 := i2.carry hl
      have i7 := i7.carry hl
      have hmx := hmx.carry hl
      have hdl := hdl.carry hl
      have hownS := hownS.carry hl
      clear hl
      refine hK.out _ _ trivial (fun hHeld1 => ?_)
      clear hK K hHeld0
      try simp only [Act.put, zS]
      refine wpAnyH_ready (rs := [0, 4]) (by kernel_rfl) (by simp) ?_
      refine (AllReadyH.cons (o := ⟨some 30, .load 63 (.tmp 7), 63, "plan.go:176", #[], none⟩) rfl (fun K hK => ?_) (AllReadyH.cons (o := ⟨some 34, .call ⟨.value (.func 93), #[.tmp 33], #[63]⟩, 3, "plan.go:176", #[⟨3, .data⟩, ⟨3, .chain⟩], none⟩) rfl (fun K hK => ?_) AllReadyH.nil))
      ·have c0 := i7.cell (j := 0) (v := .slice oa k oc) rfl
       go_simp
       clear c0
       refine hK.out _ _ trivial (fun hHeld2 => ?_)
       clear hK K hHeld1
       try simp only [Act.put, zS]
       refine wpAnyH_ready (rs := [4]) (by kernel_rfl) (by simp) ?_
       refine (AllReadyH.cons (o := ⟨some 34, .call ⟨.value (.func 93), #[.tmp 33], #[63]⟩, 3, "plan.go:176", #[⟨3, .data⟩, ⟨3, .chain⟩], none⟩) rfl (fun K hK => ?_) AllReadyH.nil)
       go_simp
       refine (TN.out u3 wz3 hu3).mono ?_
       rintro e w' ⟨rfl, rfl⟩
       (try go_wp2_with fail)
       refine hK.out _ _ trivial (fun hHeld3 => ?_)
       clear hK K hHeld2
       try simp only [Act.put, zS]
       refine wpAnyH_ready (rs := [5]) (by kernel_rfl) (by simp) ?_
       refine (AllReadyH.cons (o := ⟨some 35, .buildSlice 63 1 #[(0, .tmp 34)], 63, "plan.go:176", #[⟨4, .data⟩], none⟩) rfl (fun K hK => ?_) AllReadyH.nil)
       go_simp
       obtain ⟨wz5, hwz⟩ : ∃ v, v = wz3.alloc (Obj.cells #[.int .i64 mn] 3) := ⟨_, rfl⟩
       rw [← hwz]
       have hl : Below wz3.heap.size wz3 wz5 := by rw [hwz]; exact below_new _ _
       have hbz5 := bthen hbz3 hl
       have iN : Blk wz5 wz3.heap.size 3 [.int .i64 mn] := by rw [hwz]; exact Blk.new _ _ _
       generalize wz3.heap.size = G at iN ⊢
       clear hwz
       have i2 := i2.carry hl
       have i7 := i7.carry hl
       have hmx := hmx.carry hl
       have hdl := hdl.carry hl
       have hownS := hownS.carry hl
       have hu3 := hu3.carry hl
       clear hl
       refine hK.out _ _ trivial (fun hHeld4 => ?_)
       clear hK K hHeld3
       try simp only [Act.put, zS]
       refine wpAnyH_ready (rs := [6]) (by kernel_rfl) (by simp) ?_
       refine (AllReadyH.cons (o := ⟨some 36, .call ⟨.builtin .append, #[.tmp 30, .tmp 35], #[63, 63]⟩, 63, "plan.go:176", #[⟨0, .data⟩, ⟨5, .data⟩, ⟨4, .chain⟩], none⟩) rfl (fun K hK => ?_) AllReadyH.nil)
       have hsz : w2.heap.size + 1 ≤ wz5.heap.size := i7.lt
       refine wp_append_own wz5 (.tmp 30) (.tmp 35) 63 rfl (w2.heap.size + 1) 3 i1 (.int .i64 0) 1 8 Tryz.undZint hi hz0 hz1 hz2 rfl (by decide) (.slice oa k oc) k _ rfl hownS.o ⟨G, 0, none⟩ 1 1 [.int .i64 mn] rfl rfl (fun j u hj => by rw [addr_add, Nat.zero_add]; exact iN.cell hj) (by simp [Value.oneCell']) (by unfold maxLen; omega) (by omega) hsz ?_
       intro v9 wz6 hown9 hgrow9 _
       have hbz6 := (hbz5).grown hgrow9 (by omega) (fun k' hk' => by have := (World.ownsRow.lt hownS.o k' hk').1; omega)
       replace i7 := Blk.keptV i7 hownS.o (by omega) hgrow9
       obtain ⟨va, vc, rfl⟩ := own_slice hown9
       clear hsz hgrow9
       refine hK.out _ _ trivial (fun hHeld5 => ?_)
       clear hK K hHeld4
       try simp only [Act.put, zS]
       refine wpAnyH_ready (rs := [7]) (by kernel_rfl) (by simp) ?_
       refine (AllReadyH.cons (o := ⟨none, .store 63 (.tmp 7) (.tmp 36), 0, "plan.go:176", #[⟨6, .data⟩, ⟨6, .chain⟩, ⟨0, .phase⟩, ⟨1, .phase⟩, ⟨2, .phase⟩, ⟨3, .phase⟩, ⟨4, .phase⟩, ⟨5, .phase⟩, ⟨6, .phase⟩], none⟩) rfl (fun K hK => ?_) AllReadyH.nil)
       have a7 := i7.cell (j := 0) (v := .slice oa k oc) rfl
       have f7 := i7.frozen 0
       go_simp
       obtain ⟨wz7, hwz⟩ : ∃ v, v = wz6.setCell ⟨w2.heap.size, 0, none⟩ (.slice va (k + 1) vc) := ⟨_, rfl⟩
       rw [← hwz]
       have hbz7 : Below w2.heap.size w2 wz7 := by rw [hwz]; exact (hbz6).setCell (Nat.le_refl _) _
       have j7 := i7.set 0 (.slice va (k + 1) vc)
       have o7 := own_setCellV (j := 0) (x := .slice va (k + 1) vc) hown9 (by omega : w2.heap.size < w2.heap.size + 1)
       rw [← hwz] at j7 o7
       clear hwz
       refine hK.out _ _ trivial (fun hHeld6 => ?_)
       clear hK K hHeld5
       try simp only [Act.put, zS]
       refine wpAnyH_done (by kernel_rfl) ?_ _
       clear hHeld6
       have o8 := by have h9 := o7; rw [show (priK ms os k).map (Value.int .i64) ++ [Value.int .i64 mn] = (priK ms os (k + 1)).map (Value.int .i64) by rw [HKS.out, List.map_append]; rfl] at h9; exact h9
       clear o7
       go_wp2_with fail
       go_roundw
       case rel => exact ⟨k + 1, by omega, by go_num, HPM2.out, ⟨va, vc, j7, o8⟩, hbz7⟩
       case measure => simp [intOf]; omega
      ·go_simp
       refine (TN.out u3 wz3 hu3).mono ?_
       rintro e w' ⟨rfl, rfl⟩
       (try go_wp2_with fail)
       refine hK.out _ _ trivial (fun hHeld2 => ?_)
       clear hK K hHeld1
       try simp only [Act.put, zS]
       refine wpAnyH_ready (rs := [0, 5]) (by kernel_rfl) (by simp) ?_
       refine (AllReadyH.cons (o := ⟨some 30, .load 63 (.tmp 7), 63, "plan.go:176", #[], none⟩) rfl (fun K hK => ?_) (AllReadyH.cons (o := ⟨some 35, .buildSlice 63 1 #[(0, .tmp 34)], 63, "plan.go:176", #[⟨4, .data⟩], none⟩) rfl (fun K hK => ?_) AllReadyH.nil))
       ·have c0 := i7.cell (j := 0) (v := .slice oa k oc) rfl
        go_simp
        clear c0
        refine hK.out _ _ trivial (fun hHeld3 => ?_)
        clear hK K hHeld2
        try simp only [Act.put, zS]
        refine wpAnyH_ready (rs := [5]) (by kernel_rfl) (by simp) ?_
        refine (AllReadyH.cons (o := ⟨some 35, .buildSlice 63 1 #[(0, .tmp 34)], 63, "plan.go:176", #[⟨4, .data⟩], none⟩) rfl (fun K hK => ?_) AllReadyH.nil)
        go_simp
        obtain ⟨wz5, hwz⟩ : ∃ v, v = wz3.alloc (Obj.cells #[.int .i64 mn] 3) := ⟨_, rfl⟩
        rw [← hwz]
        have hl : Below wz3.heap.size wz3 wz5 := by rw [hwz]; exact below_new _ _
        have hbz5 := bthen hbz3 hl
        have iN : Blk wz5 wz3.heap.size 3 [.int .i64 mn] := by rw [hwz]; exact Blk.new _ _ _
        generalize wz3.heap.size = G at iN ⊢
        clear hwz
        have i2 := i2.carry hl
        have i7 := i7.carry hl
        have hmx := hmx.carry hl
        have hdl := hdl.carry hl
        have hownS := hownS.carry hl
        have hu3 := hu3.carry hl
        clear hl
        refine hK.out _ _ trivial (fun hHeld4 => ?_)
        clear hK K hHeld3
        try simp only [Act.put, zS]
        refine wpAnyH_ready (rs := [6]) (by kernel_rfl) (by simp) ?_
        refine (AllReadyH.cons (o := ⟨some 36, .call ⟨.builtin .append, #[.tmp 30, .tmp 35], #[63, 63]⟩, 63, "plan.go:176", #[⟨0, .data⟩, ⟨5, .data⟩, ⟨4, .chain⟩], none⟩) rfl (fun K hK => ?_) AllReadyH.nil)
        have hsz : w2.heap.size + 1 ≤ wz5.heap.size := i7.lt
        refine wp_append_own wz5 (.tmp 30) (.tmp 35) 63 rfl (w2.heap.size + 1) 3 i1 (.int .i64 0) 1 8 Tryz.undZint hi hz0 hz1 hz2 rfl (by decide) (.slice oa k oc) k _ rfl hownS.o ⟨G, 0, none⟩ 1 1 [.int .i64 mn] rfl rfl (fun j u hj => by rw [addr_add, Nat.zero_add]; exact iN.cell hj) (by simp [Value.oneCell']) (by unfold maxLen; omega) (by omega) hsz ?_
        intro v9 wz6 hown9 hgrow9 _
        have hbz6 := (hbz5).grown hgrow9 (by omega) (fun k' hk' => by have := (World.ownsRow.lt hownS.o k' hk').1; omega)
        replace i7 := Blk.keptV i7 hownS.o (by omega) hgrow9
        obtain ⟨va, vc, rfl⟩ := own_slice hown9
        clear hsz hgrow9
        refine hK.out _ _ trivial (fun hHeld5 => ?_)
        clear hK K hHeld4
        try simp only [Act.put, zS]
        refine wpAnyH_ready (rs := [7]) (by kernel_rfl) (by simp) ?_
        refine (AllReadyH.cons (o := ⟨none, .store 63 (.tmp 7) (.tmp 36), 0, "plan.go:176", #[⟨6, .data⟩, ⟨6, .chain⟩, ⟨0, .phase⟩, ⟨1, .phase⟩, ⟨2, .phase⟩, ⟨3, .phase⟩, ⟨4, .phase⟩, ⟨5, .phase⟩, ⟨6, .phase⟩], none⟩) rfl (fun K hK => ?_) AllReadyH.nil)
        have a7 := i7.cell (j := 0) (v := .slice oa k oc) rfl
        have f7 := i7.frozen 0
        go_simp
        obtain ⟨wz7, hwz⟩ : ∃ v, v = wz6.setCell ⟨w2.heap.size, 0, none⟩ (.slice va (k + 1) vc) := ⟨_, rfl⟩
        rw [← hwz]
        have hbz7 : Below w2.heap.size w2 wz7 := by rw [hwz]; exact (hbz6).setCell (Nat.le_refl _) _
        have j7 := i7.set 0 (.slice va (k + 1) vc)
        have o7 := own_setCellV (j := 0) (x := .slice va (k + 1) vc) hown9 (by omega : w2.heap.size < w2.heap.size + 1)
        rw [← hwz] at j7 o7
        clear hwz
        refine hK.out _ _ trivial (fun hHeld6 => ?_)
        clear hK K hHeld5
        try simp only [Act.put, zS]
        refine wpAnyH_done (by kernel_rfl) ?_ _
        clear hHeld6
        have o8 := by have h9 := o7; rw [show (priK ms os k).map (Value.int .i64) ++ [Value.int .i64 mn] = (priK ms os (k + 1)).map (Value.int .i64) by rw [HKS.out, List.map_append]; rfl] at h9; exact h9
        clear o7
        go_wp2_with fail
        go_roundw
        case rel => exact ⟨k + 1, by omega, by go_num, HPM2.out, ⟨va, vc, j7, o8⟩, hbz7⟩
        case measure => simp [intOf]; omega
       ·go_simp
        obtain ⟨wz5, hwz⟩ : ∃ v, v = wz3.alloc (Obj.cells #[.int .i64 mn] 3) := ⟨_, rfl⟩
        rw [← hwz]
        have hl : Below wz3.heap.size wz3 wz5 := by rw [hwz]; exact below_new _ _
        have hbz5 := bthen hbz3 hl
        have iN : Blk wz5 wz3.heap.size 3 [.int .i64 mn] := by rw [hwz]; exact Blk.new _ _ _
        generalize wz3.heap.size = G at iN ⊢
        clear hwz
        have i2 := i2.carry hl
        have i7 := i7.carry hl
        have hmx := hmx.carry hl
        have hdl := hdl.carry hl
        have hownS := hownS.carry hl
        have hu3 := hu3.carry hl
        clear hl
        refine hK.out _ _ trivial (fun hHeld3 => ?_)
        clear hK K hHeld2
        try simp only [Act.put, zS]
        refine wpAnyH_ready (rs := [0]) (by kernel_rfl) (by simp) ?_
        refine (AllReadyH.cons (o := ⟨some 30, .load 63 (.tmp 7), 63, "plan.go:176", #[], none⟩) rfl (fun K hK => ?_) AllReadyH.nil)
        have c0 := i7.cell (j := 0) (v := .slice oa k oc) rfl
        go_simp
        clear c0
        refine hK.out _ _ trivial (fun hHeld4 => ?_)
        clear hK K hHeld3
        try simp only [Act.put, zS]
        refine wpAnyH_ready (rs := [6]) (by kernel_rfl) (by simp) ?_
        refine (AllReadyH.cons (o := ⟨some 36, .call ⟨.builtin .append, #[.tmp 30, .tmp 35], #[63, 63]⟩, 63, "plan.go:176", #[⟨0, .data⟩, ⟨5, .data⟩, ⟨4, .chain⟩], none⟩) rfl (fun K hK => ?_) AllReadyH.nil)
        have hsz : w2.heap.size + 1 ≤ wz5.heap.size := i7.lt
        refine wp_append_own wz5 (.tmp 30) (.tmp 35) 63 rfl (w2.heap.size + 1) 3 i1 (.int .i64 0) 1 8 Tryz.undZint hi hz0 hz1 hz2 rfl (by decide) (.slice oa k oc) k _ rfl hownS.o ⟨G, 0, none⟩ 1 1 [.int .i64 mn] rfl rfl (fun j u hj => by rw [addr_add, Nat.zero_add]; exact iN.cell hj) (by simp [Value.oneCell']) (by unfold maxLen; omega) (by omega) hsz ?_
        intro v9 wz6 hown9 hgrow9 _
        have hbz6 := (hbz5).grown hgrow9 (by omega) (fun k' hk' => by have := (World.ownsRow.lt hownS.o k' hk').1; omega)
        replace i7 := Blk.keptV i7 hownS.o (by omega) hgrow9
        obtain ⟨va, vc, rfl⟩ := own_slice hown9
        clear hsz hgrow9
        refine hK.out _ _ trivial (fun hHeld5 => ?_)
        clear hK K hHeld4
        try simp only [Act.put, zS]
        refine wpAnyH_ready (rs := [7]) (by kernel_rfl) (by simp) ?_
        refine (AllReadyH.cons (o := ⟨none, .store 63 (.tmp 7) (.tmp 36), 0, "plan.go:176", #[⟨6, .data⟩, ⟨6, .chain⟩, ⟨0, .phase⟩, ⟨1, .phase⟩, ⟨2, .phase⟩, ⟨3, .phase⟩, ⟨4, .phase⟩, ⟨5, .phase⟩, ⟨6, .phase⟩], none⟩) rfl (fun K hK => ?_) AllReadyH.nil)
        have a7 := i7.cell (j := 0) (v := .slice oa k oc) rfl
        have f7 := i7.frozen 0
        go_simp
        obtain ⟨wz7, hwz⟩ : ∃ v, v = wz6.setCell ⟨w2.heap.size, 0, none⟩ (.slice va (k + 1) vc) := ⟨_, rfl⟩
        rw [← hwz]
        have hbz7 : Below w2.heap.size w2 wz7 := by rw [hwz]; exact (hbz6).setCell (Nat.le_refl _) _
        have j7 := i7.set 0 (.slice va (k + 1) vc)
        have o7 := own_setCellV (j := 0) (x := .slice va (k + 1) vc) hown9 (by omega : w2.heap.size < w2.heap.size + 1)
        rw [← hwz] at j7 o7
        clear hwz
        refine hK.out _ _ trivial (fun hHeld6 => ?_)
        clear hK K hHeld5
        try simp only [Act.put, zS]
        refine wpAnyH_done (by kernel_rfl) ?_ _
        clear hHeld6
        have o8 := by have h9 := o7; rw [show (priK ms os k).map (Value.int .i64) ++ [Value.int .i64 mn] = (priK ms os (k + 1)).map (Value.int .i64) by rw [HKS.out, List.map_append]; rfl] at h9; exact h9
        clear o7
        go_wp2_with fail
        go_roundw
        case rel => exact ⟨k + 1, by omega, by go_num, HPM2.out, ⟨va, vc, j7, o8⟩, hbz7⟩
        case measure => simp [intOf]; omega
   ·obtain rfl : k = NM := by omega
    obtain ⟨rfl, hR⟩ := HN3b.out (priB_none (by rw [← HNM.out]; exact HPM.out))
    have hI : Ints wr (.slice oa k oc) R := by
     rw [hR]; exact Ints.of_own hown (priK_len _ _ _).symm
    have c7 := i7.cell (j := 0) (v := .slice oa k oc) rfl
    have hBF := bthen HBW.out hbel
    have d0 : ¬ ((k : Int) < (k : Int)) := by omega
    clear hR hlt hk hown
    go_wp2
    go_ret2
    exact ⟨⟨_, rfl, hI⟩, hBF⟩
 ·obtain ⟨rfl, rfl⟩ := HN1.out h0
  have b0 : (E != 0) = true := by rw [bne_iff_ne]; exact h0
  clear h0
  go_wp2
  go_ret2
  exact ⟨⟨_, rfl, Ints.nil _⟩, hB⟩
end Go.Proofs.YtpmngcffkhbofaaGreatDoor

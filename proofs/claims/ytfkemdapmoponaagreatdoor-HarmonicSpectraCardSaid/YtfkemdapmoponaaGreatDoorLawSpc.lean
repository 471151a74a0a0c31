/- The law HarmonicSpectra: the walk. -/
import Derived.Test.YtfkemdapmoponaaGreatDoorHrA
namespace Go.Proofs.YtfkemdapmoponaaGreatDoor
set_option linter.unusedSimpArgs false
set_option linter.unusedVariables false
open Go.RowKit
attribute [local go_sem] run_store_cx

theorem own_setCellR {w : World} {base e size n B j : Nat} {v x : Value} {xs : List Value} (h : w.ownsRow base e size v n xs) (hB : B < base) : (w.setCell ⟨B, j, none⟩ x).ownsRow base e size v n xs := by
  refine ⟨h.1, ?_⟩
  rcases h.2 with h1 | ⟨g, cap, cur, hv, hg, hh, hr⟩
  · exact .inl h1
  · exact .inr ⟨g, cap, cur, hv, hg, (Below.heap_setCell _ _ _ _ (show g ≠ B by omega)).trans hh, hr⟩
/-- a list of the call's own. -/
def OwnR (w : World) (base : Nat) (v : Value) (l : List Int) : Prop := w.ownsRow base 3 1 v l.length (l.map (Value.int .i64))
theorem OwnR.carry {w w' : World} {base : Nat} {v : Value} {l : List Int} (h : OwnR w base v l) (hb : Below w.heap.size w w') : OwnR w' base v l := own_below h hb
theorem OwnR.ints {w : World} {base : Nat} {v : Value} {l : List Int} (h : OwnR w base v l) : Ints w v l := Ints.of_own h rfl
theorem qF_set (l : List Int) (k m : Nat) (hk : k < 4) (hm : m = 3 * k) : (upto (qF l k) 4).set k (cxV (orderC l (m : Int)).1 (orderC l (m : Int)).2.2.1) = upto (qF l (k + 1)) 4 := upto_setV _ _ 4 k hk _ fun j _ => by
  subst hm
  unfold qF
  by_cases c : j = k
  · subst c; rw [if_pos rfl, if_pos (by omega)]
  · rw [if_neg c]
    by_cases c2 : j < k
    · rw [if_pos c2, if_pos (by omega)]
    · rw [if_neg c2, if_neg (by omega)]
theorem eqQ_self (E : Int) (l : List Int) (w : World) : Sem.run Tryz.prog (binOp .eql 94 (.agg (quOr E l).toArray) (.agg (quOr E l).toArray)) w = .ok (.bool true) w := by
  unfold quOr
  split
  · exact eqCx_self _ _ _ _ _ _ _ _ w
  · have := eqCx_self 0 0 0 0 0 0 0 0 w
    rw [cxV0] at this
    exact this
theorem chosenE_len (g : Int → Bool) : (chosenL g 1 6).length ≤ 1000000000 := Nat.le_trans (chosenL_le g 1 6) (by omega)

set_option maxRecDepth 100000 in
set_option maxHeartbeats 40000000 in
theorem spc_law (l : List Int) (n : Int) (w : World) (hl : l.length = 12) (hw : Powers w) (hp : Pows w) :
    Calls Tryz.prog 6 #[.agg (ia l), .int .i64 n] w fun e w' => e = .returned (.bool true) ∧ Below w.heap.size w w' := by
  have HL := Lib.hid hl
  have TS := Lib.hid (fun W hW => SpectrumH_any l W hl hW)
  have TQ := Lib.hid (fun W hW => Quarters_any l W hl hW)
  have TE := Lib.hid (fun W hW => EliminatedH_any l W hl hW)
  have TD := Lib.hid (fun W => Delayed_any l n W hl)
  have R0 := Lib.hid (fun W => CheckPatternR_any l W hl)
  have R1 := Lib.hid (fun W => CheckRange_any n (-100000) 100000 W)
  have F1 := Lib.hid (fun (u : Value) (W : World) (h : Ints W u [patE l, withinE n (-100000) 100000]) => firstL_any u _ W (by simp) h)
  rw [show firstE [patE l, withinE n (-100000) 100000] = delE l n from rfl] at F1
  have R2 := Lib.hid (fun (hb : patE l = 0) W => SpectrumR_any l W hl hb)
  have R3 := Lib.hid (fun (hb : patE l = 0) W => EliminatedRO_any l W hl hb)
  have hd : delE l n = 0 → patE l = 0 ∧ -100000 ≤ n ∧ n ≤ 100000 := fun h => by
    obtain ⟨h0, h1⟩ := firstE_cons_ok h
    obtain ⟨h2, _⟩ := firstE_cons_ok h1
    exact ⟨h0, withinE_zero h2⟩
  have R4 := Lib.hid (fun (hb : delE l n = 0) W => DelayedR_any l n W hl (hd hb).2)
  obtain ⟨S, hS⟩ : ∃ S, S = arOr (patE l) (specL l) := ⟨_, rfl⟩
  obtain ⟨D, hD⟩ : ∃ D, D = arOr (delE l n) (delL l n) := ⟨_, rfl⟩
  obtain ⟨RL, hRL⟩ : ∃ L, L = chosenL (fun h => cyIs0 (orderC l h)) 1 6 := ⟨_, rfl⟩
  obtain ⟨L1, hL1⟩ : ∃ L, L = lsOr (patE l) RL := ⟨_, rfl⟩
  obtain ⟨Q, hQ⟩ : ∃ Q, Q = quOr (patE l) l := ⟨_, rfl⟩
  have hSl : S.length = 48 := by
    rw [hS, arOr]; split
    · exact upto_length _ _
    · rw [List.length_replicate]; exact upto_length _ _
  have hDl : D.length = 12 := by
    rw [hD, arOr]; split
    · exact upto_length _ _
    · rw [List.length_replicate]; exact upto_length _ _
  have hQl : Q.length = 4 := by rw [hQ, quOr]; split <;> rfl
  have hQ1 : Q.toArray.all (·.oneCell') = true := by
    rw [hQ, quOr]
    split
    · exact qF_one l 4
    · rw [cx0_qF l]; exact qF_one l 0
  have hrl : L1.length ≤ 1000000000 := by
    rw [hL1, lsOr]
    split
    · rw [hRL]; exact chosenE_len _
    · simp
  have heqS := fun W => eqSp_self S hSl W
  have heqQ := fun W => eqQ_self (patE l) l W
  have heqD := fun W => eqInts 89 12 Tryz.undA12 D D hDl hDl W
  rw [← hQ] at heqQ
  simp only [beq_self_eq_true] at heqD
  rw [← hS] at TS
  rw [← hD] at TD
  rw [← hRL] at TE R3
  rw [← hL1] at TE
  rw [← hQ] at TQ
  have HS0 := Lib.hid (fun (h : patE l = 0) => show S = specL l by rw [hS, arOr, if_pos h])
  have HS1 := Lib.hid (fun (h : patE l ≠ 0) => show S = List.replicate 48 0 by rw [hS, arOr, if_neg h]; congr 1)
  have HD0 := Lib.hid (fun (h : delE l n = 0) => show D = delL l n by rw [hD, arOr, if_pos h])
  have HD1 := Lib.hid (fun (h : delE l n ≠ 0) => show D = List.replicate 12 0 by rw [hD, arOr, if_neg h]; congr 1)
  have HL0 := Lib.hid (fun (h : patE l = 0) => show L1 = RL by rw [hL1, lsOr, if_pos h])
  have HL9 := Lib.hid (fun (h : patE l ≠ 0) => show L1 = [] by rw [hL1, lsOr, if_neg h])
  have HQ0 := Lib.hid (fun (h : patE l = 0) => show Q = upto (qF l 4) 4 by rw [hQ, quOr, if_pos h]; rfl)
  have HQ1 := Lib.hid (fun (h : patE l ≠ 0) => show Q = cx0 by rw [hQ, quOr, if_neg h])
  have HHS := Lib.hid heqS
  have HHQ := Lib.hid heqQ
  have HHD := Lib.hid heqD
  have HRL := Lib.hid hrl
  clear hS hD hRL hL1 hQ hd heqS heqQ heqD hrl
  generalize patE l = bad at *
  generalize delE l n = four at *
  generalize withinE n (-100000) 100000 = en at R1 F1
  go_enter Tryz.func6, Tryz.ntmps6
  go_upto_region 1 with fail
  obtain ⟨W1, hW1⟩ : ∃ v, v = World.alloc w (Obj.cells (ia l) 89) := ⟨_, rfl⟩
  have kW1 : Below w.heap.size w W1 := by rw [hW1]; exact below_new _ _
  have iW1 : BlkI W1 (w.heap.size) 89 l := by rw [hW1]; exact BlkI.new _ _ _
  have sW1 : W1.heap.size = w.heap.size + 1 := by rw [hW1]; simp
  rw [← hW1]
  clear hW1
  have i2 := iW1
  have hB := kW1
  clear iW1 kW1 sW1
  have hld := load12 hl i2
  go_wp2_with (refine wpList_load rfl _ _ rfl hld ?_)
  refine (TS.out W1 (hw.carry hB)).mono ?_
  rintro e W2 ⟨rfl, hb⟩
  clear hld
  replace i2 := i2.carry hb
  replace hB := bthen hB hb
  clear hb TS
  go_upto_region 2 with (refine wpList_storeA rfl _ _ _ rfl W2.heap.size S (List.replicate 48 0) rfl rfl (BlkI.new W2 90 (List.replicate 48 0)) (by rw [hSl]; rfl) (by rw [hSl]; exact Tryz.infoSp) ?_)
  obtain ⟨W3, hW3⟩ : ∃ v, v = World.setRow (World.alloc W2 (Obj.cells #[.int .i64 0, .int .i64 0, .int .i64 0, .int .i64 0, .int .i64 0, .int .i64 0, .int .i64 0, .int .i64 0, .int .i64 0, .int .i64 0, .int .i64 0, .int .i64 0, .int .i64 0, .int .i64 0, .int .i64 0, .int .i64 0, .int .i64 0, .int .i64 0, .int .i64 0, .int .i64 0, .int .i64 0, .int .i64 0, .int .i64 0, .int .i64 0, .int .i64 0, .int .i64 0, .int .i64 0, .int .i64 0, .int .i64 0, .int .i64 0, .int .i64 0, .int .i64 0, .int .i64 0, .int .i64 0, .int .i64 0, .int .i64 0, .int .i64 0, .int .i64 0, .int .i64 0, .int .i64 0, .int .i64 0, .int .i64 0, .int .i64 0, .int .i64 0, .int .i64 0, .int .i64 0, .int .i64 0, .int .i64 0] 90)) W2.heap.size (ia (S)) := ⟨_, rfl⟩
  have kW3 : Below W2.heap.size W2 W3 := by rw [hW3]; exact zrow_below _ _ _ _
  have iW3 : BlkI W3 W2.heap.size 90 (S) := by rw [hW3]; exact zrow_blk W2 _ (List.replicate 48 0) _
  rw [← hW3]
  clear hW3
  replace i2 := i2.carry kW3
  replace hB := bthen hB kW3
  have i5 := iW3
  obtain ⟨G5, hG⟩ : ∃ G, G = W2.heap.size := ⟨_, rfl⟩
  rw [← hG] at i5 ⊢
  clear iW3 kW3 hG
  have hld := load12 hl i2
  go_wp2_with (refine wpList_load rfl _ _ rfl hld ?_)
  refine (TQ.out W3 (hw.carry hB)).mono ?_
  rintro e W4 ⟨rfl, hb⟩
  clear hld
  replace i2 := i2.carry hb
  replace i5 := i5.carry hb
  replace hB := bthen hB hb
  clear hb TQ
  go_upto_region 3 with (refine wpList_storeV rfl _ _ _ rfl W4.heap.size Q cx0 rfl rfl (Blk.new W4 94 cx0) (by rw [hQl]; rfl) (by rw [hQl]; exact Tryz.infoCx) hQ1 ?_)
  obtain ⟨W5, hV⟩ : ∃ v, v = World.setRow (World.alloc W4 (Obj.cells #[.complex .f64 0 0, .complex .f64 0 0, .complex .f64 0 0, .complex .f64 0 0] 94)) W4.heap.size Q.toArray := ⟨_, rfl⟩
  have kW5 : Below W4.heap.size W4 W5 := by rw [hV]; exact below_rowA (below_new W4 _) (Nat.le_refl _) _
  have i7 : Blk W5 W4.heap.size 94 Q := by rw [hV]; exact Blk.setRowV (Blk.new W4 94 cx0) Q
  rw [← hV]
  replace i2 := i2.carry kW5
  replace i5 := i5.carry kW5
  replace hB := bthen hB kW5
  obtain ⟨G7, hG⟩ : ∃ G, G = W4.heap.size := ⟨_, rfl⟩
  rw [← hG] at i7 ⊢
  clear kW5 hV hG
  have hld := load12 hl i2
  go_wp2_with (refine wpList_load rfl _ _ rfl hld ?_)
  refine (TE.out W5 (hw.carry hB)).mono ?_
  rintro e W6 ⟨⟨u9, rfl, hu9⟩, hb⟩
  clear hld
  replace i2 := i2.carry hb
  replace i5 := i5.carry hb
  replace i7 := i7.carry hb
  replace hB := bthen hB hb
  clear hb TE
  go_upto_region 4 with fail
  have hld := load12 hl i2
  go_wp2_with (refine wpList_load rfl _ _ rfl hld ?_)
  refine (TD.out W6).mono ?_
  rintro e W7 ⟨rfl, hb⟩
  clear hld
  replace i2 := i2.carry hb
  replace i5 := i5.carry hb
  replace i7 := i7.carry hb
  replace hu9 := hu9.carry hb
  replace hB := bthen hB hb
  clear hb TD
  go_upto_region 5 with (refine wpList_storeA rfl _ _ _ rfl W7.heap.size D (List.replicate 12 0) rfl rfl (BlkI.new W7 89 (List.replicate 12 0)) (by rw [hDl]; rfl) (by rw [hDl]; exact Tryz.infoA12) ?_)
  obtain ⟨W8, hW8⟩ : ∃ v, v = World.setRow (World.alloc W7 (Obj.cells #[.int .i64 0, .int .i64 0, .int .i64 0, .int .i64 0, .int .i64 0, .int .i64 0, .int .i64 0, .int .i64 0, .int .i64 0, .int .i64 0, .int .i64 0, .int .i64 0] 89)) W7.heap.size (ia (D)) := ⟨_, rfl⟩
  have kW8 : Below W7.heap.size W7 W8 := by rw [hW8]; exact zrow_below _ _ _ _
  have iW8 : BlkI W8 W7.heap.size 89 (D) := by rw [hW8]; exact zrow_blk W7 _ (List.replicate 12 0) _
  rw [← hW8]
  clear hW8
  replace i2 := i2.carry kW8
  replace i5 := i5.carry kW8
  replace i7 := i7.carry kW8
  replace hu9 := hu9.carry kW8
  replace hB := bthen hB kW8
  have i11 := iW8
  obtain ⟨G11, hG⟩ : ∃ G, G = W7.heap.size := ⟨_, rfl⟩
  rw [← hG] at i11 ⊢
  clear iW8 kW8 hG
  have hld := load12 hl i2
  go_wp2_with (refine wpList_load rfl _ _ rfl hld ?_)
  refine (R0.out W8).mono ?_
  rintro e W9 ⟨rfl, hb⟩
  clear hld
  replace i2 := i2.carry hb
  replace i5 := i5.carry hb
  replace i7 := i7.carry hb
  replace i11 := i11.carry hb
  replace hu9 := hu9.carry hb
  replace hB := bthen hB hb
  clear hb R0
  go_wp2_with fail
  refine (R1.out W9).mono ?_
  rintro e w' ⟨rfl, rfl⟩
  go_wp2_with fail
  obtain ⟨Wa, hWa⟩ : ∃ v, v = World.alloc W9 (Obj.cells #[.int .i64 bad, .int .i64 en] 3) := ⟨_, rfl⟩
  have kWa : Below W9.heap.size W9 Wa := by rw [hWa]; exact below_new _ _
  have iWa : Blk Wa (W9.heap.size) 3 [.int .i64 bad, .int .i64 en] := by rw [hWa]; exact Blk.new _ _ _
  have sWa : Wa.heap.size = W9.heap.size + 1 := by rw [hWa]; simp
  rw [← hWa]
  clear hWa
  refine (F1.out _ Wa (BlkI.ints (l := [bad, en]) iWa rfl)).mono ?_
  rintro e w' ⟨rfl, rfl⟩
  replace i2 := i2.carry kWa
  replace i5 := i5.carry kWa
  replace i7 := i7.carry kWa
  replace i11 := i11.carry kWa
  replace hu9 := hu9.carry kWa
  replace hB := bthen hB kWa
  clear kWa iWa sWa R1 F1
  go_upto_region 11 with fail
  obtain ⟨Wb, hWb⟩ : ∃ v, v = World.alloc Wa (Obj.cells #[.int .i64 0, .int .i64 0, .int .i64 0, .int .i64 0, .int .i64 0, .int .i64 0, .int .i64 0, .int .i64 0, .int .i64 0, .int .i64 0, .int .i64 0, .int .i64 0, .int .i64 0, .int .i64 0, .int .i64 0, .int .i64 0, .int .i64 0, .int .i64 0, .int .i64 0, .int .i64 0, .int .i64 0, .int .i64 0, .int .i64 0, .int .i64 0, .int .i64 0, .int .i64 0, .int .i64 0, .int .i64 0, .int .i64 0, .int .i64 0, .int .i64 0, .int .i64 0, .int .i64 0, .int .i64 0, .int .i64 0, .int .i64 0, .int .i64 0, .int .i64 0, .int .i64 0, .int .i64 0, .int .i64 0, .int .i64 0, .int .i64 0, .int .i64 0, .int .i64 0, .int .i64 0, .int .i64 0, .int .i64 0] 101) := ⟨_, rfl⟩
  have kWb : Below Wa.heap.size Wa Wb := by rw [hWb]; exact below_new _ _
  have iWb : BlkI Wb (Wa.heap.size) 101 (List.replicate 48 0) := by rw [hWb]; exact BlkI.new Wa 101 (List.replicate 48 0)
  have sWb : Wb.heap.size = Wa.heap.size + 1 := by rw [hWb]; simp
  rw [← hWb]
  clear hWb
  obtain ⟨Wc, hWc⟩ : ∃ v, v = World.alloc Wb (Obj.cells #[.complex .f64 0 0, .complex .f64 0 0, .complex .f64 0 0, .complex .f64 0 0] 94) := ⟨_, rfl⟩
  have kWc : Below Wb.heap.size Wb Wc := by rw [hWc]; exact below_new _ _
  have iWc : Blk Wc (Wa.heap.size + 1) 94 [.complex .f64 0 0, .complex .f64 0 0, .complex .f64 0 0, .complex .f64 0 0] := by rw [hWc, ← sWb]; exact Blk.new _ _ _
  have sWc : Wc.heap.size = Wa.heap.size + 1 + 1 := by rw [hWc]; simp [sWb]
  rw [← hWc]
  clear hWc
  obtain ⟨Wd, hWd⟩ : ∃ v, v = World.alloc Wc (Obj.cells #[.int .i64 0, .int .i64 0, .int .i64 0, .int .i64 0, .int .i64 0, .int .i64 0, .int .i64 0, .int .i64 0, .int .i64 0, .int .i64 0, .int .i64 0, .int .i64 0] 89) := ⟨_, rfl⟩
  have kWd : Below Wc.heap.size Wc Wd := by rw [hWd]; exact below_new _ _
  have iWd : BlkI Wd (Wa.heap.size + 1 + 1) 89 (List.replicate 12 0) := by rw [hWd, ← sWc]; exact BlkI.new Wc 89 (List.replicate 12 0)
  have sWd : Wd.heap.size = Wa.heap.size + 1 + 1 + 1 := by rw [hWd]; simp [sWc]
  rw [← hWd]
  clear hWd
  have i15 := (iWb.carry kWc).carry kWd
  have i16 : Blk Wd (Wa.heap.size + 1) 94 cx0 := iWc.carry kWd
  have i18 := iWd
  have hA := bthen kWb (bthen kWc kWd)
  obtain ⟨G15, hG15⟩ : ∃ G, G = Wa.heap.size := ⟨_, rfl⟩
  obtain ⟨G16, hG16⟩ : ∃ G, G = Wa.heap.size + 1 := ⟨_, rfl⟩
  obtain ⟨G18, hG18⟩ : ∃ G, G = Wa.heap.size + 1 + 1 := ⟨_, rfl⟩
  obtain ⟨B17, hB17⟩ : ∃ B, B = Wa.heap.size + 1 + 1 + 1 := ⟨_, rfl⟩
  rw [← hG18] at i18 ⊢
  rw [← hG16] at i16 ⊢
  rw [← hG15] at i15 ⊢
  have h15 : Wa.heap.size ≤ G15 := by omega
  have h16 : Wa.heap.size ≤ G16 := by omega
  have h18 : Wa.heap.size ≤ G18 := by omega
  have n1 : G15 ≠ G16 := by omega
  have n2 : G15 ≠ G18 := by omega
  have n3 : G16 ≠ G18 := by omega
  have b15 : G15 < B17 := by omega
  have b16 : G16 < B17 := by omega
  have b18 : G18 < B17 := by omega
  have hBd : B17 ≤ G18 + 1 := by omega
  have HI2 := Lib.hid i2
  have HI5 := Lib.hid i5
  have HI7 := Lib.hid i7
  have HI11 := Lib.hid i11
  have HU9 := Lib.hid hu9
  have HBA := Lib.hid hB
  have HF := Lib.hid (And.intro (And.intro h15 (And.intro h16 h18)) (And.intro (And.intro n1 (And.intro n2 n3)) (And.intro (And.intro b15 (And.intro b16 b18)) hBd)))
  clear iWb iWc iWd kWb kWc kWd sWb sWc sWd i2 i5 i7 i11 hu9 hB hG15 hG16 hG18 hB17 h15 h16 h18 n1 n2 n3 b15 b16 b18 hBd
  go_upto_if 50 with fail
  go_cut [17] from 51 to 74 (fun u17 wn => OwnR wn B17 u17 L1 ∧ BlkI wn G15 101 S ∧ Blk wn G16 94 Q ∧ BlkI wn G18 89 (List.replicate 12 0) ∧ Below Wa.heap.size Wa wn)
  case first =>
    by_cases hb0 : bad = 0
    · subst hb0
      have hSe : S = specL l := HS0.out rfl
      have hLe : L1 = RL := HL0.out rfl
      have hQe : Q = upto (qF l 4) 4 := HQ0.out rfl
      have R2b := Lib.hid (R2.out (by trivial))
      have R3b := Lib.hid (R3.out (by trivial))
      rw [← hSe] at R2b
      rw [← hLe] at R3b
      have HSE := Lib.hid hSe
      have HQE := Lib.hid hQe
      clear R2 R3 hSe hLe hQe HS0 HS1 HL0 HL9 HQ0 HQ1
      go_upto_region 12 with fail
      go_cut [17] from 51 to 55 (fun u17 wn => OwnR wn B17 u17 L1 ∧ BlkI wn G15 101 S ∧ Blk wn G16 94 cx0 ∧ BlkI wn G18 89 (List.replicate 12 0) ∧ Below Wa.heap.size Wa wn)
      case first =>
        have i2 := HI2.out.carry hA
        obtain ⟨⟨h15, h16, h18⟩, ⟨n1, n2, n3⟩, ⟨b15, b16, b18⟩, hBd⟩ := HF.out
        refine wp_region_held_drew (S := (fun W => BlkI W w.heap.size 89 l)) (by kernel_rfl) i2 (fun hHeld0 => ?_)
        obtain ⟨wzd, hwz⟩ : ∃ v, v = Wd.drew := ⟨_, rfl⟩
        rw [← hwz] at hHeld0 ⊢
        have hbzd : Below Wa.heap.size Wa wzd := by rw [hwz]; exact hA.drew
        have hlzd : Below Wd.heap.size Wd wzd := by rw [hwz]; exact (Below.refl _ _).drew
        have i2 := i2.carry hlzd
        have i15 := i15.carry hlzd
        have i16 := i16.carry hlzd
        have i18 := i18.carry hlzd
        clear hwz hlzd
        refine wpAnyH_take (i := 0) (oi := { dst := some 51, op := Op.load 89 (Operand.tmp 2), type := 89, pos := "law.go:145", after := #[], guard := none }) (v := ?_) rfl (by kernel_rfl) (by kernel_rfl) (by kernel_rfl) (fun _ _ _ h => h) (Or.inl ⟨by rfl, ?_⟩) (by assumption) ?_
        rotate_left
        · (intro w hSw; (try dsimp only at hSw); refine (exec_load rfl (load12 HL.out hSw)).trans ?_); (try with_reducible rfl)
        try simp only [Act.put, List.setIfInBounds_toArray, List.set_cons_zero, List.set_cons_succ]
        refine wpAnyH_take (i := 2) (oi := { dst := some 53, op := Op.load 89 (Operand.tmp 2), type := 89, pos := "law.go:145", after := #[], guard := none }) (v := ?_) rfl (by kernel_rfl) (by kernel_rfl) (by kernel_rfl) (fun _ _ _ h => h) (Or.inl ⟨by rfl, ?_⟩) (by assumption) ?_
        rotate_left
        · (intro w hSw; (try dsimp only at hSw); refine (exec_load rfl (load12 HL.out hSw)).trans ?_); (try with_reducible rfl)
        try simp only [Act.put, List.setIfInBounds_toArray, List.set_cons_zero, List.set_cons_succ]
        refine wpAnyH_ready (rs := [1]) (by kernel_rfl) (by simp) ?_
        refine (AllReadyH.cons (o := { dst := some 52, op := Op.call { callee := Callee.value (Operand.func 50), args := #[Operand.tmp 51], argTypes := #[89] }, type := 101, pos := "law.go:145", after := #[{ on := 0, ground := Ground.data }], guard := none }) rfl (fun K hK => ?_) AllReadyH.nil)
        go_simp
        refine (R2b.out wzd).mono ?_
        rintro e wz1 ⟨rfl, hl⟩
        (try go_wp2_with fail)
        have hbz1 := bthen hbzd hl
        have i2 := i2.carry hl
        have i15 := i15.carry hl
        have i16 := i16.carry hl
        have i18 := i18.carry hl
        clear hl
        refine hK.out _ _ i2 (fun hHeld1 => ?_)
        clear hK K hHeld0
        try simp only [Act.put, List.setIfInBounds_toArray, List.set_cons_zero, List.set_cons_succ]
        refine wpAnyH_ready (rs := [3]) (by kernel_rfl) (by simp) ?_
        refine (AllReadyH.cons (o := { dst := some 54, op := Op.call { callee := Callee.value (Operand.func 51), args := #[Operand.tmp 53], argTypes := #[89] }, type := 72, pos := "law.go:145", after := #[{ on := 2, ground := Ground.data }, { on := 1, ground := Ground.chain }], guard := none }) rfl (fun K hK => ?_) AllReadyH.nil)
        go_simp
        refine (R3b.out wz1).mono ?_
        rintro e wz3 ⟨⟨q17, rfl, hq17⟩, hl⟩
        replace hq17 : OwnR wz3 B17 q17 L1 := own_mono hq17 (Nat.le_trans hBd (Blk.lt i18))
        (try go_wp2_with fail)
        have hbz3 := bthen hbz1 hl
        have i2 := i2.carry hl
        have i15 := i15.carry hl
        have i16 := i16.carry hl
        have i18 := i18.carry hl
        clear hl
        refine hK.out _ _ i2 (fun hHeld2 => ?_)
        clear hK K hHeld1
        try simp only [Act.put, List.setIfInBounds_toArray, List.set_cons_zero, List.set_cons_succ]
        refine wpAnyH_ready (rs := [4]) (by kernel_rfl) (by simp) ?_
        refine (AllReadyH.cons (o := { dst := none, op := Op.store 101 (Operand.tmp 15) (Operand.tmp 52), type := 0, pos := "law.go:145", after := #[{ on := 1, ground := Ground.data }, { on := 3, ground := Ground.chain }, { on := 0, ground := Ground.phase }, { on := 1, ground := Ground.phase }, { on := 2, ground := Ground.textOnly Departure.lateStores }, { on := 3, ground := Ground.textOnly Departure.lateStoresUnsure }], guard := none }) rfl (fun K hK => ?_) AllReadyH.nil)
        refine wp_storeA _ _ _ rfl G15 S (List.replicate 48 0) rfl rfl i15 (by rw [hSl]; rfl) (by rw [hSl]; exact Tryz.infoSpR) ?_
        obtain ⟨wz4, hwz⟩ : ∃ v, v = World.setRow wz3 G15 (ia S) := ⟨_, rfl⟩
        rw [← hwz]
        have hbz4 : Below Wa.heap.size Wa wz4 := by rw [hwz]; exact below_rowA hbz3 h15 _
        replace i15 := BlkI.setRowA i15 S
        rw [← hwz] at i15
        replace i16 := Blk.setRow i16 (Ne.symm n1) (ia S)
        rw [← hwz] at i16
        replace i18 : BlkI wz4 G18 89 (List.replicate 12 0) := by rw [hwz]; exact Blk.setRow i18 (Ne.symm n2) (ia S)
        replace hq17 : OwnR wz4 B17 q17 L1 := by rw [hwz]; exact own_setRow hq17 b15
        clear hwz
        have i2 := HI2.out.carry hbz4
        refine hK.out _ _ i2 (fun hHeld3 => ?_)
        clear hK K hHeld2
        try simp only [Act.put, List.setIfInBounds_toArray, List.set_cons_zero, List.set_cons_succ]
        refine wpAnyH_take (i := 5) (oi := { dst := some 17, op := Op.assign (Operand.tmp 54), type := 72, pos := "law.go:145", after := #[{ on := 3, ground := Ground.data }, { on := 4, ground := Ground.chain }, { on := 0, ground := Ground.phase }, { on := 1, ground := Ground.phase }, { on := 2, ground := Ground.phase }, { on := 3, ground := Ground.phase }, { on := 4, ground := Ground.phase }], guard := none }) (v := ?_) rfl (by kernel_rfl) (by kernel_rfl) (by kernel_rfl) (fun _ _ _ h => h) (Or.inl ⟨by rfl, ?_⟩) (by assumption) ?_
        rotate_left
        · (intro w hSw; (try dsimp only at hSw); go_simp); (try with_reducible rfl)
        try simp only [Act.put, List.setIfInBounds_toArray, List.set_cons_zero, List.set_cons_succ]
        refine wpAnyH_done (by kernel_rfl) ?_ _
        clear hHeld3
        go_wp2_with fail
        go_meet
        exact ⟨hq17, i15, i16, i18, hbz4⟩
      case rest =>
        obtain ⟨h17, i15, i16, i18, hA⟩ := hcut
        have i16 : Blk wc G16 94 (upto (qF l 0) 4) := i16
        go_wp2_with fail
        go_loopw [55] (fun i wr => ∃ k : Nat, k ≤ 4 ∧ i = .int .i64 k ∧ OwnR wr B17 u17 L1 ∧ BlkI wr G15 101 S ∧ Blk wr G16 94 (upto (qF l k) 4) ∧ BlkI wr G18 89 (List.replicate 12 0) ∧ Below Wa.heap.size Wa wr) (fun i _ => 4 - (intOf i).toNat)
        case atStart => exact ⟨0, by omega, rfl, h17, i15, i16, i18, hA⟩
        case round =>
          clear h17 i15 i16 i18 hA
          obtain ⟨k, hk, rfl, h17, i15, i16, i18, hA⟩ := hrel
          obtain ⟨⟨h15, h16, h18⟩, ⟨n1, n2, n3⟩, ⟨b15, b16, b18⟩, hBd⟩ := HF.out
          by_cases hlt : k < 4
          · have d1 : (k : Int) < 4 := by omega
            obtain ⟨m, hm⟩ : ∃ m : Nat, m = 3 * k := ⟨_, rfl⟩
            have hset := qF_set l k m hlt hm
            have c0 := BlkI.cell (l := S) i15 (j := m * 4) (by omega)
            have c1 := BlkI.cell (l := S) i15 (j := m * 4 + 1) (by omega)
            have c2 := BlkI.cell (l := S) i15 (j := m * 4 + 2) (by omega)
            have c3 := BlkI.cell (l := S) i15 (j := m * 4 + 3) (by omega)
            rw [HSE.out] at c0 c1 c2 c3
            have q0 := specL_get l m 0 (by omega) (by omega)
            have q1 := specL_get l m 1 (by omega) (by omega)
            have q2 := specL_get l m 2 (by omega) (by omega)
            have q3 := specL_get l m 3 (by omega) (by omega)
            rw [Nat.add_zero] at q0
            rw [q0] at c0
            rw [q1] at c1
            rw [q2] at c2
            rw [q3] at c3
            generalize orderC l (m : Int) = o at c0 c1 c2 c3 hset
            obtain ⟨o0, o1, o2, o3⟩ := o
            simp only [cyAt] at c0 c1 c2 c3
            simp only [cxV] at hset
            have e1 : IntKind.i64.wrap (3 * (k : Int)) = (m : Int) := (IntWalk.i64_in _ (by omega)).trans (by omega)
            have d2 : (m : Int) < 12 := by omega
            have HSET := Lib.hid hset
            clear hset q0 q1 q2 q3 hm
            obtain ⟨L, hL⟩ : ∃ L, L = upto (qF l k) 4 := ⟨_, rfl⟩
            have hLl : L.length = 4 := by rw [hL]; rfl
            rw [← hL] at i16 HSET
            clear hL
            obtain ⟨v0, hv0⟩ : ∃ v, L[k]? = some v := ⟨_, List.getElem?_eq_getElem (by omega)⟩
            go_upto_region 17 with fail
            obtain ⟨W6, hW6⟩ : ∃ v, v = World.alloc wr (Obj.cells #[.int .i64 o0, .int .i64 o1, .int .i64 o2, .int .i64 o3] 25) := ⟨_, rfl⟩
            have kW6 : Below wr.heap.size wr W6 := by rw [hW6]; exact below_new _ _
            have iW6 : Blk W6 (wr.heap.size) 25 [.int .i64 o0, .int .i64 o1, .int .i64 o2, .int .i64 o3] := by rw [hW6]; exact Blk.new _ _ _
            have sW6 : W6.heap.size = wr.heap.size + 1 := by rw [hW6]; simp
            rw [← hW6]
            clear hW6
            replace i15 := i15.carry kW6
            replace i16 := i16.carry kW6
            replace i18 := i18.carry kW6
            replace h17 := h17.carry kW6
            replace hA := bthen hA kW6
            have x0 := iW6.cell (j := 0) (v := .int .i64 o0) rfl
            have x2 := iW6.cell (j := 2) (v := .int .i64 o2) rfl
            have c3 := i16.cell (j := k) hv0
            have f3 := i16.frozen k
            clear iW6 kW6 sW6 c0 c1 c2
            go_wp2_with fail
            have i5 := Blk.set i16 k (cxV o0 o2)
            unfold cxV at i5
            rw [HSET.out] at i5
            go_roundw
            case rel => exact ⟨k + 1, by omega, by go_num, own_setCellR h17 b16, i15.other n1 _, i5, i18.other (Ne.symm n3) _, hA.setCell h16 _⟩
            case measure => simp [intOf]; omega
          · obtain rfl : k = 4 := by omega
            rw [← HQE.out] at i16
            go_wp2_with fail
            go_meet
            exact ⟨h17, i15, i16, i18, hA⟩
    · have z : (bad == 0) = false := by rw [beq_eq_false_iff_ne]; exact hb0
      have hSe := HS1.out hb0
      have hLe := HL9.out hb0
      have hQe := HQ1.out hb0
      have HR := Lib.hid (show OwnR Wd B17 (.slice none 0 0) L1 ∧ BlkI Wd G15 101 S ∧ Blk Wd G16 94 Q ∧ BlkI Wd G18 89 (List.replicate 12 0) ∧ Below Wa.heap.size Wa Wd by
        rw [hSe, hLe, hQe]
        exact ⟨World.ownsRow_nil _ _ _ _, i15, i16, i18, hA⟩)
      clear hSe hLe hQe
      go_wp2_with fail
      go_meet
      exact HR.out
  case rest =>
    obtain ⟨h17, i15, i16, i18, hA⟩ := hcut
    clear R2 R3 HS0 HS1 HL0 HL9 HQ0 HQ1
    go_upto_if 75 with fail
    go_cut [14] from 76 to 79 (fun u14 wn => u14 = .int .i64 four ∧ OwnR wn B17 u17 L1 ∧ BlkI wn G15 101 S ∧ Blk wn G16 94 Q ∧ BlkI wn G18 89 D ∧ Below Wa.heap.size Wa wn)
    case first =>
      obtain ⟨⟨h15, h16, h18⟩, ⟨n1, n2, n3⟩, ⟨b15, b16, b18⟩, hBd⟩ := HF.out
      by_cases hf0 : four = 0
      · subst hf0
        have hDe : D = delL l n := HD0.out rfl
        have R4b := Lib.hid (R4.out (by trivial))
        rw [← hDe] at R4b
        clear R4 hDe HD0 HD1
        have i2 := HI2.out.carry hA
        have hld := load12 HL.out i2
        go_wp2_with (refine wpList_load rfl _ _ rfl hld ?_)
        refine (R4b.out wc).mono ?_
        rintro e Wf ⟨rfl, hb⟩
        clear hld i2
        replace i15 := i15.carry hb
        replace i16 := i16.carry hb
        replace i18 := i18.carry hb
        replace h17 := h17.carry hb
        replace hA := bthen hA hb
        clear hb
        go_wp2_with (refine wpList_storeA rfl _ _ _ rfl G18 D (List.replicate 12 0) rfl rfl i18 (by rw [hDl]; rfl) (by rw [hDl]; exact Tryz.infoA12) ?_)
        go_meet
        exact ⟨rfl, own_setRow h17 b18, Blk.setRow i15 n2 _, Blk.setRow i16 n3 _, BlkI.setRowA i18 D, below_rowA hA h18 _⟩
      · have z : (four == 0) = false := by rw [beq_eq_false_iff_ne]; exact hf0
        have hDe := HD1.out hf0
        have HR := Lib.hid (show BlkI wc G18 89 D by rw [hDe]; exact i18)
        clear hDe
        go_wp2_with fail
        go_meet
        exact ⟨rfl, h17, i15, i16, HR.out, hA⟩
    case rest =>
      obtain ⟨rfl, h17, i15, i16, i18, hA⟩ := hcut
      have hB := bthen HBA.out hA
      have i5 := HI5.out.carry hA
      have i7 := HI7.out.carry hA
      have i11 := HI11.out.carry hA
      have hu9 := HU9.out.carry hA
      have hw' := hw.carry hB
      have hp' := hp.carry hB
      have heqS := HHS.out
      have heqQ := HHQ.out
      have heqD := HHD.out
      have SI := Lib.hid (fun W ha hb => by
        have := SameInts_any u9 u17 L1 L1 W ha hb HRL.out
        rw [decide_eq_true rfl] at this
        exact this)
      clear R4 HD0 HD1
      go_upto_region 21 with fail
      refine wp_region_E 99 (by kernel_rfl) ?_
      obtain ⟨wz, hwz⟩ : ∃ v, v = wc.drew := ⟨_, rfl⟩
      rw [← hwz]
      have hlz : Below wc.heap.size wc wz := by rw [hwz]; exact (Below.refl _ _).drew
      have hbz := bthen hB hlz
      have i5 := i5.carry hlz
      have i7 := i7.carry hlz
      have i11 := i11.carry hlz
      have i15 := i15.carry hlz
      have i16 := i16.carry hlz
      have i18 := i18.carry hlz
      have hu9 := hu9.carry hlz
      have h17 := h17.carry hlz
      have hw' := hw'.carry hlz
      have hp' := hp'.carry hlz
      clear hwz hlz
      refine wpAnyE_take (i := 0) (oi := { dst := some 79, op := Op.load 90 (Operand.tmp 5), type := 90, pos := "law.go:154", after := #[], guard := none }) (v := ?_) rfl (by kernel_rfl) (by kernel_rfl) (by kernel_rfl) (by kernel_rfl) (fun _ _ _ h => h) (Or.inl ⟨by rfl, ?_⟩) ?_
      rotate_left
      · (intro w hE; (try dsimp only); refine (exec_load rfl (load48 hSl (i5.carry hE))).trans ?_); (try with_reducible rfl)
      try simp only [Act.put, List.setIfInBounds_toArray, List.set_cons_zero, List.set_cons_succ]
      refine wpAnyE_take (i := 2) (oi := { dst := some 81, op := Op.load 101 (Operand.tmp 15), type := 101, pos := "law.go:154", after := #[], guard := none }) (v := ?_) rfl (by kernel_rfl) (by kernel_rfl) (by kernel_rfl) (by kernel_rfl) (fun _ _ _ h => h) (Or.inl ⟨by rfl, ?_⟩) ?_
      rotate_left
      · (intro w hE; (try dsimp only); refine (exec_load rfl (load48R hSl (i15.carry hE))).trans ?_); (try with_reducible rfl)
      try simp only [Act.put, List.setIfInBounds_toArray, List.set_cons_zero, List.set_cons_succ]
      refine wpAnyE_call (i := 1) (oi := { dst := some 80, op := Op.call { callee := Callee.value (Operand.func 53), args := #[Operand.tmp 79], argTypes := #[90] }, type := 101, pos := "law.go:154", after := #[{ on := 0, ground := Ground.data }], guard := none }) (fun w hE => back_any S w hSl) rfl (by kernel_rfl) (by kernel_rfl) (by kernel_rfl) (by kernel_rfl) (fun _ _ _ h => h) (by rfl) (fun w hE => by (try dsimp only); go_simp) ?_
      try simp only [Act.put, List.setIfInBounds_toArray, List.set_cons_zero, List.set_cons_succ]
      refine wpAnyE_take (i := 3) (oi := { dst := some 82, op := Op.binOp BinOp.eql 101 (Operand.tmp 80) (Operand.tmp 81) 101, type := 4, pos := "law.go:154", after := #[{ on := 1, ground := Ground.data }, { on := 2, ground := Ground.data }], guard := none }) (v := ?_) rfl (by kernel_rfl) (by kernel_rfl) (by kernel_rfl) (by kernel_rfl) (fun _ _ _ h => h) (Or.inl ⟨by rfl, ?_⟩) ?_
      rotate_left
      · (intro w hE; (try dsimp only); go_simp); (try with_reducible rfl)
      try simp only [Act.put, List.setIfInBounds_toArray, List.set_cons_zero, List.set_cons_succ]
      refine wpAnyE_take (i := 4) (oi := { dst := some 83, op := Op.move (Operand.tmp 82), type := 4, pos := "law.go:154", after := #[{ on := 3, ground := Ground.data }, { on := 1, ground := Ground.chain }], guard := none }) (v := ?_) rfl (by kernel_rfl) (by kernel_rfl) (by kernel_rfl) (by kernel_rfl) (fun _ _ _ h => h) (Or.inl ⟨by rfl, ?_⟩) ?_
      rotate_left
      · (intro w hE; (try dsimp only); go_simp); (try with_reducible rfl)
      try simp only [Act.put, List.setIfInBounds_toArray, List.set_cons_zero, List.set_cons_succ]
      refine wpAnyE_take (i := 5) (oi := { dst := some 84, op := Op.move (Operand.tmp 6), type := 27, pos := "law.go:154", after := #[{ on := 4, ground := Ground.guard }], guard := some (4, true) }) (v := ?_) rfl (by kernel_rfl) (by kernel_rfl) (by kernel_rfl) (by kernel_rfl) (fun _ _ _ h => h) (Or.inl ⟨by rfl, ?_⟩) ?_
      rotate_left
      · (intro w hE; (try dsimp only); go_simp); (try with_reducible rfl)
      try simp only [Act.put, List.setIfInBounds_toArray, List.set_cons_zero, List.set_cons_succ]
      refine wpAnyE_take (i := 6) (oi := { dst := some 85, op := Op.move (Operand.tmp 13), type := 3, pos := "law.go:154", after := #[{ on := 4, ground := Ground.guard }], guard := some (4, true) }) (v := ?_) rfl (by kernel_rfl) (by kernel_rfl) (by kernel_rfl) (by kernel_rfl) (fun _ _ _ h => h) (Or.inl ⟨by rfl, ?_⟩) ?_
      rotate_left
      · (intro w hE; (try dsimp only); go_simp); (try with_reducible rfl)
      try simp only [Act.put, List.setIfInBounds_toArray, List.set_cons_zero, List.set_cons_succ]
      refine wpAnyE_take (i := 7) (oi := { dst := some 86, op := Op.binOp BinOp.eql 3 (Operand.tmp 84) (Operand.tmp 85) 3, type := 4, pos := "law.go:154", after := #[{ on := 5, ground := Ground.data }, { on := 6, ground := Ground.data }, { on := 4, ground := Ground.guard }], guard := some (4, true) }) (v := ?_) rfl (by kernel_rfl) (by kernel_rfl) (by kernel_rfl) (by kernel_rfl) (fun _ _ _ h => h) (Or.inl ⟨by rfl, ?_⟩) ?_
      rotate_left
      · (intro w hE; (try dsimp only); go_simp); (try with_reducible rfl)
      try simp only [Act.put, List.setIfInBounds_toArray, List.set_cons_zero, List.set_cons_succ]
      refine wpAnyE_take (i := 8) (oi := { dst := some 87, op := Op.pick (Operand.tmp 83) (Operand.tmp 86) (Operand.const (Value.bool false)), type := 4, pos := "law.go:154", after := #[{ on := 4, ground := Ground.data }, { on := 7, ground := Ground.data }], guard := none }) (v := ?_) rfl (by kernel_rfl) (by kernel_rfl) (by kernel_rfl) (by kernel_rfl) (fun _ _ _ h => h) (Or.inl ⟨by rfl, ?_⟩) ?_
      rotate_left
      · (intro w hE; (try dsimp only); go_simp); (try with_reducible rfl)
      try simp only [Act.put, List.setIfInBounds_toArray, List.set_cons_zero, List.set_cons_succ]
      refine wpAnyE_take (i := 9) (oi := { dst := some 88, op := Op.move (Operand.tmp 87), type := 4, pos := "law.go:154", after := #[{ on := 8, ground := Ground.data }, { on := 4, ground := Ground.chain }], guard := none }) (v := ?_) rfl (by kernel_rfl) (by kernel_rfl) (by kernel_rfl) (by kernel_rfl) (fun _ _ _ h => h) (Or.inl ⟨by rfl, ?_⟩) ?_
      rotate_left
      · (intro w hE; (try dsimp only); go_simp); (try with_reducible rfl)
      try simp only [Act.put, List.setIfInBounds_toArray, List.set_cons_zero, List.set_cons_succ]
      refine wpAnyE_take (i := 10) (oi := { dst := some 89, op := Op.load 94 (Operand.tmp 7), type := 94, pos := "law.go:154", after := #[{ on := 9, ground := Ground.guard }], guard := some (9, true) }) (v := ?_) rfl (by kernel_rfl) (by kernel_rfl) (by kernel_rfl) (by kernel_rfl) (fun _ _ _ h => h) (Or.inl ⟨by rfl, ?_⟩) ?_
      rotate_left
      · (intro w hE; (try dsimp only); refine (exec_load rfl (loadV Tryz.undCx (by rw [hQl]; exact Tryz.infoCx) (i7.carry hE))).trans ?_); (try with_reducible rfl)
      try simp only [Act.put, List.setIfInBounds_toArray, List.set_cons_zero, List.set_cons_succ]
      refine wpAnyE_take (i := 11) (oi := { dst := some 90, op := Op.load 94 (Operand.tmp 16), type := 94, pos := "law.go:154", after := #[{ on := 9, ground := Ground.guard }], guard := some (9, true) }) (v := ?_) rfl (by kernel_rfl) (by kernel_rfl) (by kernel_rfl) (by kernel_rfl) (fun _ _ _ h => h) (Or.inl ⟨by rfl, ?_⟩) ?_
      rotate_left
      · (intro w hE; (try dsimp only); refine (exec_load rfl (loadV Tryz.undCx (by rw [hQl]; exact Tryz.infoCx) (i16.carry hE))).trans ?_); (try with_reducible rfl)
      try simp only [Act.put, List.setIfInBounds_toArray, List.set_cons_zero, List.set_cons_succ]
      refine wpAnyE_take (i := 12) (oi := { dst := some 91, op := Op.binOp BinOp.eql 94 (Operand.tmp 89) (Operand.tmp 90) 94, type := 4, pos := "law.go:154", after := #[{ on := 10, ground := Ground.data }, { on := 11, ground := Ground.data }, { on := 9, ground := Ground.guard }], guard := some (9, true) }) (v := ?_) rfl (by kernel_rfl) (by kernel_rfl) (by kernel_rfl) (by kernel_rfl) (fun _ _ _ h => h) (Or.inl ⟨by rfl, ?_⟩) ?_
      rotate_left
      · (intro w hE; (try dsimp only); go_simp); (try with_reducible rfl)
      try simp only [Act.put, List.setIfInBounds_toArray, List.set_cons_zero, List.set_cons_succ]
      refine wpAnyE_take (i := 13) (oi := { dst := some 92, op := Op.pick (Operand.tmp 88) (Operand.tmp 91) (Operand.const (Value.bool false)), type := 4, pos := "law.go:154", after := #[{ on := 9, ground := Ground.data }, { on := 12, ground := Ground.data }], guard := none }) (v := ?_) rfl (by kernel_rfl) (by kernel_rfl) (by kernel_rfl) (by kernel_rfl) (fun _ _ _ h => h) (Or.inl ⟨by rfl, ?_⟩) ?_
      rotate_left
      · (intro w hE; (try dsimp only); go_simp); (try with_reducible rfl)
      try simp only [Act.put, List.setIfInBounds_toArray, List.set_cons_zero, List.set_cons_succ]
      refine wpAnyE_take (i := 14) (oi := { dst := some 93, op := Op.move (Operand.tmp 92), type := 4, pos := "law.go:154", after := #[{ on := 13, ground := Ground.data }, { on := 9, ground := Ground.chain }], guard := none }) (v := ?_) rfl (by kernel_rfl) (by kernel_rfl) (by kernel_rfl) (by kernel_rfl) (fun _ _ _ h => h) (Or.inl ⟨by rfl, ?_⟩) ?_
      rotate_left
      · (intro w hE; (try dsimp only); go_simp); (try with_reducible rfl)
      try simp only [Act.put, List.setIfInBounds_toArray, List.set_cons_zero, List.set_cons_succ]
      refine wpAnyE_take (i := 15) (oi := { dst := some 94, op := Op.move (Operand.tmp 8), type := 27, pos := "law.go:154", after := #[{ on := 14, ground := Ground.guard }], guard := some (14, true) }) (v := ?_) rfl (by kernel_rfl) (by kernel_rfl) (by kernel_rfl) (by kernel_rfl) (fun _ _ _ h => h) (Or.inl ⟨by rfl, ?_⟩) ?_
      rotate_left
      · (intro w hE; (try dsimp only); go_simp); (try with_reducible rfl)
      try simp only [Act.put, List.setIfInBounds_toArray, List.set_cons_zero, List.set_cons_succ]
      refine wpAnyE_take (i := 16) (oi := { dst := some 95, op := Op.move (Operand.tmp 13), type := 3, pos := "law.go:154", after := #[{ on := 14, ground := Ground.guard }], guard := some (14, true) }) (v := ?_) rfl (by kernel_rfl) (by kernel_rfl) (by kernel_rfl) (by kernel_rfl) (fun _ _ _ h => h) (Or.inl ⟨by rfl, ?_⟩) ?_
      rotate_left
      · (intro w hE; (try dsimp only); go_simp); (try with_reducible rfl)
      try simp only [Act.put, List.setIfInBounds_toArray, List.set_cons_zero, List.set_cons_succ]
      refine wpAnyE_take (i := 17) (oi := { dst := some 96, op := Op.binOp BinOp.eql 3 (Operand.tmp 94) (Operand.tmp 95) 3, type := 4, pos := "law.go:154", after := #[{ on := 15, ground := Ground.data }, { on := 16, ground := Ground.data }, { on := 14, ground := Ground.guard }], guard := some (14, true) }) (v := ?_) rfl (by kernel_rfl) (by kernel_rfl) (by kernel_rfl) (by kernel_rfl) (fun _ _ _ h => h) (Or.inl ⟨by rfl, ?_⟩) ?_
      rotate_left
      · (intro w hE; (try dsimp only); go_simp); (try with_reducible rfl)
      try simp only [Act.put, List.setIfInBounds_toArray, List.set_cons_zero, List.set_cons_succ]
      refine wpAnyE_take (i := 18) (oi := { dst := some 97, op := Op.pick (Operand.tmp 93) (Operand.tmp 96) (Operand.const (Value.bool false)), type := 4, pos := "law.go:154", after := #[{ on := 14, ground := Ground.data }, { on := 17, ground := Ground.data }], guard := none }) (v := ?_) rfl (by kernel_rfl) (by kernel_rfl) (by kernel_rfl) (by kernel_rfl) (fun _ _ _ h => h) (Or.inl ⟨by rfl, ?_⟩) ?_
      rotate_left
      · (intro w hE; (try dsimp only); go_simp); (try with_reducible rfl)
      try simp only [Act.put, List.setIfInBounds_toArray, List.set_cons_zero, List.set_cons_succ]
      refine wpAnyE_take (i := 19) (oi := { dst := some 98, op := Op.move (Operand.tmp 97), type := 4, pos := "law.go:154", after := #[{ on := 18, ground := Ground.data }, { on := 14, ground := Ground.chain }], guard := none }) (v := ?_) rfl (by kernel_rfl) (by kernel_rfl) (by kernel_rfl) (by kernel_rfl) (fun _ _ _ h => h) (Or.inl ⟨by rfl, ?_⟩) ?_
      rotate_left
      · (intro w hE; (try dsimp only); go_simp); (try with_reducible rfl)
      try simp only [Act.put, List.setIfInBounds_toArray, List.set_cons_zero, List.set_cons_succ]
      refine wpAnyE_take (i := 20) (oi := { dst := some 99, op := Op.move (Operand.tmp 9), type := 72, pos := "law.go:154", after := #[{ on := 19, ground := Ground.guard }], guard := some (19, true) }) (v := ?_) rfl (by kernel_rfl) (by kernel_rfl) (by kernel_rfl) (by kernel_rfl) (fun _ _ _ h => h) (Or.inl ⟨by rfl, ?_⟩) ?_
      rotate_left
      · (intro w hE; (try dsimp only); go_simp); (try with_reducible rfl)
      try simp only [Act.put, List.setIfInBounds_toArray, List.set_cons_zero, List.set_cons_succ]
      refine wpAnyE_take (i := 21) (oi := { dst := some 100, op := Op.move (Operand.tmp 17), type := 72, pos := "law.go:154", after := #[{ on := 19, ground := Ground.guard }], guard := some (19, true) }) (v := ?_) rfl (by kernel_rfl) (by kernel_rfl) (by kernel_rfl) (by kernel_rfl) (fun _ _ _ h => h) (Or.inl ⟨by rfl, ?_⟩) ?_
      rotate_left
      · (intro w hE; (try dsimp only); go_simp); (try with_reducible rfl)
      try simp only [Act.put, List.setIfInBounds_toArray, List.set_cons_zero, List.set_cons_succ]
      refine wpAnyE_call (i := 22) (oi := { dst := some 101, op := Op.call { callee := Callee.value (Operand.func 43), args := #[Operand.tmp 99, Operand.tmp 100], argTypes := #[72, 72] }, type := 4, pos := "law.go:154", after := #[{ on := 20, ground := Ground.data }, { on := 21, ground := Ground.data }, { on := 19, ground := Ground.chain }, { on := 19, ground := Ground.guard }], guard := some (19, true) }) (fun w hE => SI.out w (hu9.carry hE) (h17.carry hE).ints) rfl (by kernel_rfl) (by kernel_rfl) (by kernel_rfl) (by kernel_rfl) (fun _ _ _ h => h) (by rfl) (fun w hE => by (try dsimp only); go_simp) ?_
      try simp only [Act.put, List.setIfInBounds_toArray, List.set_cons_zero, List.set_cons_succ]
      refine wpAnyE_take (i := 23) (oi := { dst := some 102, op := Op.pick (Operand.tmp 98) (Operand.tmp 101) (Operand.const (Value.bool false)), type := 4, pos := "law.go:154", after := #[{ on := 19, ground := Ground.data }, { on := 22, ground := Ground.data }], guard := none }) (v := ?_) rfl (by kernel_rfl) (by kernel_rfl) (by kernel_rfl) (by kernel_rfl) (fun _ _ _ h => h) (Or.inl ⟨by rfl, ?_⟩) ?_
      rotate_left
      · (intro w hE; (try dsimp only); go_simp); (try with_reducible rfl)
      try simp only [Act.put, List.setIfInBounds_toArray, List.set_cons_zero, List.set_cons_succ]
      refine wpAnyE_take (i := 24) (oi := { dst := some 103, op := Op.move (Operand.tmp 102), type := 4, pos := "law.go:154", after := #[{ on := 23, ground := Ground.data }, { on := 22, ground := Ground.chain }], guard := none }) (v := ?_) rfl (by kernel_rfl) (by kernel_rfl) (by kernel_rfl) (by kernel_rfl) (fun _ _ _ h => h) (Or.inl ⟨by rfl, ?_⟩) ?_
      rotate_left
      · (intro w hE; (try dsimp only); go_simp); (try with_reducible rfl)
      try simp only [Act.put, List.setIfInBounds_toArray, List.set_cons_zero, List.set_cons_succ]
      refine wpAnyE_take (i := 25) (oi := { dst := some 104, op := Op.move (Operand.tmp 10), type := 27, pos := "law.go:154", after := #[{ on := 24, ground := Ground.guard }], guard := some (24, true) }) (v := ?_) rfl (by kernel_rfl) (by kernel_rfl) (by kernel_rfl) (by kernel_rfl) (fun _ _ _ h => h) (Or.inl ⟨by rfl, ?_⟩) ?_
      rotate_left
      · (intro w hE; (try dsimp only); go_simp); (try with_reducible rfl)
      try simp only [Act.put, List.setIfInBounds_toArray, List.set_cons_zero, List.set_cons_succ]
      refine wpAnyE_take (i := 26) (oi := { dst := some 105, op := Op.move (Operand.tmp 13), type := 3, pos := "law.go:154", after := #[{ on := 24, ground := Ground.guard }], guard := some (24, true) }) (v := ?_) rfl (by kernel_rfl) (by kernel_rfl) (by kernel_rfl) (by kernel_rfl) (fun _ _ _ h => h) (Or.inl ⟨by rfl, ?_⟩) ?_
      rotate_left
      · (intro w hE; (try dsimp only); go_simp); (try with_reducible rfl)
      try simp only [Act.put, List.setIfInBounds_toArray, List.set_cons_zero, List.set_cons_succ]
      refine wpAnyE_take (i := 27) (oi := { dst := some 106, op := Op.binOp BinOp.eql 3 (Operand.tmp 104) (Operand.tmp 105) 3, type := 4, pos := "law.go:154", after := #[{ on := 25, ground := Ground.data }, { on := 26, ground := Ground.data }, { on := 24, ground := Ground.guard }], guard := some (24, true) }) (v := ?_) rfl (by kernel_rfl) (by kernel_rfl) (by kernel_rfl) (by kernel_rfl) (fun _ _ _ h => h) (Or.inl ⟨by rfl, ?_⟩) ?_
      rotate_left
      · (intro w hE; (try dsimp only); go_simp); (try with_reducible rfl)
      try simp only [Act.put, List.setIfInBounds_toArray, List.set_cons_zero, List.set_cons_succ]
      refine wpAnyE_take (i := 28) (oi := { dst := some 107, op := Op.pick (Operand.tmp 103) (Operand.tmp 106) (Operand.const (Value.bool false)), type := 4, pos := "law.go:154", after := #[{ on := 24, ground := Ground.data }, { on := 27, ground := Ground.data }], guard := none }) (v := ?_) rfl (by kernel_rfl) (by kernel_rfl) (by kernel_rfl) (by kernel_rfl) (fun _ _ _ h => h) (Or.inl ⟨by rfl, ?_⟩) ?_
      rotate_left
      · (intro w hE; (try dsimp only); go_simp); (try with_reducible rfl)
      try simp only [Act.put, List.setIfInBounds_toArray, List.set_cons_zero, List.set_cons_succ]
      refine wpAnyE_take (i := 29) (oi := { dst := some 108, op := Op.move (Operand.tmp 107), type := 4, pos := "law.go:154", after := #[{ on := 28, ground := Ground.data }, { on := 24, ground := Ground.chain }], guard := none }) (v := ?_) rfl (by kernel_rfl) (by kernel_rfl) (by kernel_rfl) (by kernel_rfl) (fun _ _ _ h => h) (Or.inl ⟨by rfl, ?_⟩) ?_
      rotate_left
      · (intro w hE; (try dsimp only); go_simp); (try with_reducible rfl)
      try simp only [Act.put, List.setIfInBounds_toArray, List.set_cons_zero, List.set_cons_succ]
      refine wpAnyE_take (i := 30) (oi := { dst := some 109, op := Op.load 89 (Operand.tmp 11), type := 89, pos := "law.go:154", after := #[{ on := 29, ground := Ground.guard }], guard := some (29, true) }) (v := ?_) rfl (by kernel_rfl) (by kernel_rfl) (by kernel_rfl) (by kernel_rfl) (fun _ _ _ h => h) (Or.inl ⟨by rfl, ?_⟩) ?_
      rotate_left
      · (intro w hE; (try dsimp only); refine (exec_load rfl (load12 hDl (i11.carry hE))).trans ?_); (try with_reducible rfl)
      try simp only [Act.put, List.setIfInBounds_toArray, List.set_cons_zero, List.set_cons_succ]
      refine wpAnyE_take (i := 31) (oi := { dst := some 110, op := Op.load 89 (Operand.tmp 18), type := 89, pos := "law.go:154", after := #[{ on := 29, ground := Ground.guard }], guard := some (29, true) }) (v := ?_) rfl (by kernel_rfl) (by kernel_rfl) (by kernel_rfl) (by kernel_rfl) (fun _ _ _ h => h) (Or.inl ⟨by rfl, ?_⟩) ?_
      rotate_left
      · (intro w hE; (try dsimp only); refine (exec_load rfl (load12 hDl (i18.carry hE))).trans ?_); (try with_reducible rfl)
      try simp only [Act.put, List.setIfInBounds_toArray, List.set_cons_zero, List.set_cons_succ]
      refine wpAnyE_take (i := 32) (oi := { dst := some 111, op := Op.binOp BinOp.eql 89 (Operand.tmp 109) (Operand.tmp 110) 89, type := 4, pos := "law.go:154", after := #[{ on := 30, ground := Ground.data }, { on := 31, ground := Ground.data }, { on := 29, ground := Ground.guard }], guard := some (29, true) }) (v := ?_) rfl (by kernel_rfl) (by kernel_rfl) (by kernel_rfl) (by kernel_rfl) (fun _ _ _ h => h) (Or.inl ⟨by rfl, ?_⟩) ?_
      rotate_left
      · (intro w hE; (try dsimp only); go_simp); (try with_reducible rfl)
      try simp only [Act.put, List.setIfInBounds_toArray, List.set_cons_zero, List.set_cons_succ]
      refine wpAnyE_take (i := 33) (oi := { dst := some 112, op := Op.pick (Operand.tmp 108) (Operand.tmp 111) (Operand.const (Value.bool false)), type := 4, pos := "law.go:154", after := #[{ on := 29, ground := Ground.data }, { on := 32, ground := Ground.data }], guard := none }) (v := ?_) rfl (by kernel_rfl) (by kernel_rfl) (by kernel_rfl) (by kernel_rfl) (fun _ _ _ h => h) (Or.inl ⟨by rfl, ?_⟩) ?_
      rotate_left
      · (intro w hE; (try dsimp only); go_simp); (try with_reducible rfl)
      try simp only [Act.put, List.setIfInBounds_toArray, List.set_cons_zero, List.set_cons_succ]
      refine wpAnyE_take (i := 34) (oi := { dst := some 113, op := Op.move (Operand.tmp 112), type := 4, pos := "law.go:154", after := #[{ on := 33, ground := Ground.data }, { on := 29, ground := Ground.chain }], guard := none }) (v := ?_) rfl (by kernel_rfl) (by kernel_rfl) (by kernel_rfl) (by kernel_rfl) (fun _ _ _ h => h) (Or.inl ⟨by rfl, ?_⟩) ?_
      rotate_left
      · (intro w hE; (try dsimp only); go_simp); (try with_reducible rfl)
      try simp only [Act.put, List.setIfInBounds_toArray, List.set_cons_zero, List.set_cons_succ]
      refine wpAnyE_take (i := 35) (oi := { dst := some 114, op := Op.move (Operand.tmp 12), type := 27, pos := "law.go:154", after := #[{ on := 34, ground := Ground.guard }], guard := some (34, true) }) (v := ?_) rfl (by kernel_rfl) (by kernel_rfl) (by kernel_rfl) (by kernel_rfl) (fun _ _ _ h => h) (Or.inl ⟨by rfl, ?_⟩) ?_
      rotate_left
      · (intro w hE; (try dsimp only); go_simp); (try with_reducible rfl)
      try simp only [Act.put, List.setIfInBounds_toArray, List.set_cons_zero, List.set_cons_succ]
      refine wpAnyE_take (i := 36) (oi := { dst := some 115, op := Op.move (Operand.tmp 14), type := 3, pos := "law.go:154", after := #[{ on := 34, ground := Ground.guard }], guard := some (34, true) }) (v := ?_) rfl (by kernel_rfl) (by kernel_rfl) (by kernel_rfl) (by kernel_rfl) (fun _ _ _ h => h) (Or.inl ⟨by rfl, ?_⟩) ?_
      rotate_left
      · (intro w hE; (try dsimp only); go_simp); (try with_reducible rfl)
      try simp only [Act.put, List.setIfInBounds_toArray, List.set_cons_zero, List.set_cons_succ]
      refine wpAnyE_take (i := 37) (oi := { dst := some 116, op := Op.binOp BinOp.eql 3 (Operand.tmp 114) (Operand.tmp 115) 3, type := 4, pos := "law.go:154", after := #[{ on := 35, ground := Ground.data }, { on := 36, ground := Ground.data }, { on := 34, ground := Ground.guard }], guard := some (34, true) }) (v := ?_) rfl (by kernel_rfl) (by kernel_rfl) (by kernel_rfl) (by kernel_rfl) (fun _ _ _ h => h) (Or.inl ⟨by rfl, ?_⟩) ?_
      rotate_left
      · (intro w hE; (try dsimp only); go_simp); (try with_reducible rfl)
      try simp only [Act.put, List.setIfInBounds_toArray, List.set_cons_zero, List.set_cons_succ]
      refine wpAnyE_take (i := 38) (oi := { dst := some 117, op := Op.pick (Operand.tmp 113) (Operand.tmp 116) (Operand.const (Value.bool false)), type := 4, pos := "law.go:154", after := #[{ on := 34, ground := Ground.data }, { on := 37, ground := Ground.data }], guard := none }) (v := ?_) rfl (by kernel_rfl) (by kernel_rfl) (by kernel_rfl) (by kernel_rfl) (fun _ _ _ h => h) (Or.inl ⟨by rfl, ?_⟩) ?_
      rotate_left
      · (intro w hE; (try dsimp only); go_simp); (try with_reducible rfl)
      try simp only [Act.put, List.setIfInBounds_toArray, List.set_cons_zero, List.set_cons_succ]
      refine wpAnyE_take (i := 39) (oi := { dst := some 118, op := Op.move (Operand.tmp 117), type := 4, pos := "law.go:154", after := #[{ on := 38, ground := Ground.data }, { on := 34, ground := Ground.chain }], guard := none }) (v := ?_) rfl (by kernel_rfl) (by kernel_rfl) (by kernel_rfl) (by kernel_rfl) (fun _ _ _ h => h) (Or.inl ⟨by rfl, ?_⟩) ?_
      rotate_left
      · (intro w hE; (try dsimp only); go_simp); (try with_reducible rfl)
      try simp only [Act.put, List.setIfInBounds_toArray, List.set_cons_zero, List.set_cons_succ]
      refine wpAnyE_call (i := 40) (oi := { dst := some 119, op := Op.call { callee := Callee.value (Operand.func 19), args := #[], argTypes := #[] }, type := 4, pos := "law.go:154", after := #[{ on := 39, ground := Ground.chain }, { on := 39, ground := Ground.guard }], guard := some (39, true) }) (fun w hE => awake_any w (hw'.carry hE) (hp'.carry hE)) rfl (by kernel_rfl) (by kernel_rfl) (by kernel_rfl) (by kernel_rfl) (fun _ _ _ h => h) (by rfl) (fun w hE => by (try dsimp only); go_simp) ?_
      try simp only [Act.put, List.setIfInBounds_toArray, List.set_cons_zero, List.set_cons_succ]
      refine wpAnyE_take (i := 41) (oi := { dst := some 120, op := Op.pick (Operand.tmp 118) (Operand.tmp 119) (Operand.const (Value.bool false)), type := 4, pos := "law.go:154", after := #[{ on := 39, ground := Ground.data }, { on := 40, ground := Ground.data }], guard := none }) (v := ?_) rfl (by kernel_rfl) (by kernel_rfl) (by kernel_rfl) (by kernel_rfl) (fun _ _ _ h => h) (Or.inl ⟨by rfl, ?_⟩) ?_
      rotate_left
      · (intro w hE; (try dsimp only); go_simp); (try with_reducible rfl)
      try simp only [Act.put, List.setIfInBounds_toArray, List.set_cons_zero, List.set_cons_succ]
      refine wpAnyE_take (i := 42) (oi := { dst := some 4, op := Op.assign (Operand.tmp 120), type := 4, pos := "law.go:154", after := #[{ on := 41, ground := Ground.data }, { on := 40, ground := Ground.chain }, { on := 0, ground := Ground.phase }, { on := 1, ground := Ground.phase }, { on := 2, ground := Ground.phase }, { on := 3, ground := Ground.phase }, { on := 4, ground := Ground.phase }, { on := 5, ground := Ground.phase }, { on := 6, ground := Ground.phase }, { on := 7, ground := Ground.phase }, { on := 8, ground := Ground.phase }, { on := 9, ground := Ground.phase }, { on := 10, ground := Ground.phase }, { on := 11, ground := Ground.phase }, { on := 12, ground := Ground.phase }, { on := 13, ground := Ground.phase }, { on := 14, ground := Ground.phase }, { on := 15, ground := Ground.phase }, { on := 16, ground := Ground.phase }, { on := 17, ground := Ground.phase }, { on := 18, ground := Ground.phase }, { on := 19, ground := Ground.phase }, { on := 20, ground := Ground.phase }, { on := 21, ground := Ground.phase }, { on := 22, ground := Ground.phase }, { on := 23, ground := Ground.phase }, { on := 24, ground := Ground.phase }, { on := 25, ground := Ground.phase }, { on := 26, ground := Ground.phase }, { on := 27, ground := Ground.phase }, { on := 28, ground := Ground.phase }, { on := 29, ground := Ground.phase }, { on := 30, ground := Ground.phase }, { on := 31, ground := Ground.phase }, { on := 32, ground := Ground.phase }, { on := 33, ground := Ground.phase }, { on := 34, ground := Ground.phase }, { on := 35, ground := Ground.phase }, { on := 36, ground := Ground.phase }, { on := 37, ground := Ground.phase }, { on := 38, ground := Ground.phase }, { on := 39, ground := Ground.phase }, { on := 40, ground := Ground.phase }, { on := 41, ground := Ground.phase }], guard := none }) (v := ?_) rfl (by kernel_rfl) (by kernel_rfl) (by kernel_rfl) (by kernel_rfl) (fun _ _ _ h => h) (Or.inl ⟨by rfl, ?_⟩) ?_
      rotate_left
      · (intro w hE; (try dsimp only); go_simp); (try with_reducible rfl)
      try simp only [Act.put, List.setIfInBounds_toArray, List.set_cons_zero, List.set_cons_succ]
      refine wpAnyE_done (by kernel_rfl) (fun wy1 hE => ?_) _
      have hbz1 := bthen hbz hE
      have i5 := i5.carry hE
      have i7 := i7.carry hE
      have i11 := i11.carry hE
      have i15 := i15.carry hE
      have i16 := i16.carry hE
      have i18 := i18.carry hE
      have hu9 := hu9.carry hE
      have h17 := h17.carry hE
      have hw' := hw'.carry hE
      have hp' := hp'.carry hE
      clear hE
      have hB := hbz1
      obtain ⟨W9, hW9⟩ : ∃ v, v = wy1 := ⟨_, rfl⟩
      rw [← hW9] at hB ⊢
      clear hW9
      go_wp2
      go_ret
      exact ⟨rfl, hB⟩
end Go.Proofs.YtfkemdapmoponaaGreatDoor

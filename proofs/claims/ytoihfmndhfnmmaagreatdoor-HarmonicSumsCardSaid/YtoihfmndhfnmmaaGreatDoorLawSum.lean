/- The law HarmonicSums: the walk. (printed by gen/lawsum.py) -/
import Derived.Test.YtoihfmndhfnmmaaGreatDoorHsE
import Derived.Test.YtoihfmndhfnmmaaGreatDoorHpO
namespace Go.Proofs.YtoihfmndhfnmmaaGreatDoor
set_option linter.unusedSimpArgs false
set_option linter.unusedVariables false
open Go.RowKit

theorem specH_ok {l : List Int} (hl : l.length = 12) (hp : patE l = 0) (W : World) (hW : Powers W) : Calls Tryz.prog 9 #[.agg (ia l)] W fun e w' => e = .returned (.tuple #[.agg (ia (specL l)), .int .i64 0]) ∧ Below W.heap.size W w' := by
  have := SpectrumH_any l W hl hW
  rw [hp, arOr, if_pos rfl] at this
  exact this
theorem delH_ok {l : List Int} (hl : l.length = 12) (hp : patE l = 0) (n : Int) (hn : -128 ≤ n ∧ n ≤ 127) (W : World) : Calls Tryz.prog 11 #[.agg (ia l), .int .i64 n] W fun e w' => e = .returned (.tuple #[.agg (ia (delL l n)), .int .i64 0]) ∧ Below W.heap.size W w' := by
  have he : delE l n = 0 := by
    have : withinE n (-100000) 100000 = 0 := by unfold withinE; rw [if_neg (by omega)]
    rw [delE, hp, this]; rfl
  have := Delayed_any l n W hl
  rw [he, arOr, if_pos rfl] at this
  exact this
theorem del_bd {l : List Int} (hb : ∀ x ∈ l, -100 ≤ x ∧ x ≤ 100) (n : Int) : ∀ x ∈ delL l n, -100 ≤ x ∧ x ≤ 100 := by
  intro x hx
  unfold delL at hx
  obtain ⟨k, _, rfl⟩ := List.mem_map.1 hx
  generalize ((((k : Nat) : Int) - n) % 12).toNat = j
  rcases Nat.lt_or_ge j l.length with c | c
  · rw [List.getElem?_eq_getElem c]; exact hb _ (List.getElem_mem c)
  · rw [List.getElem?_eq_none c]; exact ⟨by decide, by decide⟩

theorem rootR_ok {a b : Int} (ha : -8640000 ≤ a ∧ a ≤ 8640000) (hb : -2880000 ≤ b ∧ b ≤ 2880000) (W : World) :
    Calls Tryz.prog 13 #[.agg #[.int .i64 a, .int .i64 b]] W fun e w' => e = .returned (.int .i64 0) ∧ Below W.heap.size W w' := by
  have := CheckRootR_any a b W
  rw [rootE_small ha hb] at this
  exact this
def sumF (la lb : List Int) (k j : Nat) : Int := if j < k then la[j]?.getD 0 + lb[j]?.getD 0 else 0
theorem sumF_zero (la lb : List Int) : List.replicate 12 (0 : Int) = upto (sumF la lb 0) 12 := by
  rw [zeros_upto]
  exact upto_congr fun j _ => by unfold sumF; rw [if_neg (by omega)]
theorem sumF_all (la lb : List Int) : upto (sumF la lb 12) 12 = sumL la lb :=
  upto_congr fun j hj => by unfold sumF; rw [if_pos hj]
theorem sumF_set (la lb : List Int) (k : Nat) (hk : k < 12) : (upto (sumF la lb k) 12).set k (la[k]?.getD 0 + lb[k]?.getD 0) = upto (sumF la lb (k + 1)) 12 := by
  refine upto_set1 _ _ 12 k hk _ fun j => ?_
  unfold sumF
  by_cases c : j = k
  · subst c
    rw [if_pos rfl, if_pos (by omega)]
  · rw [if_neg c]
    by_cases d : j < k
    · rw [if_pos d, if_pos (by omega)]
    · rw [if_neg d, if_neg (by omega)]
theorem spec_cells {W : World} {B : Nat} {l S : List Int} (hS : S = specL l) (h : BlkI W B 30 S) (k : Nat) (hk : k < 12) :
    W.cell? ⟨B, k * 4, none⟩ = some (.int .i64 (orderC l (k : Int)).1) ∧ W.cell? ⟨B, k * 4 + 1, none⟩ = some (.int .i64 (orderC l (k : Int)).2.1) ∧ W.cell? ⟨B, k * 4 + 2, none⟩ = some (.int .i64 (orderC l (k : Int)).2.2.1) ∧ W.cell? ⟨B, k * 4 + 3, none⟩ = some (.int .i64 (orderC l (k : Int)).2.2.2) := by
  have hl : S.length = 48 := by rw [hS]; exact upto_length _ _
  have q0 := specL_get l k 0 hk (by omega)
  have q1 := specL_get l k 1 hk (by omega)
  have q2 := specL_get l k 2 hk (by omega)
  have q3 := specL_get l k 3 hk (by omega)
  rw [Nat.add_zero] at q0
  rw [← hS] at q0 q1 q2 q3
  have c0 := BlkI.cell h (j := k * 4) (by omega)
  have c1 := BlkI.cell h (j := k * 4 + 1) (by omega)
  have c2 := BlkI.cell h (j := k * 4 + 2) (by omega)
  have c3 := BlkI.cell h (j := k * 4 + 3) (by omega)
  rw [q0] at c0
  rw [q1] at c1
  rw [q2] at c2
  rw [q3] at c3
  exact ⟨c0, c1, c2, c3⟩
theorem prod_ok {x y : Cy} (hx : Bd 1200 x) (hy : Bd 1200 y) (W : World) :
    Calls Tryz.prog 14 #[.agg #[.int .i64 x.1, .int .i64 x.2.1, .int .i64 x.2.2.1, .int .i64 x.2.2.2], .agg #[.int .i64 y.1, .int .i64 y.2.1, .int .i64 y.2.2.1, .int .i64 y.2.2.2]] W fun e w' =>
      e = .returned (.tuple #[.agg (ia [(prC x y).1, (prC x y).2.1, (prC x y).2.2.1, (prC x y).2.2.2]), .int .i64 0]) ∧ Below W.heap.size W w' := by
  have h := ProductH_any x.1 x.2.1 x.2.2.1 x.2.2.2 y.1 y.2.1 y.2.2.1 y.2.2.2 W
  have hz : prodCE x.1 x.2.1 x.2.2.1 x.2.2.2 y.1 y.2.1 y.2.2.1 y.2.2.2 = 0 := by
    unfold prodCE
    rw [cycE_ok (hx.mono (by decide)), cycE_ok (hy.mono (by decide))]
    rfl
  rw [hz, cyOr, if_pos rfl] at h
  rw [← pr_exact hx hy]
  exact h
theorem sum_ok {x y : Cy} (hx : Bd 1200 x) (hy : Bd 1200 y) (W : World) :
    Calls Tryz.prog 16 #[.agg #[.int .i64 x.1, .int .i64 x.2.1, .int .i64 x.2.2.1, .int .i64 x.2.2.2], .agg #[.int .i64 y.1, .int .i64 y.2.1, .int .i64 y.2.2.1, .int .i64 y.2.2.2]] W fun e w' =>
      e = .returned (.agg #[.int .i64 (addC x y).1, .int .i64 (addC x y).2.1, .int .i64 (addC x y).2.2.1, .int .i64 (addC x y).2.2.2]) ∧ Below W.heap.size W w' := by
  obtain ⟨h0, h1, h2, h3⟩ := hx
  obtain ⟨g0, g1, g2, g3⟩ := hy
  have h := plusCR_any x.1 x.2.1 x.2.2.1 x.2.2.2 y.1 y.2.1 y.2.2.1 y.2.2.2 W
  rw [wrapIn (by omega), wrapIn (by omega), wrapIn (by omega), wrapIn (by omega)] at h
  exact h
theorem prod_wraps {s0 s1 o0 o1 : Int} (h0 : -8640000 ≤ s0 ∧ s0 ≤ 8640000) (h1 : -2880000 ≤ s1 ∧ s1 ≤ 2880000) (g0 : -8640000 ≤ o0 ∧ o0 ≤ 8640000) (g1 : -2880000 ≤ o1 ∧ o1 ≤ 2880000) :
    ∃ m0 r1 m1 m2 m3 : Int, IntKind.i64.wrap (s0 * o0) = m0 ∧ IntKind.i64.wrap (3 * s1) = r1 ∧ IntKind.i64.wrap (r1 * o1) = m1 ∧ IntKind.i64.wrap (m0 + m1) = s0 * o0 + 3 * s1 * o1 ∧ IntKind.i64.wrap (s0 * o1) = m2 ∧ IntKind.i64.wrap (s1 * o0) = m3 ∧ IntKind.i64.wrap (m2 + m3) = s0 * o1 + s1 * o0 := by
  have a0 := mulb h0 g0
  have a1 := mulb (show -8640000 ≤ 3 * s1 ∧ 3 * s1 ≤ 8640000 by omega) g1
  have a2 := mulb h0 g1
  have a3 := mulb h1 g0
  exact ⟨s0 * o0, 3 * s1, 3 * s1 * o1, s0 * o1, s1 * o0, IntWalk.i64_in _ (by omega), IntWalk.i64_in _ (by omega), IntWalk.i64_in _ (by omega), IntWalk.i64_in _ (by omega), IntWalk.i64_in _ (by omega), IntWalk.i64_in _ (by omega), IntWalk.i64_in _ (by omega)⟩
theorem neqInts12 (l : List Int) (hl : l.length = 12) (W : World) : Sem.run Tryz.prog (binOp .neq 22 (.agg (ia l)) (.agg (ia l))) W = .ok (.bool false) W := by
  obtain ⟨i0, hi, hz0, hz1, hz2⟩ := info_parts Tryz.infoInt
  have hc : Tryz.prog.cellsOf 3 = 1 := by kernel_rfl
  rw [run_neq_struct, run_equalIn_array W 9999 (t := 22) (e := 3) (n := 12) _ _ Tryz.undA12 hi, hc, eqItemsI l l W _ (fun i hi => by rw [hl]; exact ⟨List.mem_range.1 hi, List.mem_range.1 hi⟩), allRange_eq l l 12 hl hl]
  simp
set_option maxRecDepth 100000 in
set_option maxHeartbeats 40000000 in
theorem sum_law (la lb : List Int) (n : Int) (w : World) (hla : la.length = 12) (hlb : lb.length = 12) (hw : Powers w) (hp : Pows w) (hn : -128 ≤ n ∧ n ≤ 127) :
    Calls Tryz.prog 3 #[.agg (ia la), .agg (ia lb), .int .i8 n] w fun e w' => e = .returned (.bool true) ∧ Below w.heap.size w w' := by
  have HLA := Lib.hid hla
  have HLB := Lib.hid hlb
  have TAW := Lib.hid (fun W hP hQ => awake_any W hP hQ)
  have RA := Lib.hid (fun W => CheckPatternR_any la W hla)
  have RB := Lib.hid (fun W => CheckPatternR_any lb W hlb)
  have HWw := Lib.hid hw
  have HPw := Lib.hid hp
  by_cases ha : patE la = 0
  · by_cases hbp : patE lb = 0
    · have hba := patE_all ha
      have hbb := patE_all hbp
      have hpd : patE (delL la n) = 0 := patE_of (del_bd hba n)
      have hdl : (delL la n).length = 12 := upto_length _ _
      have TSa := Lib.hid (fun W hW => specH_ok hla ha W hW)
      have TSb := Lib.hid (fun W hW => specH_ok hlb hbp W hW)
      have TSd := Lib.hid (fun W hW => specH_ok hdl hpd W hW)
      have TBk := Lib.hid (fun W hW => Back_any la W hla hba hW)
      have TDl := Lib.hid (fun W => delH_ok hla ha n hn W)
      have RD := Lib.hid (fun W => by
        have := CheckPatternR_any (delL la n) W hdl
        rw [hpd] at this
        exact this)
      have HDL := Lib.hid hdl
      have HBA := Lib.hid hba
      have HBB := Lib.hid hbb
      have hsa : (specL la).length = 48 := upto_length _ _
      have hsb : (specL lb).length = 48 := upto_length _ _
      have hsd : (specL (delL la n)).length = 48 := upto_length _ _
      obtain ⟨SA, hSA⟩ : ∃ S, S = specL la := ⟨_, rfl⟩
      obtain ⟨SB, hSB⟩ : ∃ S, S = specL lb := ⟨_, rfl⟩
      obtain ⟨SD, hSD⟩ : ∃ S, S = specL (delL la n) := ⟨_, rfl⟩
      obtain ⟨DL, hDL⟩ : ∃ S, S = delL la n := ⟨_, rfl⟩
      rw [← hSA] at TSa TBk hsa
      rw [← hSB] at TSb hsb
      rw [← hSD] at TSd hsd
      rw [← hDL] at TDl TSd RD HDL
      have HSA := Lib.hid hSA
      have HSB := Lib.hid hSB
      have HSD := Lib.hid hSD
      have HDE := Lib.hid hDL
      have HsA := Lib.hid hsa
      have HsB := Lib.hid hsb
      have HsD := Lib.hid hsd
      have heq := fun W => eqInts 22 12 Tryz.undA12 la la hla hla W
      have HNE := Lib.hid (fun W => neqInts12 la hla W)
      rw [ha] at RA
      rw [hbp] at RB
      clear heq ha hbp hba hbb hpd hdl hSA hSB hSD hDL hsa hsb hsd
      go_enter Tryz.func3, Tryz.ntmps3
      go_upto_region 1 with fail
      obtain ⟨W1, hW1⟩ : ∃ v, v = World.alloc w (Obj.cells (ia la) 22) := ⟨_, rfl⟩
      have kW1 : Below w.heap.size w W1 := by rw [hW1]; exact below_new _ _
      have iW1 : BlkI W1 (w.heap.size) 22 la := by rw [hW1]; exact BlkI.new _ _ _
      have sW1 : W1.heap.size = w.heap.size + 1 := by rw [hW1]; simp
      rw [← hW1]
      clear hW1
      obtain ⟨Wa, hWa⟩ : ∃ v, v = World.alloc W1 (Obj.cells (ia lb) 22) := ⟨_, rfl⟩
      have kWa : Below W1.heap.size W1 Wa := by rw [hWa]; exact below_new _ _
      have iWa : BlkI Wa (w.heap.size + 1) 22 lb := by rw [hWa, ← sW1]; exact BlkI.new _ _ _
      have sWa : Wa.heap.size = w.heap.size + 1 + 1 := by rw [hWa]; simp [sW1]
      rw [← hWa]
      clear hWa
      have i3 : BlkI Wa w.heap.size 22 la := iW1.carry kWa
      have i4 : BlkI Wa (w.heap.size + 1) 22 lb := iWa
      have hB := bthen kW1 kWa
      obtain ⟨G4, hG4⟩ : ∃ G, G = w.heap.size + 1 := ⟨_, rfl⟩
      rw [← hG4] at i4 ⊢
      obtain ⟨G3, hG3⟩ : ∃ G, G = w.heap.size := ⟨_, rfl⟩
      rw [← hG3] at i3 ⊢
      have HW := Lib.hid (HWw.out.carry hB)
      have HP := Lib.hid (HPw.out.carry hB)
      have HB := Lib.hid hB
      have HI3 := Lib.hid i3
      have HI4 := Lib.hid i4
      clear iW1 kW1 sW1 iWa kWa sWa hG3 hG4 hB hla hlb hw hp
      have hld := load12 HLA.out i3
      go_wp2_with (refine wpList_load rfl _ _ rfl hld ?_)
      refine (RA.out Wa).mono ?_
      rintro e Wb ⟨rfl, hA⟩
      clear hld i3 i4
      have hld := load12 HLB.out (HI4.out.carry hA)
      go_wp2_with (first | refine wpList_load rfl _ _ rfl hld ?_ | refine wpList_loadG (by rfl) _ _ rfl hld ?_)
      refine (RB.out Wb).mono ?_
      rintro e Wc ⟨rfl, hb⟩
      clear hld
      replace hA := bthen hA hb
      clear hb
      have hld := load12 HLA.out (HI3.out.carry hA)
      go_wp2_with (refine wpList_load rfl _ _ rfl hld ?_)
      refine (TSa.out Wc (HW.out.carry hA)).mono ?_
      rintro e V1 ⟨rfl, hb⟩
      clear hld
      replace hA := bthen hA hb
      clear hb
      go_upto_region 4 with (refine wpList_storeA rfl _ _ _ rfl V1.heap.size SA (List.replicate 48 0) rfl rfl (BlkI.new V1 30 (List.replicate 48 0)) (by rw [HsA.out]; rfl) (by rw [HsA.out]; exact Tryz.infoSp) ?_)
      obtain ⟨V2, hV2⟩ : ∃ v, v = World.setRow (World.alloc V1 (Obj.cells #[.int .i64 0, .int .i64 0, .int .i64 0, .int .i64 0, .int .i64 0, .int .i64 0, .int .i64 0, .int .i64 0, .int .i64 0, .int .i64 0, .int .i64 0, .int .i64 0, .int .i64 0, .int .i64 0, .int .i64 0, .int .i64 0, .int .i64 0, .int .i64 0, .int .i64 0, .int .i64 0, .int .i64 0, .int .i64 0, .int .i64 0, .int .i64 0, .int .i64 0, .int .i64 0, .int .i64 0, .int .i64 0, .int .i64 0, .int .i64 0, .int .i64 0, .int .i64 0, .int .i64 0, .int .i64 0, .int .i64 0, .int .i64 0, .int .i64 0, .int .i64 0, .int .i64 0, .int .i64 0, .int .i64 0, .int .i64 0, .int .i64 0, .int .i64 0, .int .i64 0, .int .i64 0, .int .i64 0, .int .i64 0] 30)) V1.heap.size (ia (SA)) := ⟨_, rfl⟩
      have kV2 : Below V1.heap.size V1 V2 := by rw [hV2]; exact zrow_below _ _ _ _
      have iV2 : BlkI V2 V1.heap.size 30 (SA) := by rw [hV2]; exact zrow_blk V1 _ (List.replicate 48 0) _
      rw [← hV2]
      clear hV2
      replace hA := bthen hA kV2
      have i7 := iV2
      obtain ⟨G7, hG⟩ : ∃ G, G = V1.heap.size := ⟨_, rfl⟩
      rw [← hG] at i7 ⊢
      clear kV2 iV2 hG
      have hld := load12 HLB.out (HI4.out.carry hA)
      go_wp2_with (refine wpList_load rfl _ _ rfl hld ?_)
      refine (TSb.out V2 (HW.out.carry hA)).mono ?_
      rintro e V3 ⟨rfl, hb⟩
      clear hld
      replace i7 := i7.carry hb
      replace hA := bthen hA hb
      clear hb
      go_upto_region 5 with (refine wpList_storeA rfl _ _ _ rfl V3.heap.size SB (List.replicate 48 0) rfl rfl (BlkI.new V3 30 (List.replicate 48 0)) (by rw [HsB.out]; rfl) (by rw [HsB.out]; exact Tryz.infoSp) ?_)
      obtain ⟨V4, hV4⟩ : ∃ v, v = World.setRow (World.alloc V3 (Obj.cells #[.int .i64 0, .int .i64 0, .int .i64 0, .int .i64 0, .int .i64 0, .int .i64 0, .int .i64 0, .int .i64 0, .int .i64 0, .int .i64 0, .int .i64 0, .int .i64 0, .int .i64 0, .int .i64 0, .int .i64 0, .int .i64 0, .int .i64 0, .int .i64 0, .int .i64 0, .int .i64 0, .int .i64 0, .int .i64 0, .int .i64 0, .int .i64 0, .int .i64 0, .int .i64 0, .int .i64 0, .int .i64 0, .int .i64 0, .int .i64 0, .int .i64 0, .int .i64 0, .int .i64 0, .int .i64 0, .int .i64 0, .int .i64 0, .int .i64 0, .int .i64 0, .int .i64 0, .int .i64 0, .int .i64 0, .int .i64 0, .int .i64 0, .int .i64 0, .int .i64 0, .int .i64 0, .int .i64 0, .int .i64 0] 30)) V3.heap.size (ia (SB)) := ⟨_, rfl⟩
      have kV4 : Below V3.heap.size V3 V4 := by rw [hV4]; exact zrow_below _ _ _ _
      have iV4 : BlkI V4 V3.heap.size 30 (SB) := by rw [hV4]; exact zrow_blk V3 _ (List.replicate 48 0) _
      rw [← hV4]
      clear hV4
      replace i7 := i7.carry kV4
      replace hA := bthen hA kV4
      have i9 := iV4
      obtain ⟨G9, hG⟩ : ∃ G, G = V3.heap.size := ⟨_, rfl⟩
      rw [← hG] at i9 ⊢
      clear kV4 iV4 hG
      have hld := load48 HsA.out i7
      go_wp2_with (refine wpList_load rfl _ _ rfl hld ?_)
      refine (TBk.out V4 (HW.out.carry hA)).mono ?_
      rintro e V5 ⟨rfl, hb⟩
      clear hld
      replace i7 := i7.carry hb
      replace i9 := i9.carry hb
      replace hA := bthen hA hb
      clear hb
      go_upto_region 6 with (refine wpList_storeA rfl _ _ _ rfl V5.heap.size la (List.replicate 12 0) rfl rfl (BlkI.new V5 22 (List.replicate 12 0)) (by rw [HLA.out]; rfl) (by rw [HLA.out]; exact Tryz.infoA12) ?_)
      obtain ⟨V6, hV6⟩ : ∃ v, v = World.setRow (World.alloc V5 (Obj.cells #[.int .i64 0, .int .i64 0, .int .i64 0, .int .i64 0, .int .i64 0, .int .i64 0, .int .i64 0, .int .i64 0, .int .i64 0, .int .i64 0, .int .i64 0, .int .i64 0] 22)) V5.heap.size (ia (la)) := ⟨_, rfl⟩
      have kV6 : Below V5.heap.size V5 V6 := by rw [hV6]; exact zrow_below _ _ _ _
      have iV6 : BlkI V6 V5.heap.size 22 (la) := by rw [hV6]; exact zrow_blk V5 _ (List.replicate 12 0) _
      rw [← hV6]
      clear hV6
      replace i7 := i7.carry kV6
      replace i9 := i9.carry kV6
      replace hA := bthen hA kV6
      have i11 := iV6
      obtain ⟨G11, hG⟩ : ∃ G, G = V5.heap.size := ⟨_, rfl⟩
      rw [← hG] at i11 ⊢
      clear kV6 iV6 hG
      have hld := load12 HLA.out (HI3.out.carry hA)
      have e0 : IntKind.i64.wrap n = n := IntWalk.i64_in _ (by omega)
      go_wp2_with (refine wpList_load rfl _ _ rfl hld ?_)
      refine (TDl.out V6).mono ?_
      rintro e V7 ⟨rfl, hb⟩
      clear hld e0
      replace i7 := i7.carry hb
      replace i9 := i9.carry hb
      replace i11 := i11.carry hb
      replace hA := bthen hA hb
      clear hb
      go_upto_region 7 with (refine wpList_storeA rfl _ _ _ rfl V7.heap.size DL (List.replicate 12 0) rfl rfl (BlkI.new V7 22 (List.replicate 12 0)) (by rw [HDL.out]; rfl) (by rw [HDL.out]; exact Tryz.infoA12) ?_)
      obtain ⟨V8, hV8⟩ : ∃ v, v = World.setRow (World.alloc V7 (Obj.cells #[.int .i64 0, .int .i64 0, .int .i64 0, .int .i64 0, .int .i64 0, .int .i64 0, .int .i64 0, .int .i64 0, .int .i64 0, .int .i64 0, .int .i64 0, .int .i64 0] 22)) V7.heap.size (ia (DL)) := ⟨_, rfl⟩
      have kV8 : Below V7.heap.size V7 V8 := by rw [hV8]; exact zrow_below _ _ _ _
      have iV8 : BlkI V8 V7.heap.size 22 (DL) := by rw [hV8]; exact zrow_blk V7 _ (List.replicate 12 0) _
      rw [← hV8]
      clear hV8
      replace i7 := i7.carry kV8
      replace i9 := i9.carry kV8
      replace i11 := i11.carry kV8
      replace hA := bthen hA kV8
      have i13 := iV8
      obtain ⟨G13, hG⟩ : ∃ G, G = V7.heap.size := ⟨_, rfl⟩
      rw [← hG] at i13 ⊢
      clear kV8 iV8 hG
      have hld := load12 HDL.out i13
      go_wp2_with (refine wpList_load rfl _ _ rfl hld ?_)
      refine (TSd.out V8 (HW.out.carry hA)).mono ?_
      rintro e V9 ⟨rfl, hb⟩
      clear hld
      replace i7 := i7.carry hb
      replace i9 := i9.carry hb
      replace i11 := i11.carry hb
      replace i13 := i13.carry hb
      replace hA := bthen hA hb
      clear hb
      go_upto_region 8 with (refine wpList_storeA rfl _ _ _ rfl V9.heap.size SD (List.replicate 48 0) rfl rfl (BlkI.new V9 30 (List.replicate 48 0)) (by rw [HsD.out]; rfl) (by rw [HsD.out]; exact Tryz.infoSp) ?_)
      obtain ⟨V10, hV10⟩ : ∃ v, v = World.setRow (World.alloc V9 (Obj.cells #[.int .i64 0, .int .i64 0, .int .i64 0, .int .i64 0, .int .i64 0, .int .i64 0, .int .i64 0, .int .i64 0, .int .i64 0, .int .i64 0, .int .i64 0, .int .i64 0, .int .i64 0, .int .i64 0, .int .i64 0, .int .i64 0, .int .i64 0, .int .i64 0, .int .i64 0, .int .i64 0, .int .i64 0, .int .i64 0, .int .i64 0, .int .i64 0, .int .i64 0, .int .i64 0, .int .i64 0, .int .i64 0, .int .i64 0, .int .i64 0, .int .i64 0, .int .i64 0, .int .i64 0, .int .i64 0, .int .i64 0, .int .i64 0, .int .i64 0, .int .i64 0, .int .i64 0, .int .i64 0, .int .i64 0, .int .i64 0, .int .i64 0, .int .i64 0, .int .i64 0, .int .i64 0, .int .i64 0, .int .i64 0] 30)) V9.heap.size (ia (SD)) := ⟨_, rfl⟩
      have kV10 : Below V9.heap.size V9 V10 := by rw [hV10]; exact zrow_below _ _ _ _
      have iV10 : BlkI V10 V9.heap.size 30 (SD) := by rw [hV10]; exact zrow_blk V9 _ (List.replicate 48 0) _
      rw [← hV10]
      clear hV10
      replace i7 := i7.carry kV10
      replace i9 := i9.carry kV10
      replace i11 := i11.carry kV10
      replace i13 := i13.carry kV10
      replace hA := bthen hA kV10
      have i15 := iV10
      obtain ⟨G15, hG⟩ : ∃ G, G = V9.heap.size := ⟨_, rfl⟩
      rw [← hG] at i15 ⊢
      clear kV10 iV10 hG
      have hld11 := load12 HLA.out i11
      have hld3 := load12 HLA.out (HI3.out.carry hA)
      have hld13 := load12 HDL.out i13
      have hne := HNE.out
      go_wp2_with (first | refine wpList_loadG (by rfl) _ _ rfl hld11 ?_ | refine wpList_loadG (by rfl) _ _ rfl hld3 ?_ | refine wpList_loadG (by rfl) _ _ rfl hld13 ?_)
      refine (RD.out V10).mono ?_
      rintro e V11 ⟨rfl, hb⟩
      clear hld11 hld3 hld13 hne
      replace i7 := i7.carry hb
      replace i9 := i9.carry hb
      replace i11 := i11.carry hb
      replace i13 := i13.carry hb
      replace i15 := i15.carry hb
      replace hA := bthen hA hb
      clear hb
      clear i11 i13
      have HI := Lib.hid (And.intro i7 (And.intro i9 i15))
      have HA11 := Lib.hid hA
      clear i7 i9 i15 hA
      go_upto_region 13 with fail
      obtain ⟨X1, hX1⟩ : ∃ v, v = World.alloc V11 (Obj.cells #[.int .i64 0, .int .i64 0] 37) := ⟨_, rfl⟩
      have kX1 : Below V11.heap.size V11 X1 := by rw [hX1]; exact below_new _ _
      have iX1 : BlkI X1 (V11.heap.size) 37 (List.replicate 2 0) := by rw [hX1]; exact BlkI.new V11 37 (List.replicate 2 0)
      have sX1 : X1.heap.size = V11.heap.size + 1 := by rw [hX1]; simp
      rw [← hX1]
      clear hX1
      obtain ⟨X2, hX2⟩ : ∃ v, v = World.alloc X1 (Obj.cells #[.int .i64 0, .int .i64 0, .int .i64 0, .int .i64 0, .int .i64 0, .int .i64 0, .int .i64 0, .int .i64 0, .int .i64 0, .int .i64 0, .int .i64 0, .int .i64 0, .int .i64 0, .int .i64 0, .int .i64 0, .int .i64 0, .int .i64 0, .int .i64 0, .int .i64 0, .int .i64 0, .int .i64 0, .int .i64 0, .int .i64 0, .int .i64 0] 38) := ⟨_, rfl⟩
      have kX2 : Below X1.heap.size X1 X2 := by rw [hX2]; exact below_new _ _
      have iX2 : BlkI X2 (V11.heap.size + 1) 38 (List.replicate 24 0) := by rw [hX2, ← sX1]; exact BlkI.new X1 38 (List.replicate 24 0)
      have sX2 : X2.heap.size = V11.heap.size + 1 + 1 := by rw [hX2]; simp [sX1]
      rw [← hX2]
      clear hX2
      have i18 : BlkI X2 V11.heap.size 37 [sumA la 0, sumB la 0] := iX1.carry kX2
      have i19 : BlkI X2 (V11.heap.size + 1) 38 (upto (rtF la 0) 24) := by rw [← rtF_zero]; exact iX2
      have hx := bthen kX1 kX2
      obtain ⟨G19, hG19⟩ : ∃ G, G = V11.heap.size + 1 := ⟨_, rfl⟩
      obtain ⟨G18, hG18⟩ : ∃ G, G = V11.heap.size := ⟨_, rfl⟩
      rw [← hG19] at i19 ⊢
      rw [← hG18] at i18 ⊢
      have h18 : V11.heap.size ≤ G18 := by omega
      have h19 : V11.heap.size ≤ G19 := by omega
      have hne : G18 ≠ G19 := by omega
      have HF := Lib.hid (And.intro h18 (And.intro h19 hne))
      clear iX1 iX2 kX1 kX2 sX1 sX2 hG18 hG19 h18 h19 hne
      go_wp2_with fail
      go_loopw [17, 94] (fun v17 v94 wr => ∃ k : Nat, k ≤ 12 ∧ v94 = .int .i64 k ∧ v17 = .int .i64 (sumQ la k) ∧ BlkI wr G18 37 [sumA la k, sumB la k] ∧ BlkI wr G19 38 (upto (rtF la k) 24) ∧ Below V11.heap.size V11 wr) (fun _ v94 _ => 12 - (intOf v94).toNat)
      case atStart => exact ⟨0, by omega, rfl, rfl, i18, i19, hx⟩
      case round =>
        clear i18 i19 hx
        obtain ⟨k, hk, rfl, rfl, i18, i19, hx⟩ := hrel
        by_cases hlt : k < 12
        · have d1 : (k : Int) < 12 := by omega
          have hA := bthen HA11.out hx
          have i3 := HI3.out.carry hA
          have c0 := BlkI.cell i3 (j := k) (by rw [HLA.out]; exact hlt)
          have hlv := lv_bd HBA.out k
          have hsq := sumQ_bd HBA.out k
          have hq1 : sumQ la (k + 1) = sumQ la k + la[k]?.getD 0 * la[k]?.getD 0 := rfl
          generalize la[k]?.getD 0 = x at c0 hlv hq1
          have hxx := mulb hlv hlv
          obtain ⟨y, hy⟩ : ∃ y, y = x * x := ⟨_, rfl⟩
          rw [← hy] at hq1 hxx
          have v0 : IntKind.i64.wrap (x * x) = y := by rw [← hy]; exact IntWalk.i64_in _ (by omega)
          generalize hsk : sumQ la k = sq at hsq hq1
          have v1 : IntKind.i64.wrap (sq + y) = sq + y := IntWalk.i64_in _ (by omega)
          have HQ1 := Lib.hid hq1
          have HSK := Lib.hid hsk
          clear hsk hy hq1 i3
          go_upto_region 16 with fail
          refine wp_region_E 99 (by kernel_rfl) ?_
          obtain ⟨wz, hwz⟩ : ∃ v, v = wr.drew := ⟨_, rfl⟩
          rw [← hwz]
          have hlz : Below wr.heap.size wr wz := by rw [hwz]; exact (Below.refl _ _).drew
          have hbz := bthen hx hlz
          have c0 := cellb c0 hlz
          have i18 := i18.carry hlz
          have i19 := i19.carry hlz
          clear hwz hlz
          refine wpAnyE_take (i := 0) (oi := { dst := some 97, op := Op.move (Operand.tmp 17), type := 3, pos := "law.go:320", after := #[], guard := none }) (v := ?_) rfl (by kernel_rfl) (by kernel_rfl) (by kernel_rfl) (by kernel_rfl) (fun _ _ _ h => h) (Or.inl ⟨by rfl, ?_⟩) ?_
          rotate_left
          · (intro w hE; have c0 := cellb c0 hE; (try dsimp only); go_simp); (try with_reducible rfl)
          try simp only [Act.put, List.setIfInBounds_toArray, List.set_cons_zero, List.set_cons_succ]
          refine wpAnyE_take (i := 1) (oi := { dst := some 98, op := Op.move (Operand.tmp 20), type := 3, pos := "law.go:320", after := #[], guard := none }) (v := ?_) rfl (by kernel_rfl) (by kernel_rfl) (by kernel_rfl) (by kernel_rfl) (fun _ _ _ h => h) (Or.inl ⟨by rfl, ?_⟩) ?_
          rotate_left
          · (intro w hE; have c0 := cellb c0 hE; (try dsimp only); go_simp); (try with_reducible rfl)
          try simp only [Act.put, List.setIfInBounds_toArray, List.set_cons_zero, List.set_cons_succ]
          refine wpAnyE_take (i := 2) (oi := { dst := some 99, op := Op.indexAddr 22 (Operand.tmp 3) (Operand.tmp 98), type := 0, pos := "law.go:320", after := #[{ on := 1, ground := Ground.data }], guard := none }) (v := ?_) rfl (by kernel_rfl) (by kernel_rfl) (by kernel_rfl) (by kernel_rfl) (fun _ _ _ h => h) (Or.inl ⟨by rfl, ?_⟩) ?_
          rotate_left
          · (intro w hE; have c0 := cellb c0 hE; (try dsimp only); go_simp); (try with_reducible rfl)
          try simp only [Act.put, List.setIfInBounds_toArray, List.set_cons_zero, List.set_cons_succ]
          refine wpAnyE_take (i := 3) (oi := { dst := some 100, op := Op.load 3 (Operand.tmp 99), type := 3, pos := "law.go:320", after := #[{ on := 2, ground := Ground.data }], guard := none }) (v := ?_) rfl (by kernel_rfl) (by kernel_rfl) (by kernel_rfl) (by kernel_rfl) (fun _ _ _ h => h) (Or.inl ⟨by rfl, ?_⟩) ?_
          rotate_left
          · (intro w hE; have c0 := cellb c0 hE; (try dsimp only); go_simp); (try with_reducible rfl)
          try simp only [Act.put, List.setIfInBounds_toArray, List.set_cons_zero, List.set_cons_succ]
          refine wpAnyE_take (i := 4) (oi := { dst := some 101, op := Op.move (Operand.tmp 20), type := 3, pos := "law.go:320", after := #[], guard := none }) (v := ?_) rfl (by kernel_rfl) (by kernel_rfl) (by kernel_rfl) (by kernel_rfl) (fun _ _ _ h => h) (Or.inl ⟨by rfl, ?_⟩) ?_
          rotate_left
          · (intro w hE; have c0 := cellb c0 hE; (try dsimp only); go_simp); (try with_reducible rfl)
          try simp only [Act.put, List.setIfInBounds_toArray, List.set_cons_zero, List.set_cons_succ]
          refine wpAnyE_take (i := 5) (oi := { dst := some 102, op := Op.indexAddr 22 (Operand.tmp 3) (Operand.tmp 101), type := 0, pos := "law.go:320", after := #[{ on := 4, ground := Ground.data }], guard := none }) (v := ?_) rfl (by kernel_rfl) (by kernel_rfl) (by kernel_rfl) (by kernel_rfl) (fun _ _ _ h => h) (Or.inl ⟨by rfl, ?_⟩) ?_
          rotate_left
          · (intro w hE; have c0 := cellb c0 hE; (try dsimp only); go_simp); (try with_reducible rfl)
          try simp only [Act.put, List.setIfInBounds_toArray, List.set_cons_zero, List.set_cons_succ]
          refine wpAnyE_take (i := 6) (oi := { dst := some 103, op := Op.load 3 (Operand.tmp 102), type := 3, pos := "law.go:320", after := #[{ on := 5, ground := Ground.data }], guard := none }) (v := ?_) rfl (by kernel_rfl) (by kernel_rfl) (by kernel_rfl) (by kernel_rfl) (fun _ _ _ h => h) (Or.inl ⟨by rfl, ?_⟩) ?_
          rotate_left
          · (intro w hE; have c0 := cellb c0 hE; (try dsimp only); go_simp); (try with_reducible rfl)
          try simp only [Act.put, List.setIfInBounds_toArray, List.set_cons_zero, List.set_cons_succ]
          refine wpAnyE_take (i := 7) (oi := { dst := some 104, op := Op.binOp BinOp.mul 3 (Operand.tmp 100) (Operand.tmp 103) 3, type := 3, pos := "law.go:320", after := #[{ on := 3, ground := Ground.data }, { on := 6, ground := Ground.data }], guard := none }) (v := ?_) rfl (by kernel_rfl) (by kernel_rfl) (by kernel_rfl) (by kernel_rfl) (fun _ _ _ h => h) (Or.inl ⟨by rfl, ?_⟩) ?_
          rotate_left
          · (intro w hE; have c0 := cellb c0 hE; (try dsimp only); go_simp); (try with_reducible rfl)
          try simp only [Act.put, List.setIfInBounds_toArray, List.set_cons_zero, List.set_cons_succ]
          refine wpAnyE_take (i := 8) (oi := { dst := some 105, op := Op.binOp BinOp.add 3 (Operand.tmp 97) (Operand.tmp 104) 3, type := 3, pos := "law.go:320", after := #[{ on := 0, ground := Ground.data }, { on := 7, ground := Ground.data }], guard := none }) (v := ?_) rfl (by kernel_rfl) (by kernel_rfl) (by kernel_rfl) (by kernel_rfl) (fun _ _ _ h => h) (Or.inl ⟨by rfl, ?_⟩) ?_
          rotate_left
          · (intro w hE; have c0 := cellb c0 hE; (try dsimp only); go_simp); (try with_reducible rfl)
          try simp only [Act.put, List.setIfInBounds_toArray, List.set_cons_zero, List.set_cons_succ]
          refine wpAnyE_take (i := 9) (oi := { dst := some 17, op := Op.assign (Operand.tmp 105), type := 3, pos := "law.go:320", after := #[{ on := 8, ground := Ground.data }, { on := 0, ground := Ground.phase }, { on := 1, ground := Ground.phase }, { on := 2, ground := Ground.phase }, { on := 3, ground := Ground.phase }, { on := 4, ground := Ground.phase }, { on := 5, ground := Ground.phase }, { on := 6, ground := Ground.phase }, { on := 7, ground := Ground.phase }, { on := 8, ground := Ground.phase }], guard := none }) (v := ?_) rfl (by kernel_rfl) (by kernel_rfl) (by kernel_rfl) (by kernel_rfl) (fun _ _ _ h => h) (Or.inl ⟨by rfl, ?_⟩) ?_
          rotate_left
          · (intro w hE; have c0 := cellb c0 hE; (try dsimp only); go_simp); (try with_reducible rfl)
          try simp only [Act.put, List.setIfInBounds_toArray, List.set_cons_zero, List.set_cons_succ]
          refine wpAnyE_done (by kernel_rfl) (fun wy1 hE => ?_) _
          have hbz1 := bthen hbz hE
          have c0 := cellb c0 hE
          have i18 := i18.carry hE
          have i19 := i19.carry hE
          clear hE
          clear hx
          have hx := hbz1
          obtain ⟨Y1, hY1⟩ : ∃ v, v = wy1 := ⟨_, rfl⟩
          rw [← hY1] at hx i18 i19 ⊢
          clear hY1 c0 v0 v1
          skip
          have ib := HI.out.1.carry hx
          have c0 := BlkI.cell ib (j := k * 4) (by rw [HsA.out]; omega)
          have c1 := BlkI.cell ib (j := k * 4 + 1) (by rw [HsA.out]; omega)
          have c2 := BlkI.cell ib (j := k * 4 + 2) (by rw [HsA.out]; omega)
          have c3 := BlkI.cell ib (j := k * 4 + 3) (by rw [HsA.out]; omega)
          rw [HSA.out] at c0 c1 c2 c3
          have q0 := specL_get (la) k 0 hlt (by omega)
          have q1 := specL_get (la) k 1 hlt (by omega)
          have q2 := specL_get (la) k 2 hlt (by omega)
          have q3 := specL_get (la) k 3 hlt (by omega)
          rw [Nat.add_zero] at q0
          rw [q0] at c0
          rw [q1] at c1
          rw [q2] at c2
          rw [q3] at c3
          have TSk := Lib.hid (fun W => strS_ok HBA.out k (orderC (la) (k : Int)) rfl W)
          obtain ⟨⟨s0, s1⟩, hss⟩ : ∃ s, s = strS la k := ⟨_, rfl⟩
          rw [← hss] at TSk
          have HSS := Lib.hid hss
          clear hss
          generalize orderC (la) (k : Int) = oo at c0 c1 c2 c3 TSk
          obtain ⟨o0, o1, o2, o3⟩ := oo
          simp only [cyAt] at c0 c1 c2 c3
          simp only at TSk
          clear q0 q1 q2 q3 ib
          go_wp2_with fail
          refine (TSk.out Y1).mono ?_
          rintro e Y2 ⟨rfl, hb⟩
          clear c0 c1 c2 c3 TSk
          replace i18 := i18.carry hb
          replace i19 := i19.carry hb
          replace hx := bthen hx hb
          clear hb
          go_upto_region 18 with (refine wpList_storeA rfl _ _ _ rfl Y2.heap.size [s0, s1] (List.replicate 2 0) rfl rfl (BlkI.new Y2 39 (List.replicate 2 0)) rfl Tryz.infoRoot ?_)
          obtain ⟨Y3, hY3⟩ : ∃ v, v = World.setRow (World.alloc Y2 (Obj.cells #[.int .i64 0, .int .i64 0] 39)) Y2.heap.size (ia ([s0, s1])) := ⟨_, rfl⟩
          have kY3 : Below Y2.heap.size Y2 Y3 := by rw [hY3]; exact zrow_below _ _ _ _
          have iY3 : BlkI Y3 Y2.heap.size 39 ([s0, s1]) := by rw [hY3]; exact zrow_blk Y2 _ (List.replicate 2 0) _
          rw [← hY3]
          clear hY3
          replace i18 := i18.carry kY3
          replace i19 := i19.carry kY3
          replace hx := bthen hx kY3
          have i21 := iY3
          obtain ⟨G21, hG⟩ : ∃ G, G = Y2.heap.size := ⟨_, rfl⟩
          rw [← hG] at i21 ⊢
          clear kY3 iY3 hG
          have ib := HI.out.2.2.carry hx
          have c0 := BlkI.cell ib (j := k * 4) (by rw [HsD.out]; omega)
          have c1 := BlkI.cell ib (j := k * 4 + 1) (by rw [HsD.out]; omega)
          have c2 := BlkI.cell ib (j := k * 4 + 2) (by rw [HsD.out]; omega)
          have c3 := BlkI.cell ib (j := k * 4 + 3) (by rw [HsD.out]; omega)
          rw [HSD.out] at c0 c1 c2 c3
          have q0 := specL_get (delL la n) k 0 hlt (by omega)
          have q1 := specL_get (delL la n) k 1 hlt (by omega)
          have q2 := specL_get (delL la n) k 2 hlt (by omega)
          have q3 := specL_get (delL la n) k 3 hlt (by omega)
          rw [Nat.add_zero] at q0
          rw [q0] at c0
          rw [q1] at c1
          rw [q2] at c2
          rw [q3] at c3
          have TSk := Lib.hid (fun W => strS_ok (del_bd HBA.out n) k (orderC (delL la n) (k : Int)) rfl W)
          rw [str_del HLA.out HBA.out n k hlt, ← HSS.out] at TSk
          generalize orderC (delL la n) (k : Int) = oo at c0 c1 c2 c3 TSk
          obtain ⟨o0, o1, o2, o3⟩ := oo
          simp only [cyAt] at c0 c1 c2 c3
          simp only at TSk
          clear q0 q1 q2 q3 ib
          go_wp2_with fail
          refine (TSk.out Y3).mono ?_
          rintro e Y4 ⟨rfl, hb⟩
          clear c0 c1 c2 c3 TSk
          replace i18 := i18.carry hb
          replace i19 := i19.carry hb
          replace hx := bthen hx hb
          replace i21 := i21.carry hb
          clear hb
          go_upto_region 19 with (refine wpList_storeA rfl _ _ _ rfl Y4.heap.size [s0, s1] (List.replicate 2 0) rfl rfl (BlkI.new Y4 39 (List.replicate 2 0)) rfl Tryz.infoRoot ?_)
          obtain ⟨Y5, hY5⟩ : ∃ v, v = World.setRow (World.alloc Y4 (Obj.cells #[.int .i64 0, .int .i64 0] 39)) Y4.heap.size (ia ([s0, s1])) := ⟨_, rfl⟩
          have kY5 : Below Y4.heap.size Y4 Y5 := by rw [hY5]; exact zrow_below _ _ _ _
          have iY5 : BlkI Y5 Y4.heap.size 39 ([s0, s1]) := by rw [hY5]; exact zrow_blk Y4 _ (List.replicate 2 0) _
          rw [← hY5]
          clear hY5
          replace i18 := i18.carry kY5
          replace i19 := i19.carry kY5
          replace hx := bthen hx kY5
          replace i21 := i21.carry kY5
          have i23 := iY5
          obtain ⟨G23, hG⟩ : ∃ G, G = Y4.heap.size := ⟨_, rfl⟩
          rw [← hG] at i23 ⊢
          clear kY5 iY5 hG
          have r0 : Y5.cell? ⟨G21, 0, none⟩ = some (.int .i64 s0) := BlkI.cell i21 (j := 0) (by simp)
          have r1 : Y5.cell? ⟨G21, 1, none⟩ = some (.int .i64 s1) := BlkI.cell i21 (j := 1) (by simp)
          have r2 : Y5.cell? ⟨G23, 0, none⟩ = some (.int .i64 s0) := BlkI.cell i23 (j := 0) (by simp)
          have r3 : Y5.cell? ⟨G23, 1, none⟩ = some (.int .i64 s1) := BlkI.cell i23 (j := 1) (by simp)
          have hnq := fun W => neqRootH s0 s1 W
          have hbs := strS_bd HBA.out k
          rw [← HSS.out] at hbs
          have TCR := Lib.hid (fun W => rootR_ok hbs.1 hbs.2 W)
          have HBS := Lib.hid hbs
          have HI2 := Lib.hid (And.intro i18 (And.intro i19 i21))
          have HX := Lib.hid hx
          have hR := Below.refl Y5.heap.size Y5
          clear i18 i19 i21 i23 hx hbs
          go_upto_region 19 with fail
          go_cut [135] from 120 to 135 (fun u135 wn => u135 = .bool false ∧ Below Y5.heap.size Y5 wn)
          case first =>
            go_wp2_with fail
            refine (TCR.out Y5).mono ?_
            rintro e Y6 ⟨rfl, hb⟩
            go_wp2_with fail
            go_meet
            exact ⟨rfl, hb⟩
          case rest =>
            clear r0 r1 r2 r3 hnq hR
            obtain ⟨rfl, hc⟩ := hcut
            have i18 := HI2.out.1.carry hc
            have i19 := HI2.out.2.1.carry hc
            have i21 := HI2.out.2.2.carry hc
            have hx := bthen HX.out hc
            clear hc
            have r0 : wc.cell? ⟨G21, 0, none⟩ = some (.int .i64 s0) := BlkI.cell i21 (j := 0) (by simp)
            have r1 : wc.cell? ⟨G21, 1, none⟩ = some (.int .i64 s1) := BlkI.cell i21 (j := 1) (by simp)
            have hsp := rtF_set la k hlt
            rw [← HSS.out] at hsp
            simp only at hsp
            obtain ⟨L, hL⟩ : ∃ L, L = upto (rtF la k) 24 := ⟨_, rfl⟩
            have hLl : L.length = 24 := by rw [hL]; exact upto_length _ _
            rw [← hL] at i19 hsp
            have HSP := Lib.hid hsp
            clear hL hsp
            have c0 := BlkI.cell (l := L) i19 (j := k * 2) (by omega)
            have c1 := BlkI.cell (l := L) i19 (j := k * 2 + 1) (by omega)
            have f0 := i19.frozen (k * 2)
            have f1 := i19.frozen (k * 2 + 1)
            have hne21 : G21 ≠ G19 := Blk.ne i21 i19 (by decide)
            go_upto_region 22 with fail
            have hF := HF.out
            obtain ⟨Z, hZ⟩ : ∃ Z, Z = (wc.setCell ⟨G19, k * 2, none⟩ (.int .i64 s0)).setCell ⟨G19, k * 2 + 1, none⟩ (.int .i64 s1) := ⟨_, rfl⟩
            rw [← hZ]
            have i19z : BlkI Z G19 38 (upto (rtF la (k + 1)) 24) := by
              have h := (BlkI.set (l := L) i19 (k * 2) s0).set (k * 2 + 1) s1
              rw [HSP.out, ← hZ] at h
              exact h
            have i18z : BlkI Z G18 37 [sumA la k, sumB la k] := by rw [hZ]; exact (i18.other hF.2.2 _).other hF.2.2 _
            have hxz : Below V11.heap.size V11 Z := by rw [hZ]; exact (hx.setCell (by simp; exact hF.2.1) _).setCell (by simp; exact hF.2.1) _
            have r0z : Z.cell? ⟨G21, 0, none⟩ = some (.int .i64 s0) := by
              have h : BlkI Z G21 39 [s0, s1] := by rw [hZ]; exact (i21.other hne21 _).other hne21 _
              exact BlkI.cell h (j := 0) (by simp)
            have r1z : Z.cell? ⟨G21, 1, none⟩ = some (.int .i64 s1) := by
              have h : BlkI Z G21 39 [s0, s1] := by rw [hZ]; exact (i21.other hne21 _).other hne21 _
              exact BlkI.cell h (j := 1) (by simp)
            have HSA1 := Lib.hid (show sumA la (k + 1) = sumA la k + s0 by rw [sumA, ← HSS.out])
            have HSB1 := Lib.hid (show sumB la (k + 1) = sumB la k + s1 by rw [sumB, ← HSS.out])
            have ba := sumA_bd HBA.out k
            have bb := sumB_bd HBA.out k
            have hbs := HBS.out
            simp only at hbs
            obtain ⟨hs0, hs1⟩ := hbs
            clear c0 c1 f0 f1 r0 r1 hF i18 i19 i21 hx hZ hne21
            obtain ⟨sa, hsa⟩ : ∃ s, s = sumA la k := ⟨_, rfl⟩
            obtain ⟨sb, hsb⟩ : ∃ s, s = sumB la k := ⟨_, rfl⟩
            rw [← hsa] at HSA1 ba i18z
            rw [← hsb] at HSB1 bb i18z
            clear hsa hsb
            have ba2 : -103680000 ≤ sa ∧ sa ≤ 103680000 := by omega
            have bb2 : -34560000 ≤ sb ∧ sb ≤ 34560000 := by omega
            clear ba bb
            have c0 : Z.cell? ⟨G18, 0, none⟩ = some (.int .i64 sa) := BlkI.cell i18z (j := 0) (by simp)
            have c1 : Z.cell? ⟨G18, 1, none⟩ = some (.int .i64 sb) := BlkI.cell i18z (j := 1) (by simp)
            go_upto_region 23 with (refine wpList_storeA rfl _ _ _ rfl G18 [sa + s0, sb + s1] [sa, sb] rfl rfl i18z rfl Tryz.infoRootR ?_)
            obtain ⟨Z2, hZ2⟩ : ∃ v, v = World.setRow Z G18 (ia [sa + s0, sb + s1]) := ⟨_, rfl⟩
            have i18y : BlkI Z2 G18 37 [sumA la (k + 1), sumB la (k + 1)] := by rw [HSA1.out, HSB1.out, hZ2]; exact BlkI.setRowA i18z _
            have i19y : BlkI Z2 G19 38 (upto (rtF la (k + 1)) 24) := by rw [hZ2]; exact Blk.setRow i19z HF.out.2.2.symm _
            have hxy : Below V11.heap.size V11 Z2 := by rw [hZ2]; exact below_rowA hxz HF.out.1 _
            rw [← hZ2]
            clear hZ2 i18z i19z hxz c0 c1 r0z r1z
            go_wp2_with fail
            go_roundw
            case rel => exact ⟨k + 1, by omega, by go_num, by rw [HQ1.out], i18y, i19y, hxy⟩
            case measure => simp [intOf]; omega
        · obtain rfl : k = 12 := by omega
          clear hk hlt
          go_wp2_with fail
          go_loopw [25] (fun v25 wr => ∃ j : Nat, 1 ≤ j ∧ j ≤ 12 ∧ v25 = .int .i64 j ∧ BlkI wr G18 37 [sumA la 12, sumB la 12] ∧ BlkI wr G19 38 (upto (rtF la 12) 24) ∧ Below V11.heap.size V11 wr) (fun v25 _ => 12 - (intOf v25).toNat)
          case atStart => exact ⟨1, by omega, by omega, rfl, i18, i19, hx⟩
          case round =>
            clear i18 i19 hx
            obtain ⟨j, hj1, hj, rfl, i18, i19, hx⟩ := hrel
            by_cases hlt : j < 12
            · have d1 : (j : Int) < 12 := by omega
              have d3 : (1 : Int) ≤ (j : Int) := by omega
              obtain ⟨m, hm⟩ : ∃ m : Nat, m = 12 - j := ⟨_, rfl⟩
              have d2 : (m : Int) < 12 := by omega
              have d4 : m < 12 := by omega
              have v0 : IntKind.i64.wrap (12 - (j : Int)) = (m : Int) := (IntWalk.i64_in _ (by omega)).trans (by omega)
              have hsy := str_sym HLA.out HBA.out j hj1 (by omega)
              rw [← hm] at hsy
              clear hm
              have c0 := BlkI.cell i19 (j := j * 2) (by rw [upto_length]; omega)
              have c1 := BlkI.cell i19 (j := j * 2 + 1) (by rw [upto_length]; omega)
              have c2 := BlkI.cell i19 (j := m * 2) (by rw [upto_length]; omega)
              have c3 := BlkI.cell i19 (j := m * 2 + 1) (by rw [upto_length]; omega)
              rw [rt_get0 la hlt, hsy] at c0
              rw [rt_get1 la hlt, hsy] at c1
              rw [rt_get0 la d4] at c2
              rw [rt_get1 la d4] at c3
              clear hsy
              generalize strS la m = s at c0 c1 c2 c3
              obtain ⟨s0, s1⟩ := s
              simp only at c0 c1 c2 c3
              have hnq := fun W => neqRootR s0 s1 W
              go_upto_region 27 with fail
              refine wp_region_E 99 (by kernel_rfl) ?_
              obtain ⟨wz, hwz⟩ : ∃ v, v = wr.drew := ⟨_, rfl⟩
              rw [← hwz]
              have hlz : Below wr.heap.size wr wz := by rw [hwz]; exact (Below.refl _ _).drew
              have hbz := bthen hx hlz
              have c0 := cellb c0 hlz
              have c1 := cellb c1 hlz
              have c2 := cellb c2 hlz
              have c3 := cellb c3 hlz
              have i18 := i18.carry hlz
              have i19 := i19.carry hlz
              clear hwz hlz
              refine wpAnyE_take (i := 0) (oi := { dst := some 155, op := Op.move (Operand.tmp 25), type := 3, pos := "law.go:330", after := #[], guard := none }) (v := ?_) rfl (by kernel_rfl) (by kernel_rfl) (by kernel_rfl) (by kernel_rfl) (fun _ _ _ h => h) (Or.inl ⟨by rfl, ?_⟩) ?_
              rotate_left
              · (intro w hE; have c0 := cellb c0 hE; have c1 := cellb c1 hE; have c2 := cellb c2 hE; have c3 := cellb c3 hE; (try dsimp only); go_simp); (try with_reducible rfl)
              try simp only [Act.put, List.setIfInBounds_toArray, List.set_cons_zero, List.set_cons_succ]
              refine wpAnyE_take (i := 1) (oi := { dst := some 156, op := Op.indexAddr 38 (Operand.tmp 19) (Operand.tmp 155), type := 0, pos := "law.go:330", after := #[{ on := 0, ground := Ground.data }], guard := none }) (v := ?_) rfl (by kernel_rfl) (by kernel_rfl) (by kernel_rfl) (by kernel_rfl) (fun _ _ _ h => h) (Or.inl ⟨by rfl, ?_⟩) ?_
              rotate_left
              · (intro w hE; have c0 := cellb c0 hE; have c1 := cellb c1 hE; have c2 := cellb c2 hE; have c3 := cellb c3 hE; (try dsimp only); go_simp); (try with_reducible rfl)
              try simp only [Act.put, List.setIfInBounds_toArray, List.set_cons_zero, List.set_cons_succ]
              refine wpAnyE_take (i := 2) (oi := { dst := some 157, op := Op.load 37 (Operand.tmp 156), type := 37, pos := "law.go:330", after := #[{ on := 1, ground := Ground.data }], guard := none }) (v := ?_) rfl (by kernel_rfl) (by kernel_rfl) (by kernel_rfl) (by kernel_rfl) (fun _ _ _ h => h) (Or.inl ⟨by rfl, ?_⟩) ?_
              rotate_left
              · (intro w hE; have c0 := cellb c0 hE; have c1 := cellb c1 hE; have c2 := cellb c2 hE; have c3 := cellb c3 hE; (try dsimp only); go_simp); (try with_reducible rfl)
              try simp only [Act.put, List.setIfInBounds_toArray, List.set_cons_zero, List.set_cons_succ]
              refine wpAnyE_take (i := 3) (oi := { dst := some 158, op := Op.move (Operand.tmp 25), type := 3, pos := "law.go:330", after := #[], guard := none }) (v := ?_) rfl (by kernel_rfl) (by kernel_rfl) (by kernel_rfl) (by kernel_rfl) (fun _ _ _ h => h) (Or.inl ⟨by rfl, ?_⟩) ?_
              rotate_left
              · (intro w hE; have c0 := cellb c0 hE; have c1 := cellb c1 hE; have c2 := cellb c2 hE; have c3 := cellb c3 hE; (try dsimp only); go_simp); (try with_reducible rfl)
              try simp only [Act.put, List.setIfInBounds_toArray, List.set_cons_zero, List.set_cons_succ]
              refine wpAnyE_take (i := 4) (oi := { dst := some 159, op := Op.binOp BinOp.sub 3 (Operand.const (Value.int IntKind.i64 12)) (Operand.tmp 158) 3, type := 3, pos := "law.go:330", after := #[{ on := 3, ground := Ground.data }], guard := none }) (v := ?_) rfl (by kernel_rfl) (by kernel_rfl) (by kernel_rfl) (by kernel_rfl) (fun _ _ _ h => h) (Or.inl ⟨by rfl, ?_⟩) ?_
              rotate_left
              · (intro w hE; have c0 := cellb c0 hE; have c1 := cellb c1 hE; have c2 := cellb c2 hE; have c3 := cellb c3 hE; (try dsimp only); go_simp); (try with_reducible rfl)
              try simp only [Act.put, List.setIfInBounds_toArray, List.set_cons_zero, List.set_cons_succ]
              refine wpAnyE_take (i := 5) (oi := { dst := some 160, op := Op.indexAddr 38 (Operand.tmp 19) (Operand.tmp 159), type := 0, pos := "law.go:330", after := #[{ on := 4, ground := Ground.data }], guard := none }) (v := ?_) rfl (by kernel_rfl) (by kernel_rfl) (by kernel_rfl) (by kernel_rfl) (fun _ _ _ h => h) (Or.inl ⟨by rfl, ?_⟩) ?_
              rotate_left
              · (intro w hE; have c0 := cellb c0 hE; have c1 := cellb c1 hE; have c2 := cellb c2 hE; have c3 := cellb c3 hE; (try dsimp only); go_simp); (try with_reducible rfl)
              try simp only [Act.put, List.setIfInBounds_toArray, List.set_cons_zero, List.set_cons_succ]
              refine wpAnyE_take (i := 6) (oi := { dst := some 161, op := Op.load 37 (Operand.tmp 160), type := 37, pos := "law.go:330", after := #[{ on := 5, ground := Ground.data }], guard := none }) (v := ?_) rfl (by kernel_rfl) (by kernel_rfl) (by kernel_rfl) (by kernel_rfl) (fun _ _ _ h => h) (Or.inl ⟨by rfl, ?_⟩) ?_
              rotate_left
              · (intro w hE; have c0 := cellb c0 hE; have c1 := cellb c1 hE; have c2 := cellb c2 hE; have c3 := cellb c3 hE; (try dsimp only); go_simp); (try with_reducible rfl)
              try simp only [Act.put, List.setIfInBounds_toArray, List.set_cons_zero, List.set_cons_succ]
              refine wpAnyE_take (i := 7) (oi := { dst := some 162, op := Op.binOp BinOp.neq 37 (Operand.tmp 157) (Operand.tmp 161) 37, type := 4, pos := "law.go:330", after := #[{ on := 2, ground := Ground.data }, { on := 6, ground := Ground.data }], guard := none }) (v := ?_) rfl (by kernel_rfl) (by kernel_rfl) (by kernel_rfl) (by kernel_rfl) (fun _ _ _ h => h) (Or.inl ⟨by rfl, ?_⟩) ?_
              rotate_left
              · (intro w hE; have c0 := cellb c0 hE; have c1 := cellb c1 hE; have c2 := cellb c2 hE; have c3 := cellb c3 hE; (try dsimp only); go_simp); (try with_reducible rfl)
              try simp only [Act.put, List.setIfInBounds_toArray, List.set_cons_zero, List.set_cons_succ]
              refine wpAnyE_done (by kernel_rfl) (fun wy1 hE => ?_) _
              have hbz1 := bthen hbz hE
              have c0 := cellb c0 hE
              have c1 := cellb c1 hE
              have c2 := cellb c2 hE
              have c3 := cellb c3 hE
              have i18 := i18.carry hE
              have i19 := i19.carry hE
              clear hE
              clear hx
              have hx := hbz1
              obtain ⟨Y1, hY1⟩ : ∃ v, v = wy1 := ⟨_, rfl⟩
              rw [← hY1] at hx i18 i19 ⊢
              clear hY1 c0 c1 c2 c3 v0 hnq
              go_wp2_with fail
              go_roundw
              case rel => exact ⟨j + 1, by omega, by omega, by go_num, i18, i19, hx⟩
              case measure => simp [intOf]; omega
            · obtain rfl : j = 12 := by omega
              clear hj1 hj hlt
              have e0 : wr.cell? ⟨G18, 0, none⟩ = some (.int .i64 (sumA la 12)) := BlkI.cell i18 (j := 0) (by simp)
              have e1 : wr.cell? ⟨G18, 1, none⟩ = some (.int .i64 (sumB la 12)) := BlkI.cell i18 (j := 1) (by simp)
              rw [str_sumA HLA.out HBA.out] at e0
              rw [str_sumB HLA.out HBA.out] at e1
              have c0 : wr.cell? ⟨G19, 10, none⟩ = some (.int .i64 (strS la 5).1) := by rw [← rt_get0 la (k := 5) (by omega)]; exact BlkI.cell i19 (j := 10) (by rw [upto_length]; omega)
              have c1 : wr.cell? ⟨G19, 11, none⟩ = some (.int .i64 (strS la 5).2) := by rw [← rt_get1 la (k := 5) (by omega)]; exact BlkI.cell i19 (j := 11) (by rw [upto_length]; omega)
              have c2 : wr.cell? ⟨G19, 2, none⟩ = some (.int .i64 (strS la 1).1) := by rw [← rt_get0 la (k := 1) (by omega)]; exact BlkI.cell i19 (j := 2) (by rw [upto_length]; omega)
              have c3 : wr.cell? ⟨G19, 3, none⟩ = some (.int .i64 (strS la 1).2) := by rw [← rt_get1 la (k := 1) (by omega)]; exact BlkI.cell i19 (j := 3) (by rw [upto_length]; omega)
              rw [str_conj HLA.out HBA.out] at c0 c1
              simp only at c0 c1
              have hbs := strS_bd HBA.out 1
              obtain ⟨S1, hS1⟩ : ∃ s, s = strS la 1 := ⟨_, rfl⟩
              rw [← hS1] at c0 c1 c2 c3 hbs
              have HS1 := Lib.hid hS1
              clear hS1
              obtain ⟨s0, s1⟩ := S1
              simp only at c0 c1 c2 c3 hbs
              obtain ⟨b0, b1⟩ := hbs
              obtain ⟨sq, hsq⟩ : ∃ s, s = sumQ la 12 := ⟨_, rfl⟩
              have bq : -120000 ≤ sq ∧ sq ≤ 120000 := by
                have := sumQ_bd HBA.out 12
                omega
              rw [← hsq] at e0 ⊢
              clear hsq
              have hn1 := fun W => neqRootR (12 * sq) 0 W
              have hn2 := fun W => neqRootR s0 (-s1) W
              have HI3b := Lib.hid i19
              clear i18 i19
              go_upto_region 31 with fail
              clear e0 e1 hn1 hn2 c0 c1 c2 c3 bq
              obtain ⟨V20, rfl⟩ : ∃ v, v = wr := ⟨_, rfl⟩
              have i7 := HI.out.1.carry hx
              have i9 := HI.out.2.1.carry hx
              have hbx := order_all HBA.out ((1 : Nat) : Int)
              have hby := order_all HBB.out ((2 : Nat) : Int)
              have C1 := spec_cells HSA.out i7 1 (by omega)
              have C2 := spec_cells HSB.out i9 2 (by omega)
              have TY := Lib.hid (fun W => strS_ok HBB.out 2 (orderC lb ((2 : Nat) : Int)) rfl W)
              have hnx : (s0, s1) = nrm (orderC la ((1 : Nat) : Int)) := HS1.out.trans (strS_nrm HBA.out 1)
              have hny := strS_nrm HBB.out 2
              have hbo := strS_bd HBB.out 2
              obtain ⟨px, hpx⟩ : ∃ o, o = orderC la ((1 : Nat) : Int) := ⟨_, rfl⟩
              obtain ⟨py, hpy⟩ : ∃ o, o = orderC lb ((2 : Nat) : Int) := ⟨_, rfl⟩
              rw [← hpx] at hbx C1 hnx
              rw [← hpy] at hby C2 hny TY
              obtain ⟨SY, hSY⟩ : ∃ s, s = strS lb 2 := ⟨_, rfl⟩
              rw [← hSY] at hny TY hbo
              have HPY := Lib.hid hpy
              clear hSY hpx hpy
              obtain ⟨o0, o1⟩ := SY
              have hz := nrm_mul px py
              rw [← hnx, ← hny] at hz
              simp only at hz hbo
              obtain ⟨g0, g1⟩ := hbo
              have TP := Lib.hid (fun W => prod_ok hbx hby W)
              obtain ⟨pz, hpz⟩ : ∃ o, o = prC px py := ⟨_, rfl⟩
              rw [← hpz] at hz TP
              clear hpz hnx hny hbx hby
              have TC := Lib.hid (fun W => CheckCycloR_any pz.1 pz.2.1 pz.2.2.1 pz.2.2.2 W)
              have TX := Lib.hid (fun (h : cycE pz.1 pz.2.1 pz.2.2.1 pz.2.2.2 = 0) W => strX_ok (cyc_bd h) W)
              rw [hz] at TX
              obtain ⟨ce, hce⟩ : ∃ c, c = cycE pz.1 pz.2.1 pz.2.2.1 pz.2.2.2 := ⟨_, rfl⟩
              rw [← hce] at TC TX
              clear hz hce
              obtain ⟨px0, px1, px2, px3⟩ := px
              obtain ⟨py0, py1, py2, py3⟩ := py
              obtain ⟨pz0, pz1, pz2, pz3⟩ := pz
              simp only at C1 C2 TP TC TX TY
              obtain ⟨c0, c1, c2, c3⟩ := C1
              obtain ⟨d0, d1, d2, d3⟩ := C2
              clear i7 i9
              have HG0 := Lib.hid g0
              have HG1 := Lib.hid g1
              have HB0 := Lib.hid b0
              have HB1 := Lib.hid b1
              clear g0 g1 b0 b1
              go_wp2_with fail
              refine (TP.out V20).mono ?_
              rintro e Y1 ⟨rfl, hb⟩
              clear c0 c1 c2 c3 d0 d1 d2 d3
              replace hx := bthen hx hb
              have HI3c := Lib.hid (HI3b.out.carry hb)
              clear hb
              go_upto_region 32 with (refine wpList_storeA rfl _ _ _ rfl Y1.heap.size [pz0, pz1, pz2, pz3] (List.replicate 4 0) rfl rfl (BlkI.new Y1 29 (List.replicate 4 0)) rfl Tryz.infoCyZ ?_)
              obtain ⟨Y2, hY2⟩ : ∃ v, v = World.setRow (World.alloc Y1 (Obj.cells #[.int .i64 0, .int .i64 0, .int .i64 0, .int .i64 0] 29)) Y1.heap.size (ia ([pz0, pz1, pz2, pz3])) := ⟨_, rfl⟩
              have kY2 : Below Y1.heap.size Y1 Y2 := by rw [hY2]; exact zrow_below _ _ _ _
              have iY2 : BlkI Y2 Y1.heap.size 29 ([pz0, pz1, pz2, pz3]) := by rw [hY2]; exact zrow_blk Y1 _ (List.replicate 4 0) _
              rw [← hY2]
              clear hY2
              replace hx := bthen hx kY2
              have HI3d := Lib.hid (HI3c.out.carry kY2)
              obtain ⟨G26, hG⟩ : ∃ G, G = Y1.heap.size := ⟨_, rfl⟩
              rw [← hG] at iY2 ⊢
              clear kY2 hG HI3b HI3c
              have c0 : Y2.cell? ⟨G26, 0, none⟩ = some (.int .i64 pz0) := BlkI.cell iY2 (j := 0) (by simp)
              have c1 : Y2.cell? ⟨G26, 1, none⟩ = some (.int .i64 pz1) := BlkI.cell iY2 (j := 1) (by simp)
              have c2 : Y2.cell? ⟨G26, 2, none⟩ = some (.int .i64 pz2) := BlkI.cell iY2 (j := 2) (by simp)
              have c3 : Y2.cell? ⟨G26, 3, none⟩ = some (.int .i64 pz3) := BlkI.cell iY2 (j := 3) (by simp)
              go_wp2_with fail
              refine (TC.out Y2).mono ?_
              rintro e Y3 ⟨rfl, hb⟩
              clear c0 c1 c2 c3
              replace hx := bthen hx hb
              have i26 := iY2.carry hb
              have i19 := HI3d.out.carry hb
              clear iY2 hb HI3d
              have HI2 := Lib.hid (And.intro i26 i19)
              have HX := Lib.hid hx
              clear i26 i19 hx
              go_upto_if 193 with fail
              go_cut [28, 29, 30, 31, 32] from 193 to 240 (fun u28 u29 u30 u31 u32 wn => Below V11.heap.size V11 wn)
              case first =>
                have i26 := HI2.out.1
                have i19 := HI2.out.2
                have hx := HX.out
                by_cases hz : ce = 0
                · have hzb : (ce == 0) = true := by rw [hz]; rfl
                  have TXX := Lib.hid (fun W => TX.out hz W)
                  clear hz
                  have c0 : Y3.cell? ⟨G26, 0, none⟩ = some (.int .i64 pz0) := BlkI.cell i26 (j := 0) (by simp)
                  have c1 : Y3.cell? ⟨G26, 1, none⟩ = some (.int .i64 pz1) := BlkI.cell i26 (j := 1) (by simp)
                  have c2 : Y3.cell? ⟨G26, 2, none⟩ = some (.int .i64 pz2) := BlkI.cell i26 (j := 2) (by simp)
                  have c3 : Y3.cell? ⟨G26, 3, none⟩ = some (.int .i64 pz3) := BlkI.cell i26 (j := 3) (by simp)
                  go_wp2_with fail
                  refine (TXX.out Y3).mono ?_
                  rintro e Y4 ⟨rfl, hb⟩
                  clear c0 c1 c2 c3 i26
                  replace hx := bthen hx hb
                  replace i19 := i19.carry hb
                  clear hb
                  obtain ⟨t0, ht0⟩ : ∃ t, t = s0 * o0 + 3 * s1 * o1 := ⟨_, rfl⟩
                  obtain ⟨t1, ht1⟩ : ∃ t, t = s0 * o1 + s1 * o0 := ⟨_, rfl⟩
                  rw [← ht0, ← ht1]
                  obtain ⟨m0, r1, m1, m2, m3, e0, e1, e2, e3, e4, e5, e6⟩ := prod_wraps HB0.out HB1.out HG0.out HG1.out
                  rw [← ht0] at e3
                  rw [← ht1] at e6
                  have HT := Lib.hid (And.intro e0 (And.intro e1 (And.intro e2 (And.intro e3 (And.intro e4 (And.intro e5 e6))))))
                  clear e0 e1 e2 e3 e4 e5 e6 ht0 ht1
                  go_upto_region 36 with (refine wpList_storeA rfl _ _ _ rfl Y4.heap.size [t0, t1] (List.replicate 2 0) rfl rfl (BlkI.new Y4 39 (List.replicate 2 0)) rfl Tryz.infoRoot ?_)
                  obtain ⟨Y5, hY5⟩ : ∃ v, v = World.setRow (World.alloc Y4 (Obj.cells #[.int .i64 0, .int .i64 0] 39)) Y4.heap.size (ia ([t0, t1])) := ⟨_, rfl⟩
                  have kY5 : Below Y4.heap.size Y4 Y5 := by rw [hY5]; exact zrow_below _ _ _ _
                  have iY5 : BlkI Y5 Y4.heap.size 39 ([t0, t1]) := by rw [hY5]; exact zrow_blk Y4 _ (List.replicate 2 0) _
                  rw [← hY5]
                  clear hY5
                  replace hx := bthen hx kY5
                  replace i19 := i19.carry kY5
                  obtain ⟨G28, hG⟩ : ∃ G, G = Y4.heap.size := ⟨_, rfl⟩
                  rw [← hG] at iY5 ⊢
                  clear kY5 hG
                  have i28 := iY5
                  clear iY5
                  have i9 := HI.out.2.1.carry hx
                  have C2 := spec_cells HSB.out i9 2 (by omega)
                  rw [← HPY.out] at C2
                  simp only at C2
                  obtain ⟨d0, d1, d2, d3⟩ := C2
                  clear i9
                  go_wp2_with fail
                  refine (TY.out Y5).mono ?_
                  rintro e Y6 ⟨rfl, hb⟩
                  clear d0 d1 d2 d3
                  replace hx := bthen hx hb
                  replace i28 := i28.carry hb
                  replace i19 := i19.carry hb
                  clear hb
                  go_upto_region 37 with (refine wpList_storeA rfl _ _ _ rfl Y6.heap.size [o0, o1] (List.replicate 2 0) rfl rfl (BlkI.new Y6 39 (List.replicate 2 0)) rfl Tryz.infoRoot ?_)
                  obtain ⟨Y7, hY7⟩ : ∃ v, v = World.setRow (World.alloc Y6 (Obj.cells #[.int .i64 0, .int .i64 0] 39)) Y6.heap.size (ia ([o0, o1])) := ⟨_, rfl⟩
                  have kY7 : Below Y6.heap.size Y6 Y7 := by rw [hY7]; exact zrow_below _ _ _ _
                  have iY7 : BlkI Y7 Y6.heap.size 39 ([o0, o1]) := by rw [hY7]; exact zrow_blk Y6 _ (List.replicate 2 0) _
                  rw [← hY7]
                  clear hY7
                  replace hx := bthen hx kY7
                  replace i19 := i19.carry kY7
                  replace i28 := i28.carry kY7
                  obtain ⟨G30, hG⟩ : ∃ G, G = Y6.heap.size := ⟨_, rfl⟩
                  rw [← hG] at iY7 ⊢
                  clear kY7 hG
                  have i30 := iY7
                  clear iY7
                  have c2 : Y7.cell? ⟨G19, 2, none⟩ = some (.int .i64 (strS la 1).1) := by rw [← rt_get0 la (k := 1) (by omega)]; exact BlkI.cell i19 (j := 2) (by rw [upto_length]; omega)
                  have c3 : Y7.cell? ⟨G19, 3, none⟩ = some (.int .i64 (strS la 1).2) := by rw [← rt_get1 la (k := 1) (by omega)]; exact BlkI.cell i19 (j := 3) (by rw [upto_length]; omega)
                  rw [← HS1.out] at c2 c3
                  simp only at c2 c3
                  go_upto_region 38 with (refine wpList_storeA rfl _ _ _ rfl Y7.heap.size [s0, s1] (List.replicate 2 0) rfl rfl (BlkI.new Y7 37 (List.replicate 2 0)) rfl Tryz.infoRootR ?_)
                  obtain ⟨Y8, hY8⟩ : ∃ v, v = World.setRow (World.alloc Y7 (Obj.cells #[.int .i64 0, .int .i64 0] 37)) Y7.heap.size (ia ([s0, s1])) := ⟨_, rfl⟩
                  have kY8 : Below Y7.heap.size Y7 Y8 := by rw [hY8]; exact zrow_below _ _ _ _
                  have iY8 : BlkI Y8 Y7.heap.size 37 ([s0, s1]) := by rw [hY8]; exact zrow_blk Y7 _ (List.replicate 2 0) _
                  rw [← hY8]
                  clear hY8
                  replace hx := bthen hx kY8
                  replace i28 := i28.carry kY8
                  replace i30 := i30.carry kY8
                  obtain ⟨G32, hG⟩ : ∃ G, G = Y7.heap.size := ⟨_, rfl⟩
                  rw [← hG] at iY8 ⊢
                  clear kY8 hG c2 c3 i19
                  have c280 : Y8.cell? ⟨G28, 0, none⟩ = some (.int .i64 t0) := BlkI.cell i28 (j := 0) (by simp)
                  have c281 : Y8.cell? ⟨G28, 1, none⟩ = some (.int .i64 t1) := BlkI.cell i28 (j := 1) (by simp)
                  have c300 : Y8.cell? ⟨G30, 0, none⟩ = some (.int .i64 o0) := BlkI.cell i30 (j := 0) (by simp)
                  have c301 : Y8.cell? ⟨G30, 1, none⟩ = some (.int .i64 o1) := BlkI.cell i30 (j := 1) (by simp)
                  have c320 : Y8.cell? ⟨G32, 0, none⟩ = some (.int .i64 s0) := BlkI.cell iY8 (j := 0) (by simp)
                  have c321 : Y8.cell? ⟨G32, 1, none⟩ = some (.int .i64 s1) := BlkI.cell iY8 (j := 1) (by simp)
                  obtain ⟨e0, e1, e2, e3, e4, e5, e6⟩ := HT.out
                  have hnq := fun W => neqRootH t0 t1 W
                  go_wp2_with fail
                  go_meet
                  exact hx
                · have hzb : (ce == 0) = false := by simpa using hz
                  go_wp2_with fail
                  go_meet
                  exact hx
              case rest =>
                have hx : Below V11.heap.size V11 wc := hcut
                clear hcut
                go_upto_region 41 with fail
                obtain ⟨X3, hX3⟩ : ∃ v, v = World.alloc wc (Obj.cells #[.int .i64 0, .int .i64 0, .int .i64 0, .int .i64 0, .int .i64 0, .int .i64 0, .int .i64 0, .int .i64 0, .int .i64 0, .int .i64 0, .int .i64 0, .int .i64 0] 22) := ⟨_, rfl⟩
                have kX3 : Below wc.heap.size wc X3 := by rw [hX3]; exact below_new _ _
                have iX3 : BlkI X3 (wc.heap.size) 22 (List.replicate 12 0) := by rw [hX3]; exact BlkI.new wc 22 (List.replicate 12 0)
                have sX3 : X3.heap.size = wc.heap.size + 1 := by rw [hX3]; simp
                rw [← hX3]
                clear hX3
                have h33 : V11.heap.size ≤ wc.heap.size := hx.size
                replace hx := bthen hx kX3
                obtain ⟨G33, hG⟩ : ∃ G, G = wc.heap.size := ⟨_, rfl⟩
                rw [← hG] at iX3 h33 ⊢
                have i33 : BlkI X3 G33 22 (upto (sumF la lb 0) 12) := by rw [← sumF_zero]; exact iX3
                clear hG kX3 sX3 iX3
                have HG33 := Lib.hid h33
                clear h33
                go_wp2_with fail
                go_loopw [241] (fun v241 wr => ∃ k : Nat, k ≤ 12 ∧ v241 = .int .i64 k ∧ BlkI wr G33 22 (upto (sumF la lb k) 12) ∧ Below V11.heap.size V11 wr) (fun v241 _ => 12 - (intOf v241).toNat)
                case atStart => exact ⟨0, by omega, rfl, i33, hx⟩
                case round =>
                  clear i33 hx
                  obtain ⟨k, hk, rfl, i33, hx⟩ := hrel
                  by_cases hlt : k < 12
                  · have d1 : (k : Int) < 12 := by omega
                    have hAx := bthen HA11.out hx
                    have i3 := HI3.out.carry hAx
                    have i4 := HI4.out.carry hAx
                    have c0 := BlkI.cell i3 (j := k) (by rw [HLA.out]; exact hlt)
                    have c1 := BlkI.cell i4 (j := k) (by rw [HLB.out]; exact hlt)
                    have b0 := lv_bd HBA.out k
                    have b1 := lv_bd HBB.out k
                    have HSET := Lib.hid (sumF_set la lb k hlt)
                    have HLEN := Lib.hid (show (upto (sumF la lb k) 12).length = 12 from upto_length _ _)
                    obtain ⟨L, hL⟩ : ∃ L, L = upto (sumF la lb k) 12 := ⟨_, rfl⟩
                    rw [← hL] at HSET HLEN i33
                    clear hL
                    generalize la[k]?.getD 0 = x at c0 b0 HSET
                    generalize lb[k]?.getD 0 = y at c1 b1 HSET
                    have v0 : IntKind.i64.wrap (x + y) = x + y := IntWalk.i64_in _ (by omega)
                    clear b0 b1 i3 i4 hAx
                    go_upto_region 44 with fail
                    refine wp_region_E 9 (by kernel_rfl) ?_
                    obtain ⟨wz, hwz⟩ : ∃ v, v = wr.drew := ⟨_, rfl⟩
                    rw [← hwz]
                    have hlz : Below wr.heap.size wr wz := by rw [hwz]; exact (Below.refl _ _).drew
                    have hbz := bthen hx hlz
                    have c0 := cellb c0 hlz
                    have c1 := cellb c1 hlz
                    have i33 := i33.carry hlz
                    clear hwz hlz
                    refine wpAnyE_take (i := 0) (oi := { dst := some 244, op := Op.move (Operand.tmp 34), type := 3, pos := "law.go:351", after := #[], guard := none }) (v := ?_) rfl (by kernel_rfl) (by kernel_rfl) (by kernel_rfl) (by kernel_rfl) (fun _ _ _ h => h) (Or.inl ⟨by rfl, ?_⟩) ?_
                    rotate_left
                    · (intro w hE; have c0 := cellb c0 hE; have c1 := cellb c1 hE; (try dsimp only); go_simp); (try with_reducible rfl)
                    try simp only [Act.put, List.setIfInBounds_toArray, List.set_cons_zero, List.set_cons_succ]
                    refine wpAnyE_take (i := 1) (oi := { dst := some 245, op := Op.move (Operand.tmp 34), type := 3, pos := "law.go:351", after := #[], guard := none }) (v := ?_) rfl (by kernel_rfl) (by kernel_rfl) (by kernel_rfl) (by kernel_rfl) (fun _ _ _ h => h) (Or.inl ⟨by rfl, ?_⟩) ?_
                    rotate_left
                    · (intro w hE; have c0 := cellb c0 hE; have c1 := cellb c1 hE; (try dsimp only); go_simp); (try with_reducible rfl)
                    try simp only [Act.put, List.setIfInBounds_toArray, List.set_cons_zero, List.set_cons_succ]
                    refine wpAnyE_take (i := 2) (oi := { dst := some 246, op := Op.indexAddr 22 (Operand.tmp 3) (Operand.tmp 245), type := 0, pos := "law.go:351", after := #[{ on := 1, ground := Ground.data }], guard := none }) (v := ?_) rfl (by kernel_rfl) (by kernel_rfl) (by kernel_rfl) (by kernel_rfl) (fun _ _ _ h => h) (Or.inl ⟨by rfl, ?_⟩) ?_
                    rotate_left
                    · (intro w hE; have c0 := cellb c0 hE; have c1 := cellb c1 hE; (try dsimp only); go_simp); (try with_reducible rfl)
                    try simp only [Act.put, List.setIfInBounds_toArray, List.set_cons_zero, List.set_cons_succ]
                    refine wpAnyE_take (i := 3) (oi := { dst := some 247, op := Op.load 3 (Operand.tmp 246), type := 3, pos := "law.go:351", after := #[{ on := 2, ground := Ground.data }], guard := none }) (v := ?_) rfl (by kernel_rfl) (by kernel_rfl) (by kernel_rfl) (by kernel_rfl) (fun _ _ _ h => h) (Or.inl ⟨by rfl, ?_⟩) ?_
                    rotate_left
                    · (intro w hE; have c0 := cellb c0 hE; have c1 := cellb c1 hE; (try dsimp only); go_simp); (try with_reducible rfl)
                    try simp only [Act.put, List.setIfInBounds_toArray, List.set_cons_zero, List.set_cons_succ]
                    refine wpAnyE_take (i := 4) (oi := { dst := some 248, op := Op.move (Operand.tmp 34), type := 3, pos := "law.go:351", after := #[], guard := none }) (v := ?_) rfl (by kernel_rfl) (by kernel_rfl) (by kernel_rfl) (by kernel_rfl) (fun _ _ _ h => h) (Or.inl ⟨by rfl, ?_⟩) ?_
                    rotate_left
                    · (intro w hE; have c0 := cellb c0 hE; have c1 := cellb c1 hE; (try dsimp only); go_simp); (try with_reducible rfl)
                    try simp only [Act.put, List.setIfInBounds_toArray, List.set_cons_zero, List.set_cons_succ]
                    refine wpAnyE_take (i := 5) (oi := { dst := some 249, op := Op.indexAddr 22 (Operand.tmp 4) (Operand.tmp 248), type := 0, pos := "law.go:351", after := #[{ on := 4, ground := Ground.data }], guard := none }) (v := ?_) rfl (by kernel_rfl) (by kernel_rfl) (by kernel_rfl) (by kernel_rfl) (fun _ _ _ h => h) (Or.inl ⟨by rfl, ?_⟩) ?_
                    rotate_left
                    · (intro w hE; have c0 := cellb c0 hE; have c1 := cellb c1 hE; (try dsimp only); go_simp); (try with_reducible rfl)
                    try simp only [Act.put, List.setIfInBounds_toArray, List.set_cons_zero, List.set_cons_succ]
                    refine wpAnyE_take (i := 6) (oi := { dst := some 250, op := Op.load 3 (Operand.tmp 249), type := 3, pos := "law.go:351", after := #[{ on := 5, ground := Ground.data }], guard := none }) (v := ?_) rfl (by kernel_rfl) (by kernel_rfl) (by kernel_rfl) (by kernel_rfl) (fun _ _ _ h => h) (Or.inl ⟨by rfl, ?_⟩) ?_
                    rotate_left
                    · (intro w hE; have c0 := cellb c0 hE; have c1 := cellb c1 hE; (try dsimp only); go_simp); (try with_reducible rfl)
                    try simp only [Act.put, List.setIfInBounds_toArray, List.set_cons_zero, List.set_cons_succ]
                    refine wpAnyE_take (i := 7) (oi := { dst := some 251, op := Op.binOp BinOp.add 3 (Operand.tmp 247) (Operand.tmp 250) 3, type := 3, pos := "law.go:351", after := #[{ on := 3, ground := Ground.data }, { on := 6, ground := Ground.data }], guard := none }) (v := ?_) rfl (by kernel_rfl) (by kernel_rfl) (by kernel_rfl) (by kernel_rfl) (fun _ _ _ h => h) (Or.inl ⟨by rfl, ?_⟩) ?_
                    rotate_left
                    · (intro w hE; have c0 := cellb c0 hE; have c1 := cellb c1 hE; (try dsimp only); go_simp); (try with_reducible rfl)
                    try simp only [Act.put, List.setIfInBounds_toArray, List.set_cons_zero, List.set_cons_succ]
                    refine wpAnyE_take (i := 8) (oi := { dst := some 252, op := Op.indexAddr 22 (Operand.tmp 33) (Operand.tmp 244), type := 0, pos := "law.go:351", after := #[{ on := 0, ground := Ground.data }, { on := 0, ground := Ground.phase }, { on := 1, ground := Ground.phase }, { on := 2, ground := Ground.phase }, { on := 3, ground := Ground.phase }, { on := 4, ground := Ground.phase }, { on := 5, ground := Ground.phase }, { on := 6, ground := Ground.phase }, { on := 7, ground := Ground.phase }], guard := none }) (v := ?_) rfl (by kernel_rfl) (by kernel_rfl) (by kernel_rfl) (by kernel_rfl) (fun _ _ _ h => h) (Or.inl ⟨by rfl, ?_⟩) ?_
                    rotate_left
                    · (intro w hE; have c0 := cellb c0 hE; have c1 := cellb c1 hE; (try dsimp only); go_simp); (try with_reducible rfl)
                    try simp only [Act.put, List.setIfInBounds_toArray, List.set_cons_zero, List.set_cons_succ]
                    refine wpAnyE_one (i := 9) (o := { dst := none, op := Op.store 3 (Operand.tmp 252) (Operand.tmp 251), type := 0, pos := "law.go:351", after := #[{ on := 8, ground := Ground.data }, { on := 7, ground := Ground.data }, { on := 0, ground := Ground.phase }, { on := 1, ground := Ground.phase }, { on := 2, ground := Ground.phase }, { on := 3, ground := Ground.phase }, { on := 4, ground := Ground.phase }, { on := 5, ground := Ground.phase }, { on := 6, ground := Ground.phase }, { on := 7, ground := Ground.phase }], guard := none }) (by kernel_rfl) rfl (fun wy1 hE K hK => ?_)
                    have c0 := cellb c0 hE
                    have c1 := cellb c1 hE
                    have i33 := i33.carry hE
                    have hbz1 := bthen hbz hE
                    clear hE
                    have fz := i33.frozen k
                    have cz := BlkI.cell (l := L) i33 (j := k) (by rw [HLEN.out]; exact hlt)
                    go_simp
                    obtain ⟨wx1, hwz⟩ : ∃ v, v = wy1.setCell ⟨G33, k, none⟩ (.int .i64 (x + y)) := ⟨_, rfl⟩
                    rw [← hwz]
                    have hcz1 : Below V11.heap.size V11 wx1 := by rw [hwz]; exact (hbz1).setCell (by exact HG33.out) _
                    replace i33 : BlkI wx1 G33 22 (upto (sumF la lb (k + 1)) 12) := by rw [← HSET.out, hwz]; exact BlkI.set (l := L) i33 k (x + y)
                    clear hwz
                    refine hK _ _ (fun h => absurd rfl h) ?_
                    clear hK K
                    try simp only [Act.put, List.setIfInBounds_toArray, List.set_cons_zero, List.set_cons_succ]
                    refine wpAnyE_done (by kernel_rfl) (fun wy2 hE => ?_) _
                    have hbz2 := bthen hcz1 hE
                    have i33 := i33.carry hE
                    clear hE
                    clear hx
                    have hx := hbz2
                    obtain ⟨Y1, hY1⟩ : ∃ v, v = wy2 := ⟨_, rfl⟩
                    rw [← hY1] at hx i33 ⊢
                    clear hY1 v0
                    go_wp2_with fail
                    go_roundw
                    case rel => exact ⟨k + 1, by omega, by go_num, i33, hx⟩
                    case measure => simp [intOf]; omega
                  · obtain rfl : k = 12 := by omega
                    clear hk hlt
                    rw [sumF_all] at i33
                    obtain ⟨V30, rfl⟩ : ∃ v, v = wr := ⟨_, rfl⟩
                    have hc12 := sumL_length la lb
                    have hbc := sumL_length la lb
                    have RC := Lib.hid (fun W => CheckPatternR_any (sumL la lb) W hc12)
                    have TSC := Lib.hid (fun (h : patE (sumL la lb) = 0) W hW => specH_ok hc12 h W hW)
                    have HSO := Lib.hid (fun (h : patE (sumL la lb) = 0) k (hk : k < 12) => sum_ord HLA.out HLB.out HBA.out HBB.out (patE_all h) k hk)
                    obtain ⟨C, hC⟩ : ∃ c, c = sumL la lb := ⟨_, rfl⟩
                    rw [← hC] at RC TSC HSO i33 hc12
                    clear hC hbc
                    have HC12 := Lib.hid hc12
                    clear hc12
                    have hld := load12 HC12.out i33
                    go_wp2_with (first | refine wpList_load rfl _ _ rfl hld ?_ | refine wpList_loadG (by rfl) _ _ rfl hld ?_)
                    refine (RC.out V30).mono ?_
                    rintro e V31 ⟨rfl, hb⟩
                    clear hld
                    have I33 := Lib.hid (i33.carry hb)
                    replace hx := bthen hx hb
                    clear hb i33
                    by_cases hcp : patE C = 0
                    · rw [hcp]
                      have HSP := Lib.hid (fun W hW => TSC.out hcp W hW)
                      have HSO2 := Lib.hid (HSO.out hcp)
                      clear hcp
                      have hsc : (specL C).length = 48 := upto_length _ _
                      obtain ⟨SC, hSC⟩ : ∃ S, S = specL C := ⟨_, rfl⟩
                      rw [← hSC] at HSP hsc
                      have HSCE := Lib.hid hSC
                      have HsC := Lib.hid hsc
                      clear hSC hsc
                      have hld := load12 HC12.out I33.out
                      go_wp2_with (first | refine wpList_load rfl _ _ rfl hld ?_ | refine wpList_loadG (by rfl) _ _ rfl hld ?_)
                      refine (HSP.out V31 (HW.out.carry (bthen HA11.out hx))).mono ?_
                      rintro e V32 ⟨rfl, hb⟩
                      clear hld
                      replace hx := bthen hx hb
                      clear hb
                      go_upto_region 49 with (refine wpList_storeA rfl _ _ _ rfl V32.heap.size SC (List.replicate 48 0) rfl rfl (BlkI.new V32 30 (List.replicate 48 0)) (by rw [HsC.out]; rfl) (by rw [HsC.out]; exact Tryz.infoSp) ?_)
                      obtain ⟨V33, hV33⟩ : ∃ v, v = World.setRow (World.alloc V32 (Obj.cells #[.int .i64 0, .int .i64 0, .int .i64 0, .int .i64 0, .int .i64 0, .int .i64 0, .int .i64 0, .int .i64 0, .int .i64 0, .int .i64 0, .int .i64 0, .int .i64 0, .int .i64 0, .int .i64 0, .int .i64 0, .int .i64 0, .int .i64 0, .int .i64 0, .int .i64 0, .int .i64 0, .int .i64 0, .int .i64 0, .int .i64 0, .int .i64 0, .int .i64 0, .int .i64 0, .int .i64 0, .int .i64 0, .int .i64 0, .int .i64 0, .int .i64 0, .int .i64 0, .int .i64 0, .int .i64 0, .int .i64 0, .int .i64 0, .int .i64 0, .int .i64 0, .int .i64 0, .int .i64 0, .int .i64 0, .int .i64 0, .int .i64 0, .int .i64 0, .int .i64 0, .int .i64 0, .int .i64 0, .int .i64 0] 30)) V32.heap.size (ia (SC)) := ⟨_, rfl⟩
                      have kV33 : Below V32.heap.size V32 V33 := by rw [hV33]; exact zrow_below _ _ _ _
                      have iV33 : BlkI V33 V32.heap.size 30 (SC) := by rw [hV33]; exact zrow_blk V32 _ (List.replicate 48 0) _
                      rw [← hV33]
                      clear hV33
                      replace hx := bthen hx kV33
                      obtain ⟨G35, hG⟩ : ∃ G, G = V32.heap.size := ⟨_, rfl⟩
                      rw [← hG] at iV33 ⊢
                      clear kV33 hG
                      have I35 := Lib.hid iV33
                      clear iV33
                      have HX3 := Lib.hid hx
                      clear hx
                      go_wp2_with fail
                      go_loopw [265] (fun v265 wr => ∃ k : Nat, k ≤ 12 ∧ v265 = .int .i64 k ∧ Below V33.heap.size V33 wr) (fun v265 _ => 12 - (intOf v265).toNat)
                      case atStart => exact ⟨0, by omega, rfl, Below.refl _ _⟩
                      case round =>
                        obtain ⟨k, hk, rfl, hx⟩ := hrel
                        by_cases hlt : k < 12
                        · have d1 : (k : Int) < 12 := by omega
                          have hX := bthen HX3.out hx
                          have C1 := spec_cells HSA.out (HI.out.1.carry hX) k hlt
                          have C2 := spec_cells HSB.out (HI.out.2.1.carry hX) k hlt
                          have C3 := spec_cells HSCE.out (I35.out.carry hx) k hlt
                          rw [HSO2.out k hlt] at C3
                          have TSM := Lib.hid (fun W => sum_ok (order_all HBA.out (k : Int)) (order_all HBB.out (k : Int)) W)
                          generalize orderC la (k : Int) = ox at C1 C3 TSM
                          generalize orderC lb (k : Int) = oy at C2 C3 TSM
                          generalize addC ox oy = oz at C3 TSM
                          obtain ⟨ox0, ox1, ox2, ox3⟩ := ox
                          obtain ⟨oy0, oy1, oy2, oy3⟩ := oy
                          obtain ⟨oz0, oz1, oz2, oz3⟩ := oz
                          simp only at C1 C2 C3 TSM
                          obtain ⟨c0, c1, c2, c3⟩ := C1
                          obtain ⟨d0, d1', d2, d3⟩ := C2
                          obtain ⟨e0, e1, e2, e3⟩ := C3
                          have hnq := fun W => neqCyR oz0 oz1 oz2 oz3 W
                          clear hX
                          go_upto_region 54 with fail
                          refine wp_region_E 99 (by kernel_rfl) ?_
                          obtain ⟨wz, hwz⟩ : ∃ v, v = wr.drew := ⟨_, rfl⟩
                          rw [← hwz]
                          have hlz : Below wr.heap.size wr wz := by rw [hwz]; exact (Below.refl _ _).drew
                          have hbz := bthen hx hlz
                          have c0 := cellb c0 hlz
                          have c1 := cellb c1 hlz
                          have c2 := cellb c2 hlz
                          have c3 := cellb c3 hlz
                          have d0 := cellb d0 hlz
                          have d1' := cellb d1' hlz
                          have d2 := cellb d2 hlz
                          have d3 := cellb d3 hlz
                          have e0 := cellb e0 hlz
                          have e1 := cellb e1 hlz
                          have e2 := cellb e2 hlz
                          have e3 := cellb e3 hlz
                          clear hwz hlz
                          refine wpAnyE_take (i := 0) (oi := { dst := some 268, op := Op.move (Operand.tmp 37), type := 3, pos := "law.go:361", after := #[], guard := none }) (v := ?_) rfl (by kernel_rfl) (by kernel_rfl) (by kernel_rfl) (by kernel_rfl) (fun _ _ _ h => h) (Or.inl ⟨by rfl, ?_⟩) ?_
                          rotate_left
                          · (intro w hE; have c0 := cellb c0 hE; have c1 := cellb c1 hE; have c2 := cellb c2 hE; have c3 := cellb c3 hE; have d0 := cellb d0 hE; have d1' := cellb d1' hE; have d2 := cellb d2 hE; have d3 := cellb d3 hE; have e0 := cellb e0 hE; have e1 := cellb e1 hE; have e2 := cellb e2 hE; have e3 := cellb e3 hE; (try dsimp only); go_simp); (try with_reducible rfl)
                          try simp only [Act.put, List.setIfInBounds_toArray, List.set_cons_zero, List.set_cons_succ]
                          refine wpAnyE_take (i := 1) (oi := { dst := some 269, op := Op.indexAddr 30 (Operand.tmp 35) (Operand.tmp 268), type := 0, pos := "law.go:361", after := #[{ on := 0, ground := Ground.data }], guard := none }) (v := ?_) rfl (by kernel_rfl) (by kernel_rfl) (by kernel_rfl) (by kernel_rfl) (fun _ _ _ h => h) (Or.inl ⟨by rfl, ?_⟩) ?_
                          rotate_left
                          · (intro w hE; have c0 := cellb c0 hE; have c1 := cellb c1 hE; have c2 := cellb c2 hE; have c3 := cellb c3 hE; have d0 := cellb d0 hE; have d1' := cellb d1' hE; have d2 := cellb d2 hE; have d3 := cellb d3 hE; have e0 := cellb e0 hE; have e1 := cellb e1 hE; have e2 := cellb e2 hE; have e3 := cellb e3 hE; (try dsimp only); go_simp); (try with_reducible rfl)
                          try simp only [Act.put, List.setIfInBounds_toArray, List.set_cons_zero, List.set_cons_succ]
                          refine wpAnyE_take (i := 2) (oi := { dst := some 270, op := Op.load 29 (Operand.tmp 269), type := 29, pos := "law.go:361", after := #[{ on := 1, ground := Ground.data }], guard := none }) (v := ?_) rfl (by kernel_rfl) (by kernel_rfl) (by kernel_rfl) (by kernel_rfl) (fun _ _ _ h => h) (Or.inl ⟨by rfl, ?_⟩) ?_
                          rotate_left
                          · (intro w hE; have c0 := cellb c0 hE; have c1 := cellb c1 hE; have c2 := cellb c2 hE; have c3 := cellb c3 hE; have d0 := cellb d0 hE; have d1' := cellb d1' hE; have d2 := cellb d2 hE; have d3 := cellb d3 hE; have e0 := cellb e0 hE; have e1 := cellb e1 hE; have e2 := cellb e2 hE; have e3 := cellb e3 hE; (try dsimp only); go_simp); (try with_reducible rfl)
                          try simp only [Act.put, List.setIfInBounds_toArray, List.set_cons_zero, List.set_cons_succ]
                          refine wpAnyE_take (i := 3) (oi := { dst := some 271, op := Op.move (Operand.tmp 37), type := 3, pos := "law.go:361", after := #[], guard := none }) (v := ?_) rfl (by kernel_rfl) (by kernel_rfl) (by kernel_rfl) (by kernel_rfl) (fun _ _ _ h => h) (Or.inl ⟨by rfl, ?_⟩) ?_
                          rotate_left
                          · (intro w hE; have c0 := cellb c0 hE; have c1 := cellb c1 hE; have c2 := cellb c2 hE; have c3 := cellb c3 hE; have d0 := cellb d0 hE; have d1' := cellb d1' hE; have d2 := cellb d2 hE; have d3 := cellb d3 hE; have e0 := cellb e0 hE; have e1 := cellb e1 hE; have e2 := cellb e2 hE; have e3 := cellb e3 hE; (try dsimp only); go_simp); (try with_reducible rfl)
                          try simp only [Act.put, List.setIfInBounds_toArray, List.set_cons_zero, List.set_cons_succ]
                          refine wpAnyE_take (i := 4) (oi := { dst := some 272, op := Op.indexAddr 30 (Operand.tmp 7) (Operand.tmp 271), type := 0, pos := "law.go:361", after := #[{ on := 3, ground := Ground.data }], guard := none }) (v := ?_) rfl (by kernel_rfl) (by kernel_rfl) (by kernel_rfl) (by kernel_rfl) (fun _ _ _ h => h) (Or.inl ⟨by rfl, ?_⟩) ?_
                          rotate_left
                          · (intro w hE; have c0 := cellb c0 hE; have c1 := cellb c1 hE; have c2 := cellb c2 hE; have c3 := cellb c3 hE; have d0 := cellb d0 hE; have d1' := cellb d1' hE; have d2 := cellb d2 hE; have d3 := cellb d3 hE; have e0 := cellb e0 hE; have e1 := cellb e1 hE; have e2 := cellb e2 hE; have e3 := cellb e3 hE; (try dsimp only); go_simp); (try with_reducible rfl)
                          try simp only [Act.put, List.setIfInBounds_toArray, List.set_cons_zero, List.set_cons_succ]
                          refine wpAnyE_take (i := 5) (oi := { dst := some 273, op := Op.load 29 (Operand.tmp 272), type := 29, pos := "law.go:361", after := #[{ on := 4, ground := Ground.data }], guard := none }) (v := ?_) rfl (by kernel_rfl) (by kernel_rfl) (by kernel_rfl) (by kernel_rfl) (fun _ _ _ h => h) (Or.inl ⟨by rfl, ?_⟩) ?_
                          rotate_left
                          · (intro w hE; have c0 := cellb c0 hE; have c1 := cellb c1 hE; have c2 := cellb c2 hE; have c3 := cellb c3 hE; have d0 := cellb d0 hE; have d1' := cellb d1' hE; have d2 := cellb d2 hE; have d3 := cellb d3 hE; have e0 := cellb e0 hE; have e1 := cellb e1 hE; have e2 := cellb e2 hE; have e3 := cellb e3 hE; (try dsimp only); go_simp); (try with_reducible rfl)
                          try simp only [Act.put, List.setIfInBounds_toArray, List.set_cons_zero, List.set_cons_succ]
                          refine wpAnyE_take (i := 6) (oi := { dst := some 274, op := Op.move (Operand.tmp 37), type := 3, pos := "law.go:361", after := #[], guard := none }) (v := ?_) rfl (by kernel_rfl) (by kernel_rfl) (by kernel_rfl) (by kernel_rfl) (fun _ _ _ h => h) (Or.inl ⟨by rfl, ?_⟩) ?_
                          rotate_left
                          · (intro w hE; have c0 := cellb c0 hE; have c1 := cellb c1 hE; have c2 := cellb c2 hE; have c3 := cellb c3 hE; have d0 := cellb d0 hE; have d1' := cellb d1' hE; have d2 := cellb d2 hE; have d3 := cellb d3 hE; have e0 := cellb e0 hE; have e1 := cellb e1 hE; have e2 := cellb e2 hE; have e3 := cellb e3 hE; (try dsimp only); go_simp); (try with_reducible rfl)
                          try simp only [Act.put, List.setIfInBounds_toArray, List.set_cons_zero, List.set_cons_succ]
                          refine wpAnyE_take (i := 7) (oi := { dst := some 275, op := Op.indexAddr 30 (Operand.tmp 9) (Operand.tmp 274), type := 0, pos := "law.go:361", after := #[{ on := 6, ground := Ground.data }], guard := none }) (v := ?_) rfl (by kernel_rfl) (by kernel_rfl) (by kernel_rfl) (by kernel_rfl) (fun _ _ _ h => h) (Or.inl ⟨by rfl, ?_⟩) ?_
                          rotate_left
                          · (intro w hE; have c0 := cellb c0 hE; have c1 := cellb c1 hE; have c2 := cellb c2 hE; have c3 := cellb c3 hE; have d0 := cellb d0 hE; have d1' := cellb d1' hE; have d2 := cellb d2 hE; have d3 := cellb d3 hE; have e0 := cellb e0 hE; have e1 := cellb e1 hE; have e2 := cellb e2 hE; have e3 := cellb e3 hE; (try dsimp only); go_simp); (try with_reducible rfl)
                          try simp only [Act.put, List.setIfInBounds_toArray, List.set_cons_zero, List.set_cons_succ]
                          refine wpAnyE_take (i := 8) (oi := { dst := some 276, op := Op.load 29 (Operand.tmp 275), type := 29, pos := "law.go:361", after := #[{ on := 7, ground := Ground.data }], guard := none }) (v := ?_) rfl (by kernel_rfl) (by kernel_rfl) (by kernel_rfl) (by kernel_rfl) (fun _ _ _ h => h) (Or.inl ⟨by rfl, ?_⟩) ?_
                          rotate_left
                          · (intro w hE; have c0 := cellb c0 hE; have c1 := cellb c1 hE; have c2 := cellb c2 hE; have c3 := cellb c3 hE; have d0 := cellb d0 hE; have d1' := cellb d1' hE; have d2 := cellb d2 hE; have d3 := cellb d3 hE; have e0 := cellb e0 hE; have e1 := cellb e1 hE; have e2 := cellb e2 hE; have e3 := cellb e3 hE; (try dsimp only); go_simp); (try with_reducible rfl)
                          try simp only [Act.put, List.setIfInBounds_toArray, List.set_cons_zero, List.set_cons_succ]
                          refine wpAnyE_call (i := 9) (oi := { dst := some 277, op := Op.call { callee := Callee.value (Operand.func 16), args := #[Operand.tmp 273, Operand.tmp 276], argTypes := #[46, 46] }, type := 46, pos := "law.go:361", after := #[{ on := 5, ground := Ground.data }, { on := 8, ground := Ground.data }], guard := none }) (fun w hE => TSM.out w) rfl (by kernel_rfl) (by kernel_rfl) (by kernel_rfl) (by kernel_rfl) (fun _ _ _ h => h) (by rfl) (fun w hE => by (try dsimp only); go_simp) ?_
                          try simp only [Act.put, List.setIfInBounds_toArray, List.set_cons_zero, List.set_cons_succ]
                          refine wpAnyE_take (i := 10) (oi := { dst := some 278, op := Op.binOp BinOp.neq 46 (Operand.tmp 270) (Operand.tmp 277) 46, type := 4, pos := "law.go:361", after := #[{ on := 2, ground := Ground.data }, { on := 9, ground := Ground.data }], guard := none }) (v := ?_) rfl (by kernel_rfl) (by kernel_rfl) (by kernel_rfl) (by kernel_rfl) (fun _ _ _ h => h) (Or.inl ⟨by rfl, ?_⟩) ?_
                          rotate_left
                          · (intro w hE; have c0 := cellb c0 hE; have c1 := cellb c1 hE; have c2 := cellb c2 hE; have c3 := cellb c3 hE; have d0 := cellb d0 hE; have d1' := cellb d1' hE; have d2 := cellb d2 hE; have d3 := cellb d3 hE; have e0 := cellb e0 hE; have e1 := cellb e1 hE; have e2 := cellb e2 hE; have e3 := cellb e3 hE; (try dsimp only); go_simp); (try with_reducible rfl)
                          try simp only [Act.put, List.setIfInBounds_toArray, List.set_cons_zero, List.set_cons_succ]
                          refine wpAnyE_done (by kernel_rfl) (fun wy1 hE => ?_) _
                          have hbz1 := bthen hbz hE
                          have c0 := cellb c0 hE
                          have c1 := cellb c1 hE
                          have c2 := cellb c2 hE
                          have c3 := cellb c3 hE
                          have d0 := cellb d0 hE
                          have d1' := cellb d1' hE
                          have d2 := cellb d2 hE
                          have d3 := cellb d3 hE
                          have e0 := cellb e0 hE
                          have e1 := cellb e1 hE
                          have e2 := cellb e2 hE
                          have e3 := cellb e3 hE
                          clear hE
                          clear hx
                          have hx := hbz1
                          obtain ⟨Y1, hY1⟩ : ∃ v, v = wy1 := ⟨_, rfl⟩
                          rw [← hY1] at hx ⊢
                          clear hY1 c0 c1 c2 c3 d0 d1' d2 d3 e0 e1 e2 e3 hnq
                          go_wp2_with fail
                          go_roundw
                          case rel => exact ⟨k + 1, by omega, by go_num, hx⟩
                          case measure => simp [intOf]; omega
                        · obtain rfl : k = 12 := by omega
                          have hX := bthen HA11.out (bthen HX3.out hx)
                          go_wp2_with fail
                          refine (TAW.out wr (HW.out.carry hX) (HP.out.carry hX)).mono ?_
                          rintro e We ⟨rfl, hb⟩
                          go_wp2_with fail
                          go_ret
                          exact ⟨rfl, bthen HB.out (bthen hX hb)⟩
                    · have hcz : (patE C != 0) = true := by rw [bne_iff_ne]; exact hcp
                      generalize patE C = ec at hcz
                      clear hcp
                      have hX := bthen HA11.out hx
                      go_wp2_with fail
                      refine (TAW.out V31 (HW.out.carry hX) (HP.out.carry hX)).mono ?_
                      rintro e We ⟨rfl, hb⟩
                      go_wp2_with fail
                      go_ret
                      exact ⟨rfl, bthen HB.out (bthen hX hb)⟩
    · have hz : (patE lb != 0) = true := by rw [bne_iff_ne]; exact hbp
      rw [ha] at RA
      generalize patE lb = eb at RB hz
      clear ha hbp
      go_enter Tryz.func3, Tryz.ntmps3
      go_upto_region 1 with fail
      obtain ⟨W1, hW1⟩ : ∃ v, v = World.alloc w (Obj.cells (ia la) 22) := ⟨_, rfl⟩
      have kW1 : Below w.heap.size w W1 := by rw [hW1]; exact below_new _ _
      have iW1 : BlkI W1 (w.heap.size) 22 la := by rw [hW1]; exact BlkI.new _ _ _
      have sW1 : W1.heap.size = w.heap.size + 1 := by rw [hW1]; simp
      rw [← hW1]
      clear hW1
      obtain ⟨Wa, hWa⟩ : ∃ v, v = World.alloc W1 (Obj.cells (ia lb) 22) := ⟨_, rfl⟩
      have kWa : Below W1.heap.size W1 Wa := by rw [hWa]; exact below_new _ _
      have iWa : BlkI Wa (w.heap.size + 1) 22 lb := by rw [hWa, ← sW1]; exact BlkI.new _ _ _
      have sWa : Wa.heap.size = w.heap.size + 1 + 1 := by rw [hWa]; simp [sW1]
      rw [← hWa]
      clear hWa
      have i3 : BlkI Wa w.heap.size 22 la := iW1.carry kWa
      have i4 : BlkI Wa (w.heap.size + 1) 22 lb := iWa
      have hB := bthen kW1 kWa
      obtain ⟨G4, hG4⟩ : ∃ G, G = w.heap.size + 1 := ⟨_, rfl⟩
      rw [← hG4] at i4 ⊢
      obtain ⟨G3, hG3⟩ : ∃ G, G = w.heap.size := ⟨_, rfl⟩
      rw [← hG3] at i3 ⊢
      have HW := Lib.hid (HWw.out.carry hB)
      have HP := Lib.hid (HPw.out.carry hB)
      have HB := Lib.hid hB
      have HI3 := Lib.hid i3
      have HI4 := Lib.hid i4
      clear iW1 kW1 sW1 iWa kWa sWa hG3 hG4 hB hla hlb hw hp
      have hld := load12 HLA.out i3
      go_wp2_with (refine wpList_load rfl _ _ rfl hld ?_)
      refine (RA.out Wa).mono ?_
      rintro e Wb ⟨rfl, hA⟩
      clear hld i3 i4
      have hld := load12 HLB.out (HI4.out.carry hA)
      go_wp2_with (first | refine wpList_load rfl _ _ rfl hld ?_ | refine wpList_loadG (by rfl) _ _ rfl hld ?_)
      refine (RB.out Wb).mono ?_
      rintro e Wc ⟨rfl, hb⟩
      clear hld
      replace hA := bthen hA hb
      clear hb
      go_wp2_with fail
      refine (TAW.out Wc (HW.out.carry hA) (HP.out.carry hA)).mono ?_
      rintro e We ⟨rfl, hb⟩
      go_wp2_with fail
      go_ret
      exact ⟨rfl, bthen HB.out (bthen hA hb)⟩
  · have hz : (patE la != 0) = true := by rw [bne_iff_ne]; exact ha
    generalize patE la = ea at RA hz
    clear ha
    go_enter Tryz.func3, Tryz.ntmps3
    go_upto_region 1 with fail
    obtain ⟨W1, hW1⟩ : ∃ v, v = World.alloc w (Obj.cells (ia la) 22) := ⟨_, rfl⟩
    have kW1 : Below w.heap.size w W1 := by rw [hW1]; exact below_new _ _
    have iW1 : BlkI W1 (w.heap.size) 22 la := by rw [hW1]; exact BlkI.new _ _ _
    have sW1 : W1.heap.size = w.heap.size + 1 := by rw [hW1]; simp
    rw [← hW1]
    clear hW1
    obtain ⟨Wa, hWa⟩ : ∃ v, v = World.alloc W1 (Obj.cells (ia lb) 22) := ⟨_, rfl⟩
    have kWa : Below W1.heap.size W1 Wa := by rw [hWa]; exact below_new _ _
    have iWa : BlkI Wa (w.heap.size + 1) 22 lb := by rw [hWa, ← sW1]; exact BlkI.new _ _ _
    have sWa : Wa.heap.size = w.heap.size + 1 + 1 := by rw [hWa]; simp [sW1]
    rw [← hWa]
    clear hWa
    have i3 : BlkI Wa w.heap.size 22 la := iW1.carry kWa
    have i4 : BlkI Wa (w.heap.size + 1) 22 lb := iWa
    have hB := bthen kW1 kWa
    obtain ⟨G4, hG4⟩ : ∃ G, G = w.heap.size + 1 := ⟨_, rfl⟩
    rw [← hG4] at i4 ⊢
    obtain ⟨G3, hG3⟩ : ∃ G, G = w.heap.size := ⟨_, rfl⟩
    rw [← hG3] at i3 ⊢
    have HW := Lib.hid (HWw.out.carry hB)
    have HP := Lib.hid (HPw.out.carry hB)
    have HB := Lib.hid hB
    have HI3 := Lib.hid i3
    have HI4 := Lib.hid i4
    clear iW1 kW1 sW1 iWa kWa sWa hG3 hG4 hB hla hlb hw hp
    have hld := load12 HLA.out i3
    go_wp2_with (refine wpList_load rfl _ _ rfl hld ?_)
    refine (RA.out Wa).mono ?_
    rintro e Wb ⟨rfl, hA⟩
    clear hld i3 i4
    go_wp2_with fail
    refine (TAW.out Wb (HW.out.carry hA) (HP.out.carry hA)).mono ?_
    rintro e We ⟨rfl, hb⟩
    go_wp2_with fail
    go_ret
    exact ⟨rfl, bthen HB.out (bthen hA hb)⟩
end Go.Proofs.YtoihfmndhfnmmaaGreatDoor

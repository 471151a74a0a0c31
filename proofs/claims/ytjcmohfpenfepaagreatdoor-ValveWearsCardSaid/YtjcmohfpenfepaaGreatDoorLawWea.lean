/- The law ValveWears. -/
import Derived.Test.YtjcmohfpenfepaaGreatDoorVkE
import Derived.Test.YtjcmohfpenfepaaGreatDoorVhH
import Derived.Test.YtjcmohfpenfepaaGreatDoorVcN
namespace Go.Proofs.YtjcmohfpenfepaaGreatDoor
set_option linter.unusedSimpArgs false
set_option linter.unusedVariables false
open Go.RowKit Flp
theorem same_train (va vb : Value) (l : List P2) (W : World) (ha : Prs W va l) (hb : Prs W vb l) (hl : l.length ≤ 1000000000) :
 Calls Tryz.prog 18 #[va, vb] W fun e w' => e = .returned (.bool true) ∧ Below W.heap.size W w' := by
 have := SameTrain_any va vb l l W ha hb hl
 rw [decide_eq_true rfl] at this
 exact this
theorem short12 {n : Nat} (h : shortB n = true) (h2 : n ≤ 256) : n ≤ 12 := by
 unfold shortB at h
 simp at h; omega
theorem swL_get (l : List P2) {v : Nat} (h : v < 12) : (swL l)[v]?.getD 0 = swS l v (l.length - 1) := by rw [swL_at l h]; rfl
/-- what is asked of each valve: its switchings, those without the spare one, the wear. -/
theorem wea_valve {la : List P2} {ws : List Int} (hok : TrOk la) (hl : la.length ≤ 12) (hw : eachE wgG ws = 0) {s : Nat} {v : Nat} (hv : v < 12) :
 (0 ≤ (swL la)[v]?.getD 0 ∧ (swL la)[v]?.getD 0 < max 1 (la.length : Int) ∧ (swL la)[v]?.getD 0 ≤ 12) ∧
 (v ≠ s → (swL (chgL la (fun p => wtoR p s)))[v]?.getD 0 = (swL la)[v]?.getD 0) ∧
 (v = s → (swL (chgL la (fun p => wtoR p s)))[v]?.getD 0 = 0) ∧
 (0 ≤ ws[v]?.getD 0 ∧ ws[v]?.getD 0 ≤ 1024) ∧
 (0 ≤ ws[v]?.getD 0 * (swL la)[v]?.getD 0 ∧ ws[v]?.getD 0 * (swL la)[v]?.getD 0 ≤ 16384) ∧
 (wearK la ws 12)[v]?.getD 0 = wq (ws[v]?.getD 0 * (swL la)[v]?.getD 0) := by
 have h1 := swS_rng la v (la.length - 1)
 have h2 := wear_fewer hok s v
 have h3 := used_rng hl (wgG_ok hw) v
 have h4 : 0 ≤ ws[v]?.getD 0 ∧ ws[v]?.getD 0 ≤ 1024 := by
  cases e : ws[v]? with
  | none => simp
  | some x => exact wgG_ok hw x (List.mem_of_getElem? e)
 have e1 : usedV la ws v = ws[v]?.getD 0 * (swL la)[v]?.getD 0 := by
  rw [swL_get la hv]
  unfold usedV
  rw [Int.mul_comm]
 rw [e1] at h3
 refine ⟨?_, fun h => ?_, fun h => ?_, h4, h3, ?_⟩
 ·rw [swL_get la hv]; omega
 ·rw [swL_get _ hv, swL_get la hv, chgL_len, h2, if_neg h]
 ·rw [swL_get _ hv, chgL_len, h2, if_pos h]
 ·rw [wearK_at la ws hv, e1]; rfl
theorem wea_cut {la : List P2} {c v : Nat} (h0 : 0 < c) (hc : c < la.length) (hv : v < 12) :
 (swL (la.take c))[v]?.getD 0 + (swL (la.drop c))[v]?.getD 0 + (swL ((la.drop (c - 1)).take 2))[v]?.getD 0 = (swL la)[v]?.getD 0 ∧
 (0 ≤ (swL (la.take c))[v]?.getD 0 ∧ (swL (la.take c))[v]?.getD 0 ≤ la.length) ∧ (0 ≤ (swL (la.drop c))[v]?.getD 0 ∧ (swL (la.drop c))[v]?.getD 0 ≤ la.length) ∧ (0 ≤ (swL ((la.drop (c - 1)).take 2))[v]?.getD 0 ∧ (swL ((la.drop (c - 1)).take 2))[v]?.getD 0 ≤ 2) := by
 rw [swL_get _ hv, swL_get _ hv, swL_get _ hv, swL_get _ hv]
 have h1 := swS_rng (la.take c) v ((la.take c).length - 1)
 have h2 := swS_rng (la.drop c) v ((la.drop c).length - 1)
 have h3 := swS_rng ((la.drop (c - 1)).take 2) v (((la.drop (c - 1)).take 2).length - 1)
 have l1 : (la.take c).length ≤ la.length := by rw [List.length_take]; omega
 have l2 : (la.drop c).length ≤ la.length := by rw [List.length_drop]; omega
 have l3 : ((la.drop (c - 1)).take 2).length ≤ 2 := by rw [List.length_take]; omega
 exact ⟨sw_cut la v h0 hc, by omega, by omega, by omega⟩
theorem wea_worn {la : List P2} {ws : List Int} (hl : la.length ≤ 12) (hw : eachE wgG ws = 0) {f : Nat} (hf : f < 12) :
 worE (wearK la ws 12) ((wearK la ws 12)[f]?.getD 0) = 0 ∧ (∀ v : Nat, v < 12 → hasI (worR (wearK la ws 12) ((wearK la ws 12)[f]?.getD 0)) (v : Int) = gtF ((wearK la ws 12)[v]?.getD 0) ((wearK la ws 12)[f]?.getD 0)) ∧
 (worR (wearK la ws 12) ((wearK la ws 12)[f]?.getD 0)).length ≤ 12 := by
 have e : (wearK la ws 12)[f]?.getD 0 = wq (usedV la ws f) := by rw [wearK_at la ws hf]; rfl
 rw [e]
 obtain ⟨h1, h2⟩ := worn_ok hl hw f
 refine ⟨h1, fun v hv => ?_, ?_⟩
 ·rw [h2]; exact worK_has _ _ hv
 ·rw [h2]; exact worK_len _ _ _
theorem switch_ok (u : Value) (l : List P2) (W : World) (hok : TrOk l) (hv : Prs W u l) :
 Calls Tryz.prog 10 #[u] W fun r w' => r = .returned (.tuple #[.agg (ia (swL l)), .int .i64 0]) ∧ Below W.heap.size W w' := by
 have := Switchings_any u l W (by have := hok.len; omega) hv
 rw [swOr_ok hok, trainE_of_ok hok] at this
 exact this
theorem mul_six {n : Int} (h : 0 ≤ n ∧ n ≤ 16384) (W : World) : Sem.run Tryz.prog (binOp .mul 37 (.float .f32 1098907648) (.float .f32 (wq n))) W = .ok (.float .f32 (floatOfInt .f32 n)) W :=
 run_float_arith (P := Tryz.prog) W .mul 37 .f32 _ _ _ (show floatBits .mul .f32 _ _ = some _ from (wq_six h).2.2)
theorem int_order {n : Int} (h : 0 ≤ n ∧ n ≤ 16384) : FloatKind.f32.format.order (floatOfInt .f32 n) (floatOfInt .f32 n) = some .eq := by
 have hv := ofInt32 n (by omega)
 have := order32 hv hv
 rw [cmp_eq] at this
 exact this
set_option maxRecDepth 100000 in
set_option maxHeartbeats 16000000 in
theorem wea_law (TA : ∀ W, Pows W → Heads W → Calls Tryz.prog 6 #[] W fun e w' => e = .returned (.bool true) ∧ Below W.heap.size W w')
 (v0 : Value) (la : List P2) (ws : List Int) (n0 n1 n2 : Int) (w : World) (hws : ws.length = 12) (hn0 : 0 ≤ n0 ∧ n0 ≤ 255) (hn1 : 0 ≤ n1 ∧ n1 ≤ 255) (hn2 : 0 ≤ n2 ∧ n2 ≤ 255) (hp : Pows w) (hh : Heads w) (hv0 : Prs w v0 la) :
 Calls Tryz.prog 3 #[v0, .agg (ia ws), .agg #[.int .u8 n0, .int .u8 n1, .int .u8 n2]] w fun e w' => e = .returned (.bool true) ∧ Below w.heap.size w w' := by
 have TA := Lib.hid TA
 obtain ⟨a1, p1, hve, hvc⟩ := hv0.slice
 obtain ⟨N, hN⟩ : ∃ N, N = la.length := ⟨_, rfl⟩
 rw [← hN] at hve hvc
 subst hve
 have T1 := Lib.hid (fun W => Short_any a1 N p1 W)
 have HP := Lib.hid hp
 have HH := Lib.hid hh
 have HA := Lib.hid hv0
 have HN := Lib.hid hN
 have HWS := Lib.hid hws
 have HN0 := Lib.hid hn0
 have HN1 := Lib.hid hn1
 have HN2 := Lib.hid hn2
 have HVC := Lib.hid hvc
 have HS1 := Lib.hid (fun h : shortB N = true => short12 h)
 have HL1 := Lib.hid (fun h : shortB N = true => (show N ≤ 257 by unfold shortB at h; simp at h; omega))
 obtain ⟨s1, hs1⟩ : ∃ b, b = shortB N := ⟨_, rfl⟩
 rw [← hs1] at T1 HS1 HL1
 clear hp hh hv0 hN hs1 hws hn0 hn1 hn2 hvc
 go_enter Tryz.func3, Tryz.ntmps3
 go_upto_region 1 with fail
 obtain ⟨W1, hW1⟩ : ∃ v, v = World.alloc w (Obj.cells (ia ws) 23) := ⟨_, rfl⟩
 have kW1 : Below w.heap.size w W1 := by rw [hW1]; exact below_new _ _
 have iW1 : BlkI W1 (w.heap.size) 23 ws := by rw [hW1]; exact BlkI.new _ _ _
 have sW1 : W1.heap.size = w.heap.size + 1 := by rw [hW1]; simp
 rw [← hW1]
 clear hW1
 obtain ⟨W2, hW2⟩ : ∃ v, v = World.alloc W1 (Obj.cells #[.int .u8 n0, .int .u8 n1, .int .u8 n2] 24) := ⟨_, rfl⟩
 have kW2 : Below W1.heap.size W1 W2 := by rw [hW2]; exact below_new _ _
 have iW2 : Blk W2 (w.heap.size + 1) 24 [.int .u8 n0, .int .u8 n1, .int .u8 n2] := by rw [hW2, ← sW1]; exact Blk.new _ _ _
 have sW2 : W2.heap.size = w.heap.size + 1 + 1 := by rw [hW2]; simp [sW1]
 rw [← hW2]
 clear hW2
 have i4 := iW1.carry kW2
 have i5 := iW2
 have k2 := bthen kW1 kW2
 clear iW1 iW2 kW1 kW2 sW1 sW2
 generalize w.heap.size + 1 = B5 at i5 ⊢
 have I4 := Lib.hid i4
 have I5 := Lib.hid i5
 have K2 := Lib.hid k2
 clear i4 i5 k2
 go_wp2_with fail
 refine (TA.out W2 (HP.out.carry K2.out) (HH.out.carry K2.out)).mono ?_
 rintro e w1 ⟨rfl, hb⟩
 go_wp2_with fail
 refine (T1.out w1).mono ?_
 rintro e w2 ⟨rfl, rfl⟩
 cases s1 with
 | false =>
   go_wp2_with fail
   refine (TA.out w1 (HP.out.carry (bthen K2.out hb)) (HH.out.carry (bthen K2.out hb))).mono ?_
   rintro e w2 ⟨rfl, hb2⟩
   go_wp2
   go_ret
   exact ⟨rfl, bthen K2.out (bthen hb hb2)⟩
 | true =>
   have h1 := HL1.out (by trivial)
   have hla : la.length ≤ 1000000 := by have := HN.out; omega
   have RT := Lib.hid (fun W (h : Prs W (.slice a1 N p1) la) => CheckTrainR_any (.slice a1 N p1) la W hla h)
   have RW := Lib.hid (fun W => CheckWeightsR_any ws W HWS.out)
   obtain ⟨E1, hE1⟩ : ∃ e, e = trainE la := ⟨_, rfl⟩
   obtain ⟨E2, hE2⟩ : ∃ e, e = eachE wgG ws := ⟨_, rfl⟩
   rw [← hE1] at RT
   rw [← hE2] at RW
   have HE1 := Lib.hid hE1
   have HE2 := Lib.hid hE2
   clear hE1 hE2 HL1 h1
   go_wp2_with fail
   refine (RT.out w1 (HA.out.carry (bthen K2.out hb))).mono ?_
   rintro e w2 ⟨rfl, hl⟩
   replace hb := bthen hb hl
   clear hl
   by_cases hE0 : E1 = 0
   ·subst hE0
    have lW := load12 HWS.out (I4.out.carry hb)
    go_wp2_with (refine wpList_loadG (by rfl) _ _ rfl lW ?_)
    clear lW
    refine (RW.out w2).mono ?_
    rintro e w3 ⟨rfl, hl⟩
    replace hb := bthen hb hl
    clear hl
    by_cases hE0 : E2 = 0
    ·subst hE0
     clear TA HP HH T1 RW
     have hok := trainE_ok HE1.out.symm
     have hw0 := HE2.out.symm
     have hN12 : N ≤ 12 := HS1.out (by trivial) (by have := hok.len; have := HN.out; omega)
     have hl12 : la.length ≤ 12 := by have := HN.out; omega
     obtain ⟨f, hf⟩ : ∃ f : Nat, (f : Int) = n0 % 12 := ⟨(n0 % 12).toNat, by omega⟩
     obtain ⟨s, hs⟩ : ∃ s : Nat, (s : Int) = n1 % 12 := ⟨(n1 % 12).toNat, by omega⟩
     obtain ⟨c, hc⟩ : ∃ c : Nat, (c : Int) = n2 % ((N : Int) + 1) := ⟨(n2 % ((N : Int) + 1)).toNat, by rw [Int.toNat_of_nonneg (Int.emod_nonneg _ (by omega))]⟩
     have hf12 : f < 12 := by omega
     have hs12 : s < 12 := by omega
     have hc12 : c ≤ N := by have := Int.emod_lt_of_pos n2 (show (0 : Int) < (N : Int) + 1 by omega); omega
     have u0 : IntKind.i64.wrap n0 = n0 := IntWalk.i64_in _ (by have := HN0.out; omega)
     have u1 : IntKind.i64.wrap n1 = n1 := IntWalk.i64_in _ (by have := HN1.out; omega)
     have x0 : Int.tmod n0 12 = (f : Int) := by rw [hf, Int.tmod_eq_emod_of_nonneg HN0.out.1]
     have x1 : Int.tmod n1 12 = (s : Int) := by rw [hs, Int.tmod_eq_emod_of_nonneg HN1.out.1]
     have x2 : n0 % 12 = (f : Int) := hf.symm
     have x3 : n1 % 12 = (s : Int) := hs.symm
     have HC := Lib.hid hc
     have c50 := (I5.out.carry hb).cell (j := 0) (v := .int .u8 n0) rfl
     have c51 := (I5.out.carry hb).cell (j := 1) (v := .int .u8 n1) rfl
     clear hf hs hc
     have HF12 := Lib.hid hf12
     have HS12 := Lib.hid hs12
     have HC12 := Lib.hid hc12
     have HN12 := Lib.hid hN12
     have HOK := Lib.hid hok
     have hby := wear_byp hok hs12
     have hyk := byp_ok hok s
     have hyo := byp_off hok s
     have hV := fun (v : Nat) (hv : v < 12) => wea_valve hok hl12 hw0 (s := s) hv
     have hCt := fun (v : Nat) (hv : v < 12) (h0 : 0 < c) (h1 : c < la.length) => wea_cut (la := la) h0 h1 hv
     have hwr := wears_ok hok hl12 hw0
     have hwo := wea_worn hl12 hw0 hf12
     have TP := Lib.hid (fun W (h : Prs W (.slice a1 N p1) la) => pulses_any (.slice a1 N p1) la W hla h)
     have TW := Lib.hid (fun u W (h : Prs W u la) => Switchings_any u la W hla h)
     have TB := Lib.hid (fun u W (h : Prs W u la) => Bypassed_any u la (2 ^ s) W hla h)
     have TE := Lib.hid (fun u W (h : Prs W u la) => Wear_any u la ws W hla HWS.out h)
     rw [hby.1, hby.2] at TB
     rw [swOr_ok hok, ← HE1.out] at TW
     rw [hwr.1, hwr.2] at TE
     obtain ⟨yl, hyl⟩ : ∃ l, l = chgL la (fun p => wtoR p s) := ⟨_, rfl⟩
     have hyll : yl.length = la.length := by rw [hyl, chgL_len]
     rw [← hyl] at TB hyk hyo hV
     obtain ⟨sl, hsl⟩ : ∃ l, l = swL la := ⟨_, rfl⟩
     have hsll : sl.length = 12 := by rw [hsl, swL_len]
     rw [← hsl] at TW
     have TY := Lib.hid (fun u W (h : Prs W u yl) => Switchings_any u yl W (by omega) h)
     rw [swOr_ok hyk, trainE_of_ok hyk] at TY
     obtain ⟨fl, hfl⟩ : ∃ l, l = swL yl := ⟨_, rfl⟩
     have hfll : fl.length = 12 := by rw [hfl, swL_len]
     rw [← hfl] at TY hV
     rw [← hsl] at hV
     obtain ⟨wl, hwl⟩ : ∃ l, l = wearK la ws 12 := ⟨_, rfl⟩
     have hwll : wl.length = 12 := by rw [hwl, wearK_len]
     rw [← hwl] at TE hV hwo
     obtain ⟨M, hM⟩ : ∃ m, m = (2 : Int) ^ s := ⟨_, rfl⟩
     have hMr := pow_rng hs12
     rw [← hM] at TB hMr
     have qM : IntKind.i64.wrap ((2 : Int) ^ s) = M := by rw [← hM]; exact IntWalk.i64_in _ (by omega)
     have TT := Lib.hid (fun u W (h : Prs W u yl) => told_any u yl W (by omega) h)
     have TPy := Lib.hid (fun u W (h : Prs W u yl) => pulses_any u yl W (by omega) h)
     have RTy := Lib.hid (fun u W (h : Prs W u yl) => CheckTrainR_any u yl W (by omega) h)
     rw [trainE_of_ok hyk] at RTy
     have HV := Lib.hid hV
     have HCT := Lib.hid hCt
     have HWO := Lib.hid hwo
     have HSL := Lib.hid hsl
     have HFL := Lib.hid hfl
     have HYK := Lib.hid hyk
     have HYO := Lib.hid hyo
     have HYL := Lib.hid hyl
     have HYLL := Lib.hid hyll
     have HSLL := Lib.hid hsll
     have HFLL := Lib.hid hfll
     have HWLL := Lib.hid hwll
     clear hV hCt hwo hsl hfl hyk hyo hyl hyll hwl hM hby hwr hok hw0 hla hl12 hsll hfll hwll
     go_upto_region 3 with fail
     refine wp_region_held_drew (S := (fun W => W.cell? ⟨B5, 0, none⟩ = some (.int .u8 n0) ∧ W.cell? ⟨B5, 1, none⟩ = some (.int .u8 n1))) (by kernel_rfl) ⟨cellb c50 (Below.refl _ _).drew, cellb c51 (Below.refl _ _).drew⟩ (fun hHeld0 => ?_)
     obtain ⟨wzd, hwz⟩ : ∃ v, v = w3.drew := ⟨_, rfl⟩
     rw [← hwz] at hHeld0 ⊢
     have hbzd : Below w3.heap.size w3 wzd := by rw [hwz]; exact (Below.refl _ _).drew
     have hlzd : Below w3.heap.size w3 wzd := by rw [hwz]; exact (Below.refl _ _).drew
     clear hwz hlzd
     refine wpAnyH_take (i := 0) (oi := ⟨some 53, .indexAddr 24 (.tmp 5) (.const (.int .i64 0)), 0, "law.go:475", #[], none⟩) (v := ?_) rfl (by kernel_rfl) (by kernel_rfl) (by kernel_rfl) (fun _ _ _ h => h) (Or.inl ⟨by rfl, ?_⟩) (by assumption) ?_
     rotate_left
     ·(intro w hSw; (try dsimp only at hSw); go_simp); (try with_reducible rfl)
     try simp only [Act.put, zS]
     refine wpAnyH_take (i := 1) (oi := ⟨some 54, .load 5 (.tmp 53), 5, "law.go:475", #[⟨0, .data⟩], none⟩) (v := ?_) rfl (by kernel_rfl) (by kernel_rfl) (by kernel_rfl) (fun _ _ _ h => h) (Or.inl ⟨by rfl, ?_⟩) (by assumption) ?_
     rotate_left
     ·(intro w hSw; (try dsimp only at hSw); go_simp); (try with_reducible rfl)
     try simp only [Act.put, zS]
     refine wpAnyH_take (i := 2) (oi := ⟨some 55, .convert 5 3 (.tmp 54), 3, "law.go:475", #[⟨1, .data⟩], none⟩) (v := ?_) rfl (by kernel_rfl) (by kernel_rfl) (by kernel_rfl) (fun _ _ _ h => h) (Or.inl ⟨by rfl, ?_⟩) (by assumption) ?_
     rotate_left
     ·(intro w hSw; (try dsimp only at hSw); go_simp); (try with_reducible rfl)
     try simp only [Act.put, zS]
     refine wpAnyH_take (i := 3) (oi := ⟨some 56, .binOp .rem 3 (.tmp 55) (.const (.int .i64 12)) 3, 3, "law.go:475", #[⟨2, .data⟩], none⟩) (v := ?_) rfl (by kernel_rfl) (by kernel_rfl) (by kernel_rfl) (fun _ _ _ h => h) (Or.inl ⟨by rfl, ?_⟩) (by assumption) ?_
     rotate_left
     ·(intro w hSw; (try dsimp only at hSw); go_simp); (try with_reducible rfl)
     try simp only [Act.put, zS]
     refine wpAnyH_take (i := 4) (oi := ⟨some 57, .indexAddr 24 (.tmp 5) (.const (.int .i64 1)), 0, "law.go:475", #[{ on := 8, ground := Ground.gcOnly Departure.lateStores }], none⟩) (v := ?_) rfl (by kernel_rfl) (by kernel_rfl) (by kernel_rfl) (fun _ _ _ h => h) (Or.inl ⟨by rfl, ?_⟩) (by assumption) ?_
     rotate_left
     ·(intro w hSw; (try dsimp only at hSw); go_simp); (try with_reducible rfl)
     try simp only [Act.put, zS]
     refine wpAnyH_take (i := 5) (oi := ⟨some 58, .load 5 (.tmp 57), 5, "law.go:475", #[⟨4, .data⟩, { on := 8, ground := Ground.gcOnly Departure.lateStores }], none⟩) (v := ?_) rfl (by kernel_rfl) (by kernel_rfl) (by kernel_rfl) (fun _ _ _ h => h) (Or.inl ⟨by rfl, ?_⟩) (by assumption) ?_
     rotate_left
     ·(intro w hSw; (try dsimp only at hSw); go_simp); (try with_reducible rfl)
     try simp only [Act.put, zS]
     refine wpAnyH_take (i := 6) (oi := ⟨some 59, .convert 5 3 (.tmp 58), 3, "law.go:475", #[⟨5, .data⟩, { on := 8, ground := Ground.gcOnly Departure.lateStores }], none⟩) (v := ?_) rfl (by kernel_rfl) (by kernel_rfl) (by kernel_rfl) (fun _ _ _ h => h) (Or.inl ⟨by rfl, ?_⟩) (by assumption) ?_
     rotate_left
     ·(intro w hSw; (try dsimp only at hSw); go_simp); (try with_reducible rfl)
     try simp only [Act.put, zS]
     refine wpAnyH_take (i := 7) (oi := ⟨some 60, .binOp .rem 3 (.tmp 59) (.const (.int .i64 12)) 3, 3, "law.go:475", #[⟨6, .data⟩, { on := 8, ground := Ground.gcOnly Departure.lateStores }], none⟩) (v := ?_) rfl (by kernel_rfl) (by kernel_rfl) (by kernel_rfl) (fun _ _ _ h => h) (Or.inl ⟨by rfl, ?_⟩) (by assumption) ?_
     rotate_left
     ·(intro w hSw; (try dsimp only at hSw); go_simp); (try with_reducible rfl)
     try simp only [Act.put, zS]
     refine wpAnyH_take (i := 8) (oi := ⟨some 7, .assign (.tmp 56), 3, "law.go:475", #[⟨3, .data⟩, ⟨0, .phase⟩, ⟨1, .phase⟩, ⟨2, .phase⟩, ⟨3, .phase⟩, { on := 4, ground := Ground.textOnly Departure.lateStores }, { on := 5, ground := Ground.textOnly Departure.lateStores }, { on := 6, ground := Ground.textOnly Departure.lateStores }, { on := 7, ground := Ground.textOnly Departure.lateStores }], none⟩) (v := ?_) rfl (by kernel_rfl) (by kernel_rfl) (by kernel_rfl) (fun _ _ _ h => h) (Or.inl ⟨by rfl, ?_⟩) (by assumption) ?_
     rotate_left
     ·(intro w hSw; (try dsimp only at hSw); go_simp); (try with_reducible rfl)
     try simp only [Act.put, zS]
     refine wpAnyH_take (i := 9) (oi := ⟨some 8, .assign (.tmp 60), 3, "law.go:475", #[⟨7, .data⟩, ⟨8, .chain⟩, ⟨0, .phase⟩, ⟨1, .phase⟩, ⟨2, .phase⟩, ⟨3, .phase⟩, ⟨4, .phase⟩, ⟨5, .phase⟩, ⟨6, .phase⟩, ⟨7, .phase⟩, ⟨8, .phase⟩], none⟩) (v := ?_) rfl (by kernel_rfl) (by kernel_rfl) (by kernel_rfl) (fun _ _ _ h => h) (Or.inl ⟨by rfl, ?_⟩) (by assumption) ?_
     rotate_left
     ·(intro w hSw; (try dsimp only at hSw); go_simp); (try with_reducible rfl)
     try simp only [Act.put, zS]
     refine wpAnyH_done (by kernel_rfl) ?_ _
     clear hHeld0
     have hb2 := hbzd
     obtain ⟨W4, hW4⟩ : ∃ v, v = wzd := ⟨_, rfl⟩
     rw [← hW4] at hb2 ⊢
     clear hW4
     rename_i W4
     replace hb := bthen hb hb2
     clear hb2 c50 c51 u0 u1 x0 x1 x2 x3
     go_wp2_with fail
     refine (TP.out W4 (HA.out.carry (bthen K2.out hb))).mono ?_
     rintro e w5 ⟨⟨u, rfl, hu⟩, hl⟩
     replace hb := bthen hb hl
     clear hl
     go_wp2_with fail
     refine (TW.out u w5 (hu.rw pV_len)).mono ?_
     rintro e w6 ⟨rfl, hl⟩
     replace hb := bthen hb hl
     clear hu hl TW
     go_upto_region 5 with (refine wpList_storeA rfl _ _ _ rfl w6.heap.size sl (List.replicate 12 0) rfl rfl (BlkI.new w6 23 (List.replicate 12 0)) (by rw [HSLL.out]; rfl) (by rw [HSLL.out]; exact Tryz.infoA12) ?_)
     obtain ⟨W7, hW7⟩ : ∃ v, v = World.setRow (World.alloc w6 (Obj.cells #[.int .i64 0, .int .i64 0, .int .i64 0, .int .i64 0, .int .i64 0, .int .i64 0, .int .i64 0, .int .i64 0, .int .i64 0, .int .i64 0, .int .i64 0, .int .i64 0] 23)) w6.heap.size (ia (sl)) := ⟨_, rfl⟩
     have kW7 : Below w6.heap.size w6 W7 := by rw [hW7]; exact zrow_below _ _ _ _
     have iW7 : BlkI W7 w6.heap.size 23 (sl) := by rw [hW7]; exact zrow_blk w6 _ (List.replicate 12 0) _
     rw [← hW7]
     clear hW7
     replace hb := bthen hb kW7
     obtain ⟨G9, hG9⟩ : ∃ g, g = w6.heap.size := ⟨_, rfl⟩
     rw [← hG9] at iW7 ⊢
     have i9 := iW7
     clear iW7 kW7 hG9
     refine wp_region_held_drew (S := (fun _ => True)) (by kernel_rfl) trivial (fun hHeld0 => ?_)
     obtain ⟨wzd, hwz⟩ : ∃ v, v = W7.drew := ⟨_, rfl⟩
     rw [← hwz]
     have hbzd : Below W7.heap.size W7 wzd := by rw [hwz]; exact (Below.refl _ _).drew
     have hlzd : Below W7.heap.size W7 wzd := by rw [hwz]; exact (Below.refl _ _).drew
     clear hwz hlzd
     refine wpAnyH_take (i := 0) (oi := ⟨some 68, .move (.tmp 0), 22, "law.go:477", #[], none⟩) (v := ?_) rfl (by kernel_rfl) (by kernel_rfl) (by kernel_rfl) (fun _ _ _ h => h) (Or.inl ⟨by rfl, ?_⟩) (by assumption) ?_
     rotate_left
     ·(intro w hSw; (try dsimp only at hSw); go_simp); (try with_reducible rfl)
     try simp only [Act.put, zS]
     refine wpAnyH_take (i := 2) (oi := ⟨some 70, .move (.tmp 8), 3, "law.go:477", #[], none⟩) (v := ?_) rfl (by kernel_rfl) (by kernel_rfl) (by kernel_rfl) (fun _ _ _ h => h) (Or.inl ⟨by rfl, ?_⟩) (by assumption) ?_
     rotate_left
     ·(intro w hSw; (try dsimp only at hSw); go_simp); (try with_reducible rfl)
     try simp only [Act.put, zS]
     refine wpAnyH_take (i := 3) (oi := ⟨some 71, .binOp .shl 3 (.const (.int .i64 1)) (.tmp 70) 3, 3, "law.go:477", #[⟨2, .data⟩], none⟩) (v := ?_) rfl (by kernel_rfl) (by kernel_rfl) (by kernel_rfl) (fun _ _ _ h => h) (Or.inl ⟨by rfl, ?_⟩) (by assumption) ?_
     rotate_left
     ·(intro w hSw; (try dsimp only at hSw); go_simp); (try with_reducible rfl)
     try simp only [Act.put, zS]
     refine wpAnyH_ready (rs := [1]) (by kernel_rfl) (by simp) ?_
     refine (AllReadyH.cons (o := ⟨some 69, .call ⟨.value (.func 11), #[.tmp 68], #[22]⟩, 32, "law.go:477", #[⟨0, .data⟩], none⟩) rfl (fun K hK => ?_) AllReadyH.nil)
     go_simp
     refine (TP.out wzd (HA.out.carry (bthen K2.out (bthen hb hbzd)))).mono ?_
     rintro e wz1 ⟨⟨up, rfl, hu⟩, hl⟩
     replace hu : Prs _ _ la := hu.rw pV_len
     (try go_wp2_with fail)
     have hbz1 := bthen hbzd hl
     clear hl
     refine hK.out _ _ trivial (fun hHeld1 => ?_)
     clear hK K hHeld0
     try simp only [Act.put, zS]
     refine wpAnyH_ready (rs := [4]) (by kernel_rfl) (by simp) ?_
     refine (AllReadyH.cons (o := ⟨some 72, .call ⟨.value (.func 12), #[.tmp 69, .tmp 71], #[32, 3]⟩, 34, "law.go:477", #[⟨1, .data⟩, ⟨3, .data⟩, ⟨1, .chain⟩], none⟩) rfl (fun K hK => ?_) AllReadyH.nil)
     go_simp
     refine (TB.out up wz1 hu).mono ?_
     rintro e wz4 ⟨⟨u11, rfl, h11⟩, hl⟩
     (try go_wp2_with fail)
     have hbz4 := bthen hbz1 hl
     have hu := hu.carry hl
     clear hl
     refine hK.out _ _ trivial (fun hHeld2 => ?_)
     clear hK K hHeld1
     try simp only [Act.put, zS]
     refine wpAnyH_take (i := 5) (oi := ⟨some 67, .move (.tmp 72), 34, "law.go:477", #[⟨4, .data⟩], none⟩) (v := ?_) rfl (by kernel_rfl) (by kernel_rfl) (by kernel_rfl) (fun _ _ _ h => h) (Or.inl ⟨by rfl, ?_⟩) (by assumption) ?_
     rotate_left
     ·(intro w hSw; (try dsimp only at hSw); go_simp); (try with_reducible rfl)
     try simp only [Act.put, zS]
     refine wpAnyH_take (i := 6) (oi := ⟨some 73, .extract (.tmp 67) 0, 32, "law.go:477", #[⟨5, .data⟩], none⟩) (v := ?_) rfl (by kernel_rfl) (by kernel_rfl) (by kernel_rfl) (fun _ _ _ h => h) (Or.inl ⟨by rfl, ?_⟩) (by assumption) ?_
     rotate_left
     ·(intro w hSw; (try dsimp only at hSw); go_simp); (try with_reducible rfl)
     try simp only [Act.put, zS]
     refine wpAnyH_take (i := 7) (oi := ⟨some 74, .extract (.tmp 67) 1, 29, "law.go:477", #[⟨5, .data⟩, { on := 8, ground := Ground.gcOnly Departure.lateStores }], none⟩) (v := ?_) rfl (by kernel_rfl) (by kernel_rfl) (by kernel_rfl) (fun _ _ _ h => h) (Or.inl ⟨by rfl, ?_⟩) (by assumption) ?_
     rotate_left
     ·(intro w hSw; (try dsimp only at hSw); go_simp); (try with_reducible rfl)
     try simp only [Act.put, zS]
     refine wpAnyH_take (i := 8) (oi := ⟨some 11, .assign (.tmp 73), 32, "law.go:477", #[⟨6, .data⟩, ⟨4, .chain⟩, ⟨0, .phase⟩, ⟨1, .phase⟩, ⟨2, .phase⟩, ⟨3, .phase⟩, ⟨4, .phase⟩, ⟨5, .phase⟩, ⟨6, .phase⟩, { on := 7, ground := Ground.textOnly Departure.lateStores }], none⟩) (v := ?_) rfl (by kernel_rfl) (by kernel_rfl) (by kernel_rfl) (fun _ _ _ h => h) (Or.inl ⟨by rfl, ?_⟩) (by assumption) ?_
     rotate_left
     ·(intro w hSw; (try dsimp only at hSw); go_simp); (try with_reducible rfl)
     try simp only [Act.put, zS]
     refine wpAnyH_take (i := 9) (oi := ⟨some 12, .assign (.tmp 74), 29, "law.go:477", #[⟨7, .data⟩, ⟨8, .chain⟩, ⟨0, .phase⟩, ⟨1, .phase⟩, ⟨2, .phase⟩, ⟨3, .phase⟩, ⟨4, .phase⟩, ⟨5, .phase⟩, ⟨6, .phase⟩, ⟨7, .phase⟩, ⟨8, .phase⟩], none⟩) (v := ?_) rfl (by kernel_rfl) (by kernel_rfl) (by kernel_rfl) (fun _ _ _ h => h) (Or.inl ⟨by rfl, ?_⟩) (by assumption) ?_
     rotate_left
     ·(intro w hSw; (try dsimp only at hSw); go_simp); (try with_reducible rfl)
     try simp only [Act.put, zS]
     refine wpAnyH_done (by kernel_rfl) ?_ _
     clear hHeld2
     have hb2 := hbz4
     obtain ⟨W8, hW8⟩ : ∃ v, v = wz4 := ⟨_, rfl⟩
     rw [← hW8] at hb2 h11 ⊢
     clear hW8
     rename_i W8
     replace hb := bthen hb hb2
     replace i9 := i9.carry hb2
     clear hb2 TB qM hMr
     go_wp2_with fail
     refine (TT.out u11 W8 h11).mono ?_
     rintro e w9 ⟨⟨u, rfl, hu⟩, hl⟩
     replace hu : Prs _ _ yl := hu.rw pV_len
     replace hb := bthen hb hl
     replace i9 := i9.carry hl
     replace h11 := h11.carry hl
     clear hl
     go_wp2_with fail
     refine (RTy.out u w9 hu).mono ?_
     rintro e w10 ⟨rfl, hl⟩
     replace hb := bthen hb hl
     replace i9 := i9.carry hl
     replace h11 := h11.carry hl
     clear hl hu
     go_wp2_with fail
     refine (TT.out u11 w10 h11).mono ?_
     rintro e w11 ⟨⟨u, rfl, hu⟩, hl⟩
     replace hu : Prs _ _ yl := hu.rw pV_len
     replace hb := bthen hb hl
     replace i9 := i9.carry hl
     replace h11 := h11.carry hl
     clear hl
     go_wp2_with fail
     refine (TPy.out u w11 hu).mono ?_
     rintro e w12 ⟨⟨u2, rfl, hu2⟩, hl⟩
     replace hu2 : Prs _ _ yl := hu2.rw pV_len
     replace hb := bthen hb hl
     replace i9 := i9.carry hl
     replace h11 := h11.carry hl
     clear hl hu
     go_wp2_with fail
     refine (TY.out u2 w12 hu2).mono ?_
     rintro e w13 ⟨rfl, hl⟩
     replace hb := bthen hb hl
     replace i9 := i9.carry hl
     replace h11 := h11.carry hl
     clear hu2 hl TY
     go_upto_region 9 with (refine wpList_storeA rfl _ _ _ rfl w13.heap.size fl (List.replicate 12 0) rfl rfl (BlkI.new w13 23 (List.replicate 12 0)) (by rw [HFLL.out]; rfl) (by rw [HFLL.out]; exact Tryz.infoA12) ?_)
     obtain ⟨W14, hW14⟩ : ∃ v, v = World.setRow (World.alloc w13 (Obj.cells #[.int .i64 0, .int .i64 0, .int .i64 0, .int .i64 0, .int .i64 0, .int .i64 0, .int .i64 0, .int .i64 0, .int .i64 0, .int .i64 0, .int .i64 0, .int .i64 0] 23)) w13.heap.size (ia (fl)) := ⟨_, rfl⟩
     have kW14 : Below w13.heap.size w13 W14 := by rw [hW14]; exact zrow_below _ _ _ _
     have iW14 : BlkI W14 w13.heap.size 23 (fl) := by rw [hW14]; exact zrow_blk w13 _ (List.replicate 12 0) _
     rw [← hW14]
     clear hW14
     replace hb := bthen hb kW14
     replace i9 := i9.carry kW14
     replace h11 := h11.carry kW14
     obtain ⟨G13, hG13⟩ : ∃ g, g = w13.heap.size := ⟨_, rfl⟩
     rw [← hG13] at iW14 ⊢
     have i13 := iW14
     clear iW14 kW14 hG13
     have iL := I4.out.carry hb
     go_cut [15, 16] from 94 to 100 (fun u15 u16 wn => u16 = .int .i64 0 ∧ ∃ G15, u15 = .pointer (some ⟨G15, 0, none⟩) ∧ BlkF wn G15 38 wl ∧ Below W14.heap.size W14 wn)
     case first =>
      refine wp_region_held_drew (S := (fun W => BlkI W w.heap.size 23 ws)) (by kernel_rfl) (Blk.carry iL (Below.refl _ _).drew) (fun hHeld0 => ?_)
      obtain ⟨wzd, hwz⟩ : ∃ v, v = W14.drew := ⟨_, rfl⟩
      rw [← hwz] at hHeld0 ⊢
      have hbzd : Below W14.heap.size W14 wzd := by rw [hwz]; exact (Below.refl _ _).drew
      have hlzd : Below W14.heap.size W14 wzd := by rw [hwz]; exact (Below.refl _ _).drew
      clear hwz hlzd
      refine wpAnyH_take (i := 0) (oi := ⟨some 95, .move (.tmp 0), 22, "law.go:482", #[], none⟩) (v := ?_) rfl (by kernel_rfl) (by kernel_rfl) (by kernel_rfl) (fun _ _ _ h => h) (Or.inl ⟨by rfl, ?_⟩) (by assumption) ?_
      rotate_left
      ·(intro w hSw; (try dsimp only at hSw); go_simp); (try with_reducible rfl)
      try simp only [Act.put, zS]
      refine wpAnyH_take (i := 2) (oi := ⟨some 97, .load 23 (.tmp 4), 23, "law.go:482", #[], none⟩) (v := ?_) rfl (by kernel_rfl) (by kernel_rfl) (by kernel_rfl) (fun _ _ _ h => h) (Or.inl ⟨by rfl, ?_⟩) (by assumption) ?_
      rotate_left
      ·(intro w hSw; (try dsimp only at hSw); refine Eq.trans (exec_load rfl (load12 HWS.out hSw)) ?_); (try with_reducible rfl)
      try simp only [Act.put, zS]
      refine wpAnyH_ready (rs := [1, 7]) (by kernel_rfl) (by simp) ?_
      refine (AllReadyH.cons (o := ⟨some 96, .call ⟨.value (.func 11), #[.tmp 95], #[22]⟩, 32, "law.go:482", #[⟨0, .data⟩], none⟩) rfl (fun K hK => ?_) (AllReadyH.cons (o := ⟨some 15, .alloc 38, 0, "law.go:482", #[], none⟩) rfl (fun K hK => ?_) AllReadyH.nil))
      ·go_simp
       refine (TP.out wzd (HA.out.carry (bthen K2.out (bthen hb hbzd)))).mono ?_
       rintro e wz1 ⟨⟨up, rfl, hu⟩, hl⟩
       replace hu : Prs _ _ la := hu.rw pV_len
       (try go_wp2_with fail)
       have hbz1 := bthen hbzd hl
       clear hl
       refine hK.out _ _ (Blk.carry iL hbz1) (fun hHeld1 => ?_)
       clear hK K hHeld0
       try simp only [Act.put, zS]
       refine wpAnyH_ready (rs := [3, 7]) (by kernel_rfl) (by simp) ?_
       refine (AllReadyH.cons (o := ⟨some 98, .call ⟨.value (.func 14), #[.tmp 96, .tmp 97], #[32, 23]⟩, 39, "law.go:482", #[⟨1, .data⟩, ⟨2, .data⟩, ⟨1, .chain⟩], none⟩) rfl (fun K hK => ?_) (AllReadyH.cons (o := ⟨some 15, .alloc 38, 0, "law.go:482", #[], none⟩) rfl (fun K hK => ?_) AllReadyH.nil))
       ·go_simp
        refine (TE.out up wz1 hu).mono ?_
        rintro e wz3 ⟨rfl, hl⟩
        (try go_wp2_with fail)
        have hbz3 := bthen hbz1 hl
        have hu := hu.carry hl
        clear hl
        refine hK.out _ _ (Blk.carry iL hbz3) (fun hHeld2 => ?_)
        clear hK K hHeld1
        try simp only [Act.put, zS]
        refine wpAnyH_take (i := 4) (oi := ⟨some 94, .move (.tmp 98), 39, "law.go:482", #[⟨3, .data⟩], none⟩) (v := ?_) rfl (by kernel_rfl) (by kernel_rfl) (by kernel_rfl) (fun _ _ _ h => h) (Or.inl ⟨by rfl, ?_⟩) (by assumption) ?_
        rotate_left
        ·(intro w hSw; (try dsimp only at hSw); go_simp); (try with_reducible rfl)
        try simp only [Act.put, zS]
        refine wpAnyH_take (i := 5) (oi := ⟨some 99, .extract (.tmp 94) 0, 38, "law.go:482", #[⟨4, .data⟩], none⟩) (v := ?_) rfl (by kernel_rfl) (by kernel_rfl) (by kernel_rfl) (fun _ _ _ h => h) (Or.inl ⟨by rfl, ?_⟩) (by assumption) ?_
        rotate_left
        ·(intro w hSw; (try dsimp only at hSw); go_simp); (try with_reducible rfl)
        try simp only [Act.put, zS]
        refine wpAnyH_take (i := 6) (oi := ⟨some 100, .extract (.tmp 94) 1, 29, "law.go:482", #[⟨4, .data⟩, { on := 8, ground := Ground.gcOnly Departure.lateStores }], none⟩) (v := ?_) rfl (by kernel_rfl) (by kernel_rfl) (by kernel_rfl) (fun _ _ _ h => h) (Or.inl ⟨by rfl, ?_⟩) (by assumption) ?_
        rotate_left
        ·(intro w hSw; (try dsimp only at hSw); go_simp); (try with_reducible rfl)
        try simp only [Act.put, zS]
        refine wpAnyH_ready (rs := [7]) (by kernel_rfl) (by simp) ?_
        refine (AllReadyH.cons (o := ⟨some 15, .alloc 38, 0, "law.go:482", #[], none⟩) rfl (fun K hK => ?_) AllReadyH.nil)
        go_simp
        obtain ⟨wz7, hwz⟩ : ∃ v, v = wz3.alloc (Obj.cells #[Value.float FloatKind.f32 0, Value.float FloatKind.f32 0, Value.float FloatKind.f32 0, Value.float FloatKind.f32 0, Value.float FloatKind.f32 0, Value.float FloatKind.f32 0, Value.float FloatKind.f32 0, Value.float FloatKind.f32 0, Value.float FloatKind.f32 0, Value.float FloatKind.f32 0, Value.float FloatKind.f32 0, Value.float FloatKind.f32 0] 38) := ⟨_, rfl⟩
        rw [← hwz]
        have hl : Below wz3.heap.size wz3 wz7 := by rw [hwz]; exact below_new _ _
        have hbz7 := bthen hbz3 hl
        have j9 : BlkF wz7 wz3.heap.size 38 zerF := by rw [hwz]; exact Blk.new _ _ _
        have hG9 : W14.heap.size ≤ wz3.heap.size := (hbz3).size
        generalize wz3.heap.size = G15 at j9 hG9 ⊢
        clear hwz
        have hu := hu.carry hl
        clear hl
        refine hK.out _ _ (Blk.carry iL hbz7) (fun hHeld3 => ?_)
        clear hK K hHeld2
        try simp only [Act.put, zS]
        refine wpAnyH_ready (rs := [8]) (by kernel_rfl) (by simp) ?_
        refine (AllReadyH.cons (o := ⟨none, .store 38 (.tmp 15) (.tmp 99), 0, "law.go:482", #[⟨7, .data⟩, ⟨5, .data⟩, ⟨3, .chain⟩, ⟨0, .phase⟩, ⟨1, .phase⟩, ⟨2, .phase⟩, ⟨3, .phase⟩, ⟨4, .phase⟩, ⟨5, .phase⟩, { on := 6, ground := Ground.textOnly Departure.lateStores }, ⟨7, .phase⟩], none⟩) rfl (fun K hK => ?_) AllReadyH.nil)
        refine wp_storeF _ _ _ rfl G15 wl zerF rfl rfl j9 (by rw [HWLL.out]; rfl) (by rw [HWLL.out]; exact Tryz.infoF12) ?_
        obtain ⟨wz8, hwz⟩ : ∃ v, v = World.setRow wz7 G15 (fa wl) := ⟨_, rfl⟩
        rw [← hwz]
        have hbz8 : Below W14.heap.size W14 wz8 := by rw [hwz]; exact below_rowA hbz7 hG9 _
        replace j9 := BlkF.setRowA j9 wl
        rw [← hwz] at j9
        refine hK.out _ _ (Blk.carry iL hbz8) (fun hHeld4 => ?_)
        clear hK K hHeld3
        try simp only [Act.put, zS]
        refine wpAnyH_take (i := 9) (oi := ⟨some 16, .assign (.tmp 100), 29, "law.go:482", #[⟨6, .data⟩, ⟨8, .chain⟩, ⟨0, .phase⟩, ⟨1, .phase⟩, ⟨2, .phase⟩, ⟨3, .phase⟩, ⟨4, .phase⟩, ⟨5, .phase⟩, ⟨6, .phase⟩, ⟨7, .phase⟩, ⟨8, .phase⟩], none⟩) (v := ?_) rfl (by kernel_rfl) (by kernel_rfl) (by kernel_rfl) (fun _ _ _ h => h) (Or.inl ⟨by rfl, ?_⟩) (by assumption) ?_
        rotate_left
        ·(intro w hSw; (try dsimp only at hSw); go_simp); (try with_reducible rfl)
        try simp only [Act.put, zS]
        refine wpAnyH_done (by kernel_rfl) ?_ _
        clear hHeld4
        have hb2 := hbz8
        obtain ⟨W5, hW5⟩ : ∃ v, v = wz8 := ⟨_, rfl⟩
        rw [← hW5] at hb2 j9 ⊢
        clear hW5
        go_wp2_with fail
        go_meet
        exact ⟨rfl, _, rfl, j9, hb2⟩
       ·go_simp
        obtain ⟨wz7, hwz⟩ : ∃ v, v = wz1.alloc (Obj.cells #[Value.float FloatKind.f32 0, Value.float FloatKind.f32 0, Value.float FloatKind.f32 0, Value.float FloatKind.f32 0, Value.float FloatKind.f32 0, Value.float FloatKind.f32 0, Value.float FloatKind.f32 0, Value.float FloatKind.f32 0, Value.float FloatKind.f32 0, Value.float FloatKind.f32 0, Value.float FloatKind.f32 0, Value.float FloatKind.f32 0] 38) := ⟨_, rfl⟩
        rw [← hwz]
        have hl : Below wz1.heap.size wz1 wz7 := by rw [hwz]; exact below_new _ _
        have hbz7 := bthen hbz1 hl
        have j9 : BlkF wz7 wz1.heap.size 38 zerF := by rw [hwz]; exact Blk.new _ _ _
        have hG9 : W14.heap.size ≤ wz1.heap.size := (hbz1).size
        generalize wz1.heap.size = G15 at j9 hG9 ⊢
        clear hwz
        have hu := hu.carry hl
        clear hl
        refine hK.out _ _ (Blk.carry iL hbz7) (fun hHeld2 => ?_)
        clear hK K hHeld1
        try simp only [Act.put, zS]
        refine wpAnyH_ready (rs := [3]) (by kernel_rfl) (by simp) ?_
        refine (AllReadyH.cons (o := ⟨some 98, .call ⟨.value (.func 14), #[.tmp 96, .tmp 97], #[32, 23]⟩, 39, "law.go:482", #[⟨1, .data⟩, ⟨2, .data⟩, ⟨1, .chain⟩], none⟩) rfl (fun K hK => ?_) AllReadyH.nil)
        go_simp
        refine (TE.out up wz7 hu).mono ?_
        rintro e wz3 ⟨rfl, hl⟩
        (try go_wp2_with fail)
        have hbz3 := bthen hbz7 hl
        have hu := hu.carry hl
        have j9 := j9.carry hl
        clear hl
        refine hK.out _ _ (Blk.carry iL hbz3) (fun hHeld3 => ?_)
        clear hK K hHeld2
        try simp only [Act.put, zS]
        refine wpAnyH_take (i := 4) (oi := ⟨some 94, .move (.tmp 98), 39, "law.go:482", #[⟨3, .data⟩], none⟩) (v := ?_) rfl (by kernel_rfl) (by kernel_rfl) (by kernel_rfl) (fun _ _ _ h => h) (Or.inl ⟨by rfl, ?_⟩) (by assumption) ?_
        rotate_left
        ·(intro w hSw; (try dsimp only at hSw); go_simp); (try with_reducible rfl)
        try simp only [Act.put, zS]
        refine wpAnyH_take (i := 5) (oi := ⟨some 99, .extract (.tmp 94) 0, 38, "law.go:482", #[⟨4, .data⟩], none⟩) (v := ?_) rfl (by kernel_rfl) (by kernel_rfl) (by kernel_rfl) (fun _ _ _ h => h) (Or.inl ⟨by rfl, ?_⟩) (by assumption) ?_
        rotate_left
        ·(intro w hSw; (try dsimp only at hSw); go_simp); (try with_reducible rfl)
        try simp only [Act.put, zS]
        refine wpAnyH_take (i := 6) (oi := ⟨some 100, .extract (.tmp 94) 1, 29, "law.go:482", #[⟨4, .data⟩, { on := 8, ground := Ground.gcOnly Departure.lateStores }], none⟩) (v := ?_) rfl (by kernel_rfl) (by kernel_rfl) (by kernel_rfl) (fun _ _ _ h => h) (Or.inl ⟨by rfl, ?_⟩) (by assumption) ?_
        rotate_left
        ·(intro w hSw; (try dsimp only at hSw); go_simp); (try with_reducible rfl)
        try simp only [Act.put, zS]
        refine wpAnyH_ready (rs := [8]) (by kernel_rfl) (by simp) ?_
        refine (AllReadyH.cons (o := ⟨none, .store 38 (.tmp 15) (.tmp 99), 0, "law.go:482", #[⟨7, .data⟩, ⟨5, .data⟩, ⟨3, .chain⟩, ⟨0, .phase⟩, ⟨1, .phase⟩, ⟨2, .phase⟩, ⟨3, .phase⟩, ⟨4, .phase⟩, ⟨5, .phase⟩, { on := 6, ground := Ground.textOnly Departure.lateStores }, ⟨7, .phase⟩], none⟩) rfl (fun K hK => ?_) AllReadyH.nil)
        refine wp_storeF _ _ _ rfl G15 wl zerF rfl rfl j9 (by rw [HWLL.out]; rfl) (by rw [HWLL.out]; exact Tryz.infoF12) ?_
        obtain ⟨wz8, hwz⟩ : ∃ v, v = World.setRow wz3 G15 (fa wl) := ⟨_, rfl⟩
        rw [← hwz]
        have hbz8 : Below W14.heap.size W14 wz8 := by rw [hwz]; exact below_rowA hbz3 hG9 _
        replace j9 := BlkF.setRowA j9 wl
        rw [← hwz] at j9
        refine hK.out _ _ (Blk.carry iL hbz8) (fun hHeld4 => ?_)
        clear hK K hHeld3
        try simp only [Act.put, zS]
        refine wpAnyH_take (i := 9) (oi := ⟨some 16, .assign (.tmp 100), 29, "law.go:482", #[⟨6, .data⟩, ⟨8, .chain⟩, ⟨0, .phase⟩, ⟨1, .phase⟩, ⟨2, .phase⟩, ⟨3, .phase⟩, ⟨4, .phase⟩, ⟨5, .phase⟩, ⟨6, .phase⟩, ⟨7, .phase⟩, ⟨8, .phase⟩], none⟩) (v := ?_) rfl (by kernel_rfl) (by kernel_rfl) (by kernel_rfl) (fun _ _ _ h => h) (Or.inl ⟨by rfl, ?_⟩) (by assumption) ?_
        rotate_left
        ·(intro w hSw; (try dsimp only at hSw); go_simp); (try with_reducible rfl)
        try simp only [Act.put, zS]
        refine wpAnyH_done (by kernel_rfl) ?_ _
        clear hHeld4
        have hb2 := hbz8
        obtain ⟨W5, hW5⟩ : ∃ v, v = wz8 := ⟨_, rfl⟩
        rw [← hW5] at hb2 j9 ⊢
        clear hW5
        go_wp2_with fail
        go_meet
        exact ⟨rfl, _, rfl, j9, hb2⟩
      ·go_simp
       obtain ⟨wz7, hwz⟩ : ∃ v, v = wzd.alloc (Obj.cells #[Value.float FloatKind.f32 0, Value.float FloatKind.f32 0, Value.float FloatKind.f32 0, Value.float FloatKind.f32 0, Value.float FloatKind.f32 0, Value.float FloatKind.f32 0, Value.float FloatKind.f32 0, Value.float FloatKind.f32 0, Value.float FloatKind.f32 0, Value.float FloatKind.f32 0, Value.float FloatKind.f32 0, Value.float FloatKind.f32 0] 38) := ⟨_, rfl⟩
       rw [← hwz]
       have hl : Below wzd.heap.size wzd wz7 := by rw [hwz]; exact below_new _ _
       have hbz7 := bthen hbzd hl
       have j9 : BlkF wz7 wzd.heap.size 38 zerF := by rw [hwz]; exact Blk.new _ _ _
       have hG9 : W14.heap.size ≤ wzd.heap.size := (hbzd).size
       generalize wzd.heap.size = G15 at j9 hG9 ⊢
       clear hwz
       clear hl
       refine hK.out _ _ (Blk.carry iL hbz7) (fun hHeld1 => ?_)
       clear hK K hHeld0
       try simp only [Act.put, zS]
       refine wpAnyH_ready (rs := [1]) (by kernel_rfl) (by simp) ?_
       refine (AllReadyH.cons (o := ⟨some 96, .call ⟨.value (.func 11), #[.tmp 95], #[22]⟩, 32, "law.go:482", #[⟨0, .data⟩], none⟩) rfl (fun K hK => ?_) AllReadyH.nil)
       go_simp
       refine (TP.out wz7 (HA.out.carry (bthen K2.out (bthen hb hbz7)))).mono ?_
       rintro e wz1 ⟨⟨up, rfl, hu⟩, hl⟩
       replace hu : Prs _ _ la := hu.rw pV_len
       (try go_wp2_with fail)
       have hbz1 := bthen hbz7 hl
       have j9 := j9.carry hl
       clear hl
       refine hK.out _ _ (Blk.carry iL hbz1) (fun hHeld2 => ?_)
       clear hK K hHeld1
       try simp only [Act.put, zS]
       refine wpAnyH_ready (rs := [3]) (by kernel_rfl) (by simp) ?_
       refine (AllReadyH.cons (o := ⟨some 98, .call ⟨.value (.func 14), #[.tmp 96, .tmp 97], #[32, 23]⟩, 39, "law.go:482", #[⟨1, .data⟩, ⟨2, .data⟩, ⟨1, .chain⟩], none⟩) rfl (fun K hK => ?_) AllReadyH.nil)
       go_simp
       refine (TE.out up wz1 hu).mono ?_
       rintro e wz3 ⟨rfl, hl⟩
       (try go_wp2_with fail)
       have hbz3 := bthen hbz1 hl
       have j9 := j9.carry hl
       have hu := hu.carry hl
       clear hl
       refine hK.out _ _ (Blk.carry iL hbz3) (fun hHeld3 => ?_)
       clear hK K hHeld2
       try simp only [Act.put, zS]
       refine wpAnyH_take (i := 4) (oi := ⟨some 94, .move (.tmp 98), 39, "law.go:482", #[⟨3, .data⟩], none⟩) (v := ?_) rfl (by kernel_rfl) (by kernel_rfl) (by kernel_rfl) (fun _ _ _ h => h) (Or.inl ⟨by rfl, ?_⟩) (by assumption) ?_
       rotate_left
       ·(intro w hSw; (try dsimp only at hSw); go_simp); (try with_reducible rfl)
       try simp only [Act.put, zS]
       refine wpAnyH_take (i := 5) (oi := ⟨some 99, .extract (.tmp 94) 0, 38, "law.go:482", #[⟨4, .data⟩], none⟩) (v := ?_) rfl (by kernel_rfl) (by kernel_rfl) (by kernel_rfl) (fun _ _ _ h => h) (Or.inl ⟨by rfl, ?_⟩) (by assumption) ?_
       rotate_left
       ·(intro w hSw; (try dsimp only at hSw); go_simp); (try with_reducible rfl)
       try simp only [Act.put, zS]
       refine wpAnyH_take (i := 6) (oi := ⟨some 100, .extract (.tmp 94) 1, 29, "law.go:482", #[⟨4, .data⟩, { on := 8, ground := Ground.gcOnly Departure.lateStores }], none⟩) (v := ?_) rfl (by kernel_rfl) (by kernel_rfl) (by kernel_rfl) (fun _ _ _ h => h) (Or.inl ⟨by rfl, ?_⟩) (by assumption) ?_
       rotate_left
       ·(intro w hSw; (try dsimp only at hSw); go_simp); (try with_reducible rfl)
       try simp only [Act.put, zS]
       refine wpAnyH_ready (rs := [8]) (by kernel_rfl) (by simp) ?_
       refine (AllReadyH.cons (o := ⟨none, .store 38 (.tmp 15) (.tmp 99), 0, "law.go:482", #[⟨7, .data⟩, ⟨5, .data⟩, ⟨3, .chain⟩, ⟨0, .phase⟩, ⟨1, .phase⟩, ⟨2, .phase⟩, ⟨3, .phase⟩, ⟨4, .phase⟩, ⟨5, .phase⟩, { on := 6, ground := Ground.textOnly Departure.lateStores }, ⟨7, .phase⟩], none⟩) rfl (fun K hK => ?_) AllReadyH.nil)
       refine wp_storeF _ _ _ rfl G15 wl zerF rfl rfl j9 (by rw [HWLL.out]; rfl) (by rw [HWLL.out]; exact Tryz.infoF12) ?_
       obtain ⟨wz8, hwz⟩ : ∃ v, v = World.setRow wz3 G15 (fa wl) := ⟨_, rfl⟩
       rw [← hwz]
       have hbz8 : Below W14.heap.size W14 wz8 := by rw [hwz]; exact below_rowA hbz3 hG9 _
       replace j9 := BlkF.setRowA j9 wl
       rw [← hwz] at j9
       refine hK.out _ _ (Blk.carry iL hbz8) (fun hHeld4 => ?_)
       clear hK K hHeld3
       try simp only [Act.put, zS]
       refine wpAnyH_take (i := 9) (oi := ⟨some 16, .assign (.tmp 100), 29, "law.go:482", #[⟨6, .data⟩, ⟨8, .chain⟩, ⟨0, .phase⟩, ⟨1, .phase⟩, ⟨2, .phase⟩, ⟨3, .phase⟩, ⟨4, .phase⟩, ⟨5, .phase⟩, ⟨6, .phase⟩, ⟨7, .phase⟩, ⟨8, .phase⟩], none⟩) (v := ?_) rfl (by kernel_rfl) (by kernel_rfl) (by kernel_rfl) (fun _ _ _ h => h) (Or.inl ⟨by rfl, ?_⟩) (by assumption) ?_
       rotate_left
       ·(intro w hSw; (try dsimp only at hSw); go_simp); (try with_reducible rfl)
       try simp only [Act.put, zS]
       refine wpAnyH_done (by kernel_rfl) ?_ _
       clear hHeld4
       have hb2 := hbz8
       obtain ⟨W5, hW5⟩ : ∃ v, v = wz8 := ⟨_, rfl⟩
       rw [← hW5] at hb2 j9 ⊢
       clear hW5
       go_wp2_with fail
       go_meet
       exact ⟨rfl, _, rfl, j9, hb2⟩
     case rest =>
      obtain ⟨rfl, G15, rfl, i15, hb2⟩ := hcut
      obtain ⟨W15, hW15⟩ : ∃ x, x = wc := ⟨_, rfl⟩
      subst hW15
      replace hb := bthen hb hb2
      replace i9 := i9.carry hb2
      replace i13 := i13.carry hb2
      replace h11 := h11.carry hb2
      clear hb2 iL TE
      have hf9 := HF12.out
      have hs9 := HS12.out
      have hvs := (HV.out s hs9).2.2.1 rfl
      have c13 := BlkI.cell i13 (j := s) (by rw [HFLL.out]; exact hs9)
      rw [hvs] at c13
      have dsi : (s : Int) < 12 := by omega
      have HB := Lib.hid hb
      have H9 := Lib.hid i9
      have H13 := Lib.hid i13
      have H15 := Lib.hid i15
      have H11 := Lib.hid h11
      clear hb i9 i13 i15 h11 hvs
      go_wp2_with fail
      clear c13
      go_loopw [109] (fun i wr => ∃ k : Nat, k ≤ 12 ∧ i = .int .i64 k ∧ Below W15.heap.size W15 wr) (fun i _ => 12 - (intOf i).toNat)
      case atStart => exact ⟨0, by omega, rfl, Below.refl _ _⟩
      case round =>
       obtain ⟨k, hk, rfl, hbel⟩ := hrel
       by_cases hlt : k < 12
       ·have hdk : (k : Int) < 12 := by omega
        obtain ⟨⟨p1', p2', p3'⟩, g1, g2, g3, g4, g5⟩ := HV.out k hlt
        have c9 := BlkI.cell (H9.out.carry hbel) (j := k) (by rw [HSLL.out]; exact hlt)
        have c13 := BlkI.cell (H13.out.carry hbel) (j := k) (by rw [HFLL.out]; exact hlt)
        have c15 := BlkF.cell (Blk.carry H15.out hbel) (j := k) (by rw [HWLL.out]; exact hlt)
        have c4 := BlkI.cell (I4.out.carry (bthen HB.out hbel)) (j := k) (by rw [HWS.out]; exact hlt)
        rw [g5] at c15
        obtain ⟨X, hX⟩ : ∃ x, x = sl[k]?.getD 0 := ⟨_, rfl⟩
        obtain ⟨F, hF⟩ : ∃ x, x = fl[k]?.getD 0 := ⟨_, rfl⟩
        obtain ⟨Y, hY⟩ : ∃ x, x = ws[k]?.getD 0 := ⟨_, rfl⟩
        rw [← hX] at p1' p2' p3' g1 g4 c9 c15
        rw [← hF] at g1 g2 c13
        rw [← hY] at g3 g4 c4 c15
        obtain ⟨m, hm⟩ : ∃ x, x = Y * X := ⟨_, rfl⟩
        rw [← hm] at g4 c15
        have mm := fun W => mul_six g4 W
        have oo := int_order g4
        obtain ⟨z, hz⟩ : ∃ x, x = floatOfInt .f32 m := ⟨_, rfl⟩
        rw [← hz] at mm oo
        obtain ⟨q, hq⟩ : ∃ x, x = wq m := ⟨_, rfl⟩
        rw [← hq] at mm c15
        have k1 : floatOfInt .f32 m = z := hz.symm
        have qm : IntKind.i64.wrap (Y * X) = m := by rw [← hm]; exact IntWalk.i64_in _ (by omega)
        obtain ⟨MX, hMX⟩ : ∃ x, x = max (1 : Int) (N : Int) := ⟨_, rfl⟩
        rw [← HN.out, ← hMX] at p2'
        have mx1 : max (1 : Int) (N : Int) = MX := hMX.symm
        have mx2 : (if (1 : Int) < (N : Int) then (N : Int) else 1) = MX := by rw [hMX]; split <;> omega
        have d1 : decide (X < 0) = false := by rw [decide_eq_false_iff_not]; omega
        have d2 : decide (MX ≤ X) = false := by rw [decide_eq_false_iff_not]; omega
        have d3 : (FloatKind.f32.format.order z z == some .eq) = true := by rw [oo]; rfl
        have d0k : (0 : Int) ≤ (k : Int) := by omega
        clear hX hF hY hm hz hq hMX p1' p2' p3' g3 g4 g5
        by_cases hks : k = s
        ·have z1 : ((k : Int) != (s : Int)) = false := by rw [bne_eq_false_iff_eq]; omega
         clear g1 g2 hks
         go_upto_region 15 with fail
         refine wp_region_held_drew (S := (fun W => W.cell? ⟨G9, k, none⟩ = some (.int .i64 X) ∧ W.cell? ⟨G15, k, none⟩ = some (.float .f32 q) ∧ W.cell? ⟨w.heap.size, k, none⟩ = some (.int .i64 Y))) (by kernel_rfl) ⟨cellb c9 (Below.refl _ _).drew, cellb c15 (Below.refl _ _).drew, cellb c4 (Below.refl _ _).drew⟩ (fun hHeld0 => ?_)
         obtain ⟨wzd, hwz⟩ : ∃ v, v = wr.drew := ⟨_, rfl⟩
         rw [← hwz] at hHeld0 ⊢
         have hbzd : Below wr.heap.size wr wzd := by rw [hwz]; exact (Below.refl _ _).drew
         have hlzd : Below wr.heap.size wr wzd := by rw [hwz]; exact (Below.refl _ _).drew
         clear hwz hlzd
         refine wpAnyH_take (i := 0) (oi := ⟨some 112, .move (.tmp 17), 3, "law.go:487", #[], none⟩) (v := ?_) rfl (by kernel_rfl) (by kernel_rfl) (by kernel_rfl) (fun _ _ _ h => h) (Or.inl ⟨by rfl, ?_⟩) (by assumption) ?_
         rotate_left
         ·(intro w hSw; (try dsimp only at hSw); go_simp); (try with_reducible rfl)
         try simp only [Act.put, zS]
         refine wpAnyH_take (i := 1) (oi := ⟨some 113, .move (.tmp 8), 3, "law.go:487", #[], none⟩) (v := ?_) rfl (by kernel_rfl) (by kernel_rfl) (by kernel_rfl) (fun _ _ _ h => h) (Or.inl ⟨by rfl, ?_⟩) (by assumption) ?_
         rotate_left
         ·(intro w hSw; (try dsimp only at hSw); go_simp); (try with_reducible rfl)
         try simp only [Act.put, zS]
         refine wpAnyH_take (i := 2) (oi := ⟨some 114, .binOp .neq 3 (.tmp 112) (.tmp 113) 3, 4, "law.go:487", #[⟨0, .data⟩, ⟨1, .data⟩], none⟩) (v := ?_) rfl (by kernel_rfl) (by kernel_rfl) (by kernel_rfl) (fun _ _ _ h => h) (Or.inl ⟨by rfl, ?_⟩) (by assumption) ?_
         rotate_left
         ·(intro w hSw; (try dsimp only at hSw); go_simp); (try with_reducible rfl)
         try simp only [Act.put, zS]
         refine wpAnyH_take (i := 3) (oi := ⟨some 115, .move (.tmp 114), 4, "law.go:487", #[⟨2, .data⟩], none⟩) (v := ?_) rfl (by kernel_rfl) (by kernel_rfl) (by kernel_rfl) (fun _ _ _ h => h) (Or.inl ⟨by rfl, ?_⟩) (by assumption) ?_
         rotate_left
         ·(intro w hSw; (try dsimp only at hSw); go_simp); (try with_reducible rfl)
         try simp only [Act.put, zS]
         refine wpAnyH_take (i := 4) (oi := ⟨some 116, .move (.tmp 17), 3, "law.go:487", #[⟨3, .guard⟩], some (3, true)⟩) (v := undef) rfl (by kernel_rfl) (by kernel_rfl) (by kernel_rfl) (fun _ _ _ h => h) (Or.inr ⟨by rfl, rfl⟩) (by assumption) ?_
         try simp only [Act.put, zS]
         refine wpAnyH_take (i := 5) (oi := ⟨some 117, .indexAddr 23 (.tmp 13) (.tmp 116), 0, "law.go:487", #[⟨4, .data⟩, ⟨3, .guard⟩], some (3, true)⟩) (v := undef) rfl (by kernel_rfl) (by kernel_rfl) (by kernel_rfl) (fun _ _ _ h => h) (Or.inr ⟨by rfl, rfl⟩) (by assumption) ?_
         try simp only [Act.put, zS]
         refine wpAnyH_take (i := 6) (oi := ⟨some 118, .load 3 (.tmp 117), 3, "law.go:487", #[⟨5, .data⟩, ⟨3, .guard⟩], some (3, true)⟩) (v := undef) rfl (by kernel_rfl) (by kernel_rfl) (by kernel_rfl) (fun _ _ _ h => h) (Or.inr ⟨by rfl, rfl⟩) (by assumption) ?_
         try simp only [Act.put, zS]
         refine wpAnyH_take (i := 7) (oi := ⟨some 119, .move (.tmp 17), 3, "law.go:487", #[⟨3, .guard⟩], some (3, true)⟩) (v := undef) rfl (by kernel_rfl) (by kernel_rfl) (by kernel_rfl) (fun _ _ _ h => h) (Or.inr ⟨by rfl, rfl⟩) (by assumption) ?_
         try simp only [Act.put, zS]
         refine wpAnyH_take (i := 8) (oi := ⟨some 120, .indexAddr 23 (.tmp 9) (.tmp 119), 0, "law.go:487", #[⟨7, .data⟩, ⟨3, .guard⟩], some (3, true)⟩) (v := undef) rfl (by kernel_rfl) (by kernel_rfl) (by kernel_rfl) (fun _ _ _ h => h) (Or.inr ⟨by rfl, rfl⟩) (by assumption) ?_
         try simp only [Act.put, zS]
         refine wpAnyH_take (i := 9) (oi := ⟨some 121, .load 3 (.tmp 120), 3, "law.go:487", #[⟨8, .data⟩, ⟨3, .guard⟩], some (3, true)⟩) (v := undef) rfl (by kernel_rfl) (by kernel_rfl) (by kernel_rfl) (fun _ _ _ h => h) (Or.inr ⟨by rfl, rfl⟩) (by assumption) ?_
         try simp only [Act.put, zS]
         refine wpAnyH_take (i := 10) (oi := ⟨some 122, .binOp .neq 3 (.tmp 118) (.tmp 121) 3, 4, "law.go:487", #[⟨6, .data⟩, ⟨9, .data⟩, ⟨3, .guard⟩], some (3, true)⟩) (v := undef) rfl (by kernel_rfl) (by kernel_rfl) (by kernel_rfl) (fun _ _ _ h => h) (Or.inr ⟨by rfl, rfl⟩) (by assumption) ?_
         try simp only [Act.put, zS]
         refine wpAnyH_take (i := 11) (oi := ⟨some 123, .pick (.tmp 115) (.tmp 122) (.const (.bool false)), 4, "law.go:487", #[⟨3, .data⟩, ⟨10, .data⟩], none⟩) (v := ?_) rfl (by kernel_rfl) (by kernel_rfl) (by kernel_rfl) (fun _ _ _ h => h) (Or.inl ⟨by rfl, ?_⟩) (by assumption) ?_
         rotate_left
         ·(intro w hSw; (try dsimp only at hSw); go_simp); (try with_reducible rfl)
         try simp only [Act.put, zS]
         refine wpAnyH_take (i := 12) (oi := ⟨some 124, .move (.tmp 123), 4, "law.go:487", #[⟨11, .data⟩, ⟨3, .chain⟩], none⟩) (v := ?_) rfl (by kernel_rfl) (by kernel_rfl) (by kernel_rfl) (fun _ _ _ h => h) (Or.inl ⟨by rfl, ?_⟩) (by assumption) ?_
         rotate_left
         ·(intro w hSw; (try dsimp only at hSw); go_simp); (try with_reducible rfl)
         try simp only [Act.put, zS]
         refine wpAnyH_take (i := 13) (oi := ⟨some 125, .move (.tmp 17), 3, "law.go:487", #[⟨12, .guard⟩], some (12, false)⟩) (v := ?_) rfl (by kernel_rfl) (by kernel_rfl) (by kernel_rfl) (fun _ _ _ h => h) (Or.inl ⟨by rfl, ?_⟩) (by assumption) ?_
         rotate_left
         ·(intro w hSw; (try dsimp only at hSw); go_simp); (try with_reducible rfl)
         try simp only [Act.put, zS]
         refine wpAnyH_take (i := 14) (oi := ⟨some 126, .indexAddr 23 (.tmp 9) (.tmp 125), 0, "law.go:487", #[⟨13, .data⟩, ⟨12, .guard⟩], some (12, false)⟩) (v := ?_) rfl (by kernel_rfl) (by kernel_rfl) (by kernel_rfl) (fun _ _ _ h => h) (Or.inl ⟨by rfl, ?_⟩) (by assumption) ?_
         rotate_left
         ·(intro w hSw; (try dsimp only at hSw); go_simp); (try with_reducible rfl)
         try simp only [Act.put, zS]
         refine wpAnyH_take (i := 15) (oi := ⟨some 127, .load 3 (.tmp 126), 3, "law.go:487", #[⟨14, .data⟩, ⟨12, .guard⟩], some (12, false)⟩) (v := ?_) rfl (by kernel_rfl) (by kernel_rfl) (by kernel_rfl) (fun _ _ _ h => h) (Or.inl ⟨by rfl, ?_⟩) (by assumption) ?_
         rotate_left
         ·(intro w hSw; (try dsimp only at hSw); go_simp); (try with_reducible rfl)
         try simp only [Act.put, zS]
         refine wpAnyH_take (i := 16) (oi := ⟨some 128, .binOp .lss 3 (.tmp 127) (.const (.int .i64 0)) 3, 4, "law.go:487", #[⟨15, .data⟩, ⟨12, .guard⟩], some (12, false)⟩) (v := ?_) rfl (by kernel_rfl) (by kernel_rfl) (by kernel_rfl) (fun _ _ _ h => h) (Or.inl ⟨by rfl, ?_⟩) (by assumption) ?_
         rotate_left
         ·(intro w hSw; (try dsimp only at hSw); go_simp); (try with_reducible rfl)
         try simp only [Act.put, zS]
         refine wpAnyH_take (i := 17) (oi := ⟨some 129, .pick (.tmp 124) (.const (.bool true)) (.tmp 128), 4, "law.go:487", #[⟨12, .data⟩, ⟨16, .data⟩], none⟩) (v := ?_) rfl (by kernel_rfl) (by kernel_rfl) (by kernel_rfl) (fun _ _ _ h => h) (Or.inl ⟨by rfl, ?_⟩) (by assumption) ?_
         rotate_left
         ·(intro w hSw; (try dsimp only at hSw); go_simp); (try with_reducible rfl)
         try simp only [Act.put, zS]
         refine wpAnyH_take (i := 18) (oi := ⟨some 130, .move (.tmp 129), 4, "law.go:487", #[⟨17, .data⟩, ⟨12, .chain⟩], none⟩) (v := ?_) rfl (by kernel_rfl) (by kernel_rfl) (by kernel_rfl) (fun _ _ _ h => h) (Or.inl ⟨by rfl, ?_⟩) (by assumption) ?_
         rotate_left
         ·(intro w hSw; (try dsimp only at hSw); go_simp); (try with_reducible rfl)
         try simp only [Act.put, zS]
         refine wpAnyH_take (i := 19) (oi := ⟨some 131, .move (.tmp 17), 3, "law.go:487", #[⟨18, .guard⟩], some (18, false)⟩) (v := ?_) rfl (by kernel_rfl) (by kernel_rfl) (by kernel_rfl) (fun _ _ _ h => h) (Or.inl ⟨by rfl, ?_⟩) (by assumption) ?_
         rotate_left
         ·(intro w hSw; (try dsimp only at hSw); go_simp); (try with_reducible rfl)
         try simp only [Act.put, zS]
         refine wpAnyH_take (i := 20) (oi := ⟨some 132, .indexAddr 23 (.tmp 9) (.tmp 131), 0, "law.go:487", #[⟨19, .data⟩, ⟨18, .guard⟩], some (18, false)⟩) (v := ?_) rfl (by kernel_rfl) (by kernel_rfl) (by kernel_rfl) (fun _ _ _ h => h) (Or.inl ⟨by rfl, ?_⟩) (by assumption) ?_
         rotate_left
         ·(intro w hSw; (try dsimp only at hSw); go_simp); (try with_reducible rfl)
         try simp only [Act.put, zS]
         refine wpAnyH_take (i := 21) (oi := ⟨some 133, .load 3 (.tmp 132), 3, "law.go:487", #[⟨20, .data⟩, ⟨18, .guard⟩], some (18, false)⟩) (v := ?_) rfl (by kernel_rfl) (by kernel_rfl) (by kernel_rfl) (fun _ _ _ h => h) (Or.inl ⟨by rfl, ?_⟩) (by assumption) ?_
         rotate_left
         ·(intro w hSw; (try dsimp only at hSw); go_simp); (try with_reducible rfl)
         try simp only [Act.put, zS]
         refine wpAnyH_take (i := 22) (oi := ⟨some 134, .move (.tmp 0), 22, "law.go:487", #[⟨18, .guard⟩], some (18, false)⟩) (v := ?_) rfl (by kernel_rfl) (by kernel_rfl) (by kernel_rfl) (fun _ _ _ h => h) (Or.inl ⟨by rfl, ?_⟩) (by assumption) ?_
         rotate_left
         ·(intro w hSw; (try dsimp only at hSw); go_simp); (try with_reducible rfl)
         try simp only [Act.put, zS]
         refine wpAnyH_take (i := 23) (oi := ⟨some 135, .call ⟨.builtin .len, #[.tmp 134], #[22]⟩, 3, "law.go:487", #[⟨22, .data⟩, ⟨18, .guard⟩], some (18, false)⟩) (v := ?_) rfl (by kernel_rfl) (by kernel_rfl) (by kernel_rfl) (fun _ _ _ h => h) (Or.inl ⟨by rfl, ?_⟩) (by assumption) ?_
         rotate_left
         ·(intro w hSw; (try dsimp only at hSw); go_simp); (try with_reducible rfl)
         try simp only [Act.put, zS]
         refine wpAnyH_take (i := 24) (oi := ⟨some 136, .call ⟨.builtin .max, #[.const (.int .i64 1), .tmp 135], #[3, 3]⟩, 3, "law.go:487", #[⟨23, .data⟩, ⟨18, .guard⟩], some (18, false)⟩) (v := ?_) rfl (by kernel_rfl) (by kernel_rfl) (by kernel_rfl) (fun _ _ _ h => h) (Or.inl ⟨by rfl, ?_⟩) (by assumption) ?_
         rotate_left
         ·(intro w hSw; (try dsimp only at hSw); go_simp); (try with_reducible rfl)
         try simp only [Act.put, zS]
         refine wpAnyH_take (i := 25) (oi := ⟨some 137, .binOp .geq 3 (.tmp 133) (.tmp 136) 3, 4, "law.go:487", #[⟨21, .data⟩, ⟨24, .data⟩, ⟨18, .guard⟩], some (18, false)⟩) (v := ?_) rfl (by kernel_rfl) (by kernel_rfl) (by kernel_rfl) (fun _ _ _ h => h) (Or.inl ⟨by rfl, ?_⟩) (by assumption) ?_
         rotate_left
         ·(intro w hSw; (try dsimp only at hSw); go_simp); (try with_reducible rfl)
         try simp only [Act.put, zS]
         refine wpAnyH_take (i := 26) (oi := ⟨some 138, .pick (.tmp 130) (.const (.bool true)) (.tmp 137), 4, "law.go:487", #[⟨18, .data⟩, ⟨25, .data⟩], none⟩) (v := ?_) rfl (by kernel_rfl) (by kernel_rfl) (by kernel_rfl) (fun _ _ _ h => h) (Or.inl ⟨by rfl, ?_⟩) (by assumption) ?_
         rotate_left
         ·(intro w hSw; (try dsimp only at hSw); go_simp); (try with_reducible rfl)
         try simp only [Act.put, zS]
         refine wpAnyH_take (i := 27) (oi := ⟨some 139, .move (.tmp 138), 4, "law.go:487", #[⟨26, .data⟩, ⟨18, .chain⟩], none⟩) (v := ?_) rfl (by kernel_rfl) (by kernel_rfl) (by kernel_rfl) (fun _ _ _ h => h) (Or.inl ⟨by rfl, ?_⟩) (by assumption) ?_
         rotate_left
         ·(intro w hSw; (try dsimp only at hSw); go_simp); (try with_reducible rfl)
         try simp only [Act.put, zS]
         refine wpAnyH_take (i := 28) (oi := ⟨some 140, .move (.tmp 16), 29, "law.go:487", #[⟨27, .guard⟩], some (27, false)⟩) (v := ?_) rfl (by kernel_rfl) (by kernel_rfl) (by kernel_rfl) (fun _ _ _ h => h) (Or.inl ⟨by rfl, ?_⟩) (by assumption) ?_
         rotate_left
         ·(intro w hSw; (try dsimp only at hSw); go_simp); (try with_reducible rfl)
         try simp only [Act.put, zS]
         refine wpAnyH_take (i := 29) (oi := ⟨some 141, .binOp .eql 29 (.tmp 140) (.const (.int .i64 0)) 29, 4, "law.go:487", #[⟨28, .data⟩, ⟨27, .guard⟩], some (27, false)⟩) (v := ?_) rfl (by kernel_rfl) (by kernel_rfl) (by kernel_rfl) (fun _ _ _ h => h) (Or.inl ⟨by rfl, ?_⟩) (by assumption) ?_
         rotate_left
         ·(intro w hSw; (try dsimp only at hSw); go_simp); (try with_reducible rfl)
         try simp only [Act.put, zS]
         refine wpAnyH_take (i := 30) (oi := ⟨some 142, .move (.tmp 141), 4, "law.go:487", #[⟨29, .data⟩, ⟨27, .chain⟩, ⟨27, .guard⟩], some (27, false)⟩) (v := ?_) rfl (by kernel_rfl) (by kernel_rfl) (by kernel_rfl) (fun _ _ _ h => h) (Or.inl ⟨by rfl, ?_⟩) (by assumption) ?_
         rotate_left
         ·(intro w hSw; (try dsimp only at hSw); go_simp); (try with_reducible rfl)
         try simp only [Act.put, zS]
         refine wpAnyH_take (i := 31) (oi := ⟨some 143, .move (.tmp 17), 3, "law.go:487", #[⟨30, .guard⟩], some (30, true)⟩) (v := ?_) rfl (by kernel_rfl) (by kernel_rfl) (by kernel_rfl) (fun _ _ _ h => h) (Or.inl ⟨by rfl, ?_⟩) (by assumption) ?_
         rotate_left
         ·(intro w hSw; (try dsimp only at hSw); go_simp); (try with_reducible rfl)
         try simp only [Act.put, zS]
         refine wpAnyH_take (i := 32) (oi := ⟨some 144, .indexAddr 38 (.tmp 15) (.tmp 143), 0, "law.go:487", #[⟨31, .data⟩, ⟨30, .guard⟩], some (30, true)⟩) (v := ?_) rfl (by kernel_rfl) (by kernel_rfl) (by kernel_rfl) (fun _ _ _ h => h) (Or.inl ⟨by rfl, ?_⟩) (by assumption) ?_
         rotate_left
         ·(intro w hSw; (try dsimp only at hSw); go_simp); (try with_reducible rfl)
         try simp only [Act.put, zS]
         refine wpAnyH_take (i := 33) (oi := ⟨some 145, .load 37 (.tmp 144), 37, "law.go:487", #[⟨32, .data⟩, ⟨30, .guard⟩], some (30, true)⟩) (v := ?_) rfl (by kernel_rfl) (by kernel_rfl) (by kernel_rfl) (fun _ _ _ h => h) (Or.inl ⟨by rfl, ?_⟩) (by assumption) ?_
         rotate_left
         ·(intro w hSw; (try dsimp only at hSw); go_simp); (try with_reducible rfl)
         try simp only [Act.put, zS]
         refine wpAnyH_take (i := 34) (oi := ⟨some 146, .binOp .mul 37 (.const (.float .f32 1098907648)) (.tmp 145) 37, 37, "law.go:487", #[⟨33, .data⟩, ⟨30, .guard⟩], some (30, true)⟩) (v := ?_) rfl (by kernel_rfl) (by kernel_rfl) (by kernel_rfl) (fun _ _ _ h => h) (Or.inl ⟨by rfl, ?_⟩) (by assumption) ?_
         rotate_left
         ·(intro w hSw; (try dsimp only at hSw); go_simp); (try with_reducible rfl)
         try simp only [Act.put, zS]
         refine wpAnyH_take (i := 35) (oi := ⟨some 147, .move (.tmp 17), 3, "law.go:487", #[⟨30, .guard⟩], some (30, true)⟩) (v := ?_) rfl (by kernel_rfl) (by kernel_rfl) (by kernel_rfl) (fun _ _ _ h => h) (Or.inl ⟨by rfl, ?_⟩) (by assumption) ?_
         rotate_left
         ·(intro w hSw; (try dsimp only at hSw); go_simp); (try with_reducible rfl)
         try simp only [Act.put, zS]
         refine wpAnyH_take (i := 36) (oi := ⟨some 148, .indexAddr 23 (.tmp 4) (.tmp 147), 0, "law.go:487", #[⟨35, .data⟩, ⟨30, .guard⟩], some (30, true)⟩) (v := ?_) rfl (by kernel_rfl) (by kernel_rfl) (by kernel_rfl) (fun _ _ _ h => h) (Or.inl ⟨by rfl, ?_⟩) (by assumption) ?_
         rotate_left
         ·(intro w hSw; (try dsimp only at hSw); go_simp); (try with_reducible rfl)
         try simp only [Act.put, zS]
         refine wpAnyH_take (i := 37) (oi := ⟨some 149, .load 3 (.tmp 148), 3, "law.go:487", #[⟨36, .data⟩, ⟨30, .guard⟩], some (30, true)⟩) (v := ?_) rfl (by kernel_rfl) (by kernel_rfl) (by kernel_rfl) (fun _ _ _ h => h) (Or.inl ⟨by rfl, ?_⟩) (by assumption) ?_
         rotate_left
         ·(intro w hSw; (try dsimp only at hSw); go_simp); (try with_reducible rfl)
         try simp only [Act.put, zS]
         refine wpAnyH_take (i := 38) (oi := ⟨some 150, .move (.tmp 17), 3, "law.go:487", #[⟨30, .guard⟩], some (30, true)⟩) (v := ?_) rfl (by kernel_rfl) (by kernel_rfl) (by kernel_rfl) (fun _ _ _ h => h) (Or.inl ⟨by rfl, ?_⟩) (by assumption) ?_
         rotate_left
         ·(intro w hSw; (try dsimp only at hSw); go_simp); (try with_reducible rfl)
         try simp only [Act.put, zS]
         refine wpAnyH_take (i := 39) (oi := ⟨some 151, .indexAddr 23 (.tmp 9) (.tmp 150), 0, "law.go:487", #[⟨38, .data⟩, ⟨30, .guard⟩], some (30, true)⟩) (v := ?_) rfl (by kernel_rfl) (by kernel_rfl) (by kernel_rfl) (fun _ _ _ h => h) (Or.inl ⟨by rfl, ?_⟩) (by assumption) ?_
         rotate_left
         ·(intro w hSw; (try dsimp only at hSw); go_simp); (try with_reducible rfl)
         try simp only [Act.put, zS]
         refine wpAnyH_take (i := 40) (oi := ⟨some 152, .load 3 (.tmp 151), 3, "law.go:487", #[⟨39, .data⟩, ⟨30, .guard⟩], some (30, true)⟩) (v := ?_) rfl (by kernel_rfl) (by kernel_rfl) (by kernel_rfl) (fun _ _ _ h => h) (Or.inl ⟨by rfl, ?_⟩) (by assumption) ?_
         rotate_left
         ·(intro w hSw; (try dsimp only at hSw); go_simp); (try with_reducible rfl)
         try simp only [Act.put, zS]
         refine wpAnyH_take (i := 41) (oi := ⟨some 153, .binOp .mul 3 (.tmp 149) (.tmp 152) 3, 3, "law.go:487", #[⟨37, .data⟩, ⟨40, .data⟩, ⟨30, .guard⟩], some (30, true)⟩) (v := ?_) rfl (by kernel_rfl) (by kernel_rfl) (by kernel_rfl) (fun _ _ _ h => h) (Or.inl ⟨by rfl, ?_⟩) (by assumption) ?_
         rotate_left
         ·(intro w hSw; (try dsimp only at hSw); go_simp); (try with_reducible rfl)
         try simp only [Act.put, zS]
         refine wpAnyH_take (i := 42) (oi := ⟨some 154, .convert 3 37 (.tmp 153), 37, "law.go:487", #[⟨41, .data⟩, ⟨30, .guard⟩], some (30, true)⟩) (v := ?_) rfl (by kernel_rfl) (by kernel_rfl) (by kernel_rfl) (fun _ _ _ h => h) (Or.inl ⟨by rfl, ?_⟩) (by assumption) ?_
         rotate_left
         ·(intro w hSw; (try dsimp only at hSw); go_simp); (try with_reducible rfl)
         try simp only [Act.put, zS]
         refine wpAnyH_take (i := 43) (oi := ⟨some 155, .binOp .neq 37 (.tmp 146) (.tmp 154) 37, 4, "law.go:487", #[⟨34, .data⟩, ⟨42, .data⟩, ⟨30, .guard⟩], some (30, true)⟩) (v := ?_) rfl (by kernel_rfl) (by kernel_rfl) (by kernel_rfl) (fun _ _ _ h => h) (Or.inl ⟨by rfl, ?_⟩) (by assumption) ?_
         rotate_left
         ·(intro w hSw; (try dsimp only at hSw); go_simp); (try with_reducible rfl)
         try simp only [Act.put, zS]
         refine wpAnyH_take (i := 44) (oi := ⟨some 156, .pick (.tmp 142) (.tmp 155) (.const (.bool false)), 4, "law.go:487", #[⟨30, .data⟩, ⟨43, .data⟩, ⟨27, .guard⟩], some (27, false)⟩) (v := ?_) rfl (by kernel_rfl) (by kernel_rfl) (by kernel_rfl) (fun _ _ _ h => h) (Or.inl ⟨by rfl, ?_⟩) (by assumption) ?_
         rotate_left
         ·(intro w hSw; (try dsimp only at hSw); go_simp); (try with_reducible rfl)
         try simp only [Act.put, zS]
         refine wpAnyH_take (i := 45) (oi := ⟨some 157, .pick (.tmp 139) (.const (.bool true)) (.tmp 156), 4, "law.go:487", #[⟨27, .data⟩, ⟨44, .data⟩], none⟩) (v := ?_) rfl (by kernel_rfl) (by kernel_rfl) (by kernel_rfl) (fun _ _ _ h => h) (Or.inl ⟨by rfl, ?_⟩) (by assumption) ?_
         rotate_left
         ·(intro w hSw; (try dsimp only at hSw); go_simp); (try with_reducible rfl)
         try simp only [Act.put, zS]
         refine wpAnyH_done (by kernel_rfl) ?_ _
         clear hHeld0
         have hb2 := hbzd
         obtain ⟨W16, hW16⟩ : ∃ v, v = wzd := ⟨_, rfl⟩
         rw [← hW16] at hb2 ⊢
         clear hW16
         have hbel2 := bthen hbel hb2
         clear c9 c13 c15 c4 mm oo k1 qm mx1 mx2 d1 d2 d3 hb2 z1
         go_wp2
         go_roundw
         case rel => exact ⟨k + 1, by omega, by go_num, hbel2⟩
         case measure => simp [intOf]; omega
        ·have z1 : ((k : Int) != (s : Int)) = true := by rw [bne_iff_ne]; omega
         obtain rfl : F = X := g1 hks
         clear g1 g2 hks
         go_upto_region 15 with fail
         refine wp_region_held_drew (S := (fun W => W.cell? ⟨G9, k, none⟩ = some (.int .i64 F) ∧ W.cell? ⟨G13, k, none⟩ = some (.int .i64 F) ∧ W.cell? ⟨G15, k, none⟩ = some (.float .f32 q) ∧ W.cell? ⟨w.heap.size, k, none⟩ = some (.int .i64 Y))) (by kernel_rfl) ⟨cellb c9 (Below.refl _ _).drew, cellb c13 (Below.refl _ _).drew, cellb c15 (Below.refl _ _).drew, cellb c4 (Below.refl _ _).drew⟩ (fun hHeld0 => ?_)
         obtain ⟨wzd, hwz⟩ : ∃ v, v = wr.drew := ⟨_, rfl⟩
         rw [← hwz] at hHeld0 ⊢
         have hbzd : Below wr.heap.size wr wzd := by rw [hwz]; exact (Below.refl _ _).drew
         have hlzd : Below wr.heap.size wr wzd := by rw [hwz]; exact (Below.refl _ _).drew
         clear hwz hlzd
         refine wpAnyH_take (i := 0) (oi := ⟨some 112, .move (.tmp 17), 3, "law.go:487", #[], none⟩) (v := ?_) rfl (by kernel_rfl) (by kernel_rfl) (by kernel_rfl) (fun _ _ _ h => h) (Or.inl ⟨by rfl, ?_⟩) (by assumption) ?_
         rotate_left
         ·(intro w hSw; (try dsimp only at hSw); go_simp); (try with_reducible rfl)
         try simp only [Act.put, zS]
         refine wpAnyH_take (i := 1) (oi := ⟨some 113, .move (.tmp 8), 3, "law.go:487", #[], none⟩) (v := ?_) rfl (by kernel_rfl) (by kernel_rfl) (by kernel_rfl) (fun _ _ _ h => h) (Or.inl ⟨by rfl, ?_⟩) (by assumption) ?_
         rotate_left
         ·(intro w hSw; (try dsimp only at hSw); go_simp); (try with_reducible rfl)
         try simp only [Act.put, zS]
         refine wpAnyH_take (i := 2) (oi := ⟨some 114, .binOp .neq 3 (.tmp 112) (.tmp 113) 3, 4, "law.go:487", #[⟨0, .data⟩, ⟨1, .data⟩], none⟩) (v := ?_) rfl (by kernel_rfl) (by kernel_rfl) (by kernel_rfl) (fun _ _ _ h => h) (Or.inl ⟨by rfl, ?_⟩) (by assumption) ?_
         rotate_left
         ·(intro w hSw; (try dsimp only at hSw); go_simp); (try with_reducible rfl)
         try simp only [Act.put, zS]
         refine wpAnyH_take (i := 3) (oi := ⟨some 115, .move (.tmp 114), 4, "law.go:487", #[⟨2, .data⟩], none⟩) (v := ?_) rfl (by kernel_rfl) (by kernel_rfl) (by kernel_rfl) (fun _ _ _ h => h) (Or.inl ⟨by rfl, ?_⟩) (by assumption) ?_
         rotate_left
         ·(intro w hSw; (try dsimp only at hSw); go_simp); (try with_reducible rfl)
         try simp only [Act.put, zS]
         refine wpAnyH_take (i := 4) (oi := ⟨some 116, .move (.tmp 17), 3, "law.go:487", #[⟨3, .guard⟩], some (3, true)⟩) (v := ?_) rfl (by kernel_rfl) (by kernel_rfl) (by kernel_rfl) (fun _ _ _ h => h) (Or.inl ⟨by rfl, ?_⟩) (by assumption) ?_
         rotate_left
         ·(intro w hSw; (try dsimp only at hSw); go_simp); (try with_reducible rfl)
         try simp only [Act.put, zS]
         refine wpAnyH_take (i := 5) (oi := ⟨some 117, .indexAddr 23 (.tmp 13) (.tmp 116), 0, "law.go:487", #[⟨4, .data⟩, ⟨3, .guard⟩], some (3, true)⟩) (v := ?_) rfl (by kernel_rfl) (by kernel_rfl) (by kernel_rfl) (fun _ _ _ h => h) (Or.inl ⟨by rfl, ?_⟩) (by assumption) ?_
         rotate_left
         ·(intro w hSw; (try dsimp only at hSw); go_simp); (try with_reducible rfl)
         try simp only [Act.put, zS]
         refine wpAnyH_take (i := 6) (oi := ⟨some 118, .load 3 (.tmp 117), 3, "law.go:487", #[⟨5, .data⟩, ⟨3, .guard⟩], some (3, true)⟩) (v := ?_) rfl (by kernel_rfl) (by kernel_rfl) (by kernel_rfl) (fun _ _ _ h => h) (Or.inl ⟨by rfl, ?_⟩) (by assumption) ?_
         rotate_left
         ·(intro w hSw; (try dsimp only at hSw); go_simp); (try with_reducible rfl)
         try simp only [Act.put, zS]
         refine wpAnyH_take (i := 7) (oi := ⟨some 119, .move (.tmp 17), 3, "law.go:487", #[⟨3, .guard⟩], some (3, true)⟩) (v := ?_) rfl (by kernel_rfl) (by kernel_rfl) (by kernel_rfl) (fun _ _ _ h => h) (Or.inl ⟨by rfl, ?_⟩) (by assumption) ?_
         rotate_left
         ·(intro w hSw; (try dsimp only at hSw); go_simp); (try with_reducible rfl)
         try simp only [Act.put, zS]
         refine wpAnyH_take (i := 8) (oi := ⟨some 120, .indexAddr 23 (.tmp 9) (.tmp 119), 0, "law.go:487", #[⟨7, .data⟩, ⟨3, .guard⟩], some (3, true)⟩) (v := ?_) rfl (by kernel_rfl) (by kernel_rfl) (by kernel_rfl) (fun _ _ _ h => h) (Or.inl ⟨by rfl, ?_⟩) (by assumption) ?_
         rotate_left
         ·(intro w hSw; (try dsimp only at hSw); go_simp); (try with_reducible rfl)
         try simp only [Act.put, zS]
         refine wpAnyH_take (i := 9) (oi := ⟨some 121, .load 3 (.tmp 120), 3, "law.go:487", #[⟨8, .data⟩, ⟨3, .guard⟩], some (3, true)⟩) (v := ?_) rfl (by kernel_rfl) (by kernel_rfl) (by kernel_rfl) (fun _ _ _ h => h) (Or.inl ⟨by rfl, ?_⟩) (by assumption) ?_
         rotate_left
         ·(intro w hSw; (try dsimp only at hSw); go_simp); (try with_reducible rfl)
         try simp only [Act.put, zS]
         refine wpAnyH_take (i := 10) (oi := ⟨some 122, .binOp .neq 3 (.tmp 118) (.tmp 121) 3, 4, "law.go:487", #[⟨6, .data⟩, ⟨9, .data⟩, ⟨3, .guard⟩], some (3, true)⟩) (v := ?_) rfl (by kernel_rfl) (by kernel_rfl) (by kernel_rfl) (fun _ _ _ h => h) (Or.inl ⟨by rfl, ?_⟩) (by assumption) ?_
         rotate_left
         ·(intro w hSw; (try dsimp only at hSw); go_simp); (try with_reducible rfl)
         try simp only [Act.put, zS]
         refine wpAnyH_take (i := 11) (oi := ⟨some 123, .pick (.tmp 115) (.tmp 122) (.const (.bool false)), 4, "law.go:487", #[⟨3, .data⟩, ⟨10, .data⟩], none⟩) (v := ?_) rfl (by kernel_rfl) (by kernel_rfl) (by kernel_rfl) (fun _ _ _ h => h) (Or.inl ⟨by rfl, ?_⟩) (by assumption) ?_
         rotate_left
         ·(intro w hSw; (try dsimp only at hSw); go_simp); (try with_reducible rfl)
         try simp only [Act.put, zS]
         refine wpAnyH_take (i := 12) (oi := ⟨some 124, .move (.tmp 123), 4, "law.go:487", #[⟨11, .data⟩, ⟨3, .chain⟩], none⟩) (v := ?_) rfl (by kernel_rfl) (by kernel_rfl) (by kernel_rfl) (fun _ _ _ h => h) (Or.inl ⟨by rfl, ?_⟩) (by assumption) ?_
         rotate_left
         ·(intro w hSw; (try dsimp only at hSw); go_simp); (try with_reducible rfl)
         try simp only [Act.put, zS]
         refine wpAnyH_take (i := 13) (oi := ⟨some 125, .move (.tmp 17), 3, "law.go:487", #[⟨12, .guard⟩], some (12, false)⟩) (v := ?_) rfl (by kernel_rfl) (by kernel_rfl) (by kernel_rfl) (fun _ _ _ h => h) (Or.inl ⟨by rfl, ?_⟩) (by assumption) ?_
         rotate_left
         ·(intro w hSw; (try dsimp only at hSw); go_simp); (try with_reducible rfl)
         try simp only [Act.put, zS]
         refine wpAnyH_take (i := 14) (oi := ⟨some 126, .indexAddr 23 (.tmp 9) (.tmp 125), 0, "law.go:487", #[⟨13, .data⟩, ⟨12, .guard⟩], some (12, false)⟩) (v := ?_) rfl (by kernel_rfl) (by kernel_rfl) (by kernel_rfl) (fun _ _ _ h => h) (Or.inl ⟨by rfl, ?_⟩) (by assumption) ?_
         rotate_left
         ·(intro w hSw; (try dsimp only at hSw); go_simp); (try with_reducible rfl)
         try simp only [Act.put, zS]
         refine wpAnyH_take (i := 15) (oi := ⟨some 127, .load 3 (.tmp 126), 3, "law.go:487", #[⟨14, .data⟩, ⟨12, .guard⟩], some (12, false)⟩) (v := ?_) rfl (by kernel_rfl) (by kernel_rfl) (by kernel_rfl) (fun _ _ _ h => h) (Or.inl ⟨by rfl, ?_⟩) (by assumption) ?_
         rotate_left
         ·(intro w hSw; (try dsimp only at hSw); go_simp); (try with_reducible rfl)
         try simp only [Act.put, zS]
         refine wpAnyH_take (i := 16) (oi := ⟨some 128, .binOp .lss 3 (.tmp 127) (.const (.int .i64 0)) 3, 4, "law.go:487", #[⟨15, .data⟩, ⟨12, .guard⟩], some (12, false)⟩) (v := ?_) rfl (by kernel_rfl) (by kernel_rfl) (by kernel_rfl) (fun _ _ _ h => h) (Or.inl ⟨by rfl, ?_⟩) (by assumption) ?_
         rotate_left
         ·(intro w hSw; (try dsimp only at hSw); go_simp); (try with_reducible rfl)
         try simp only [Act.put, zS]
         refine wpAnyH_take (i := 17) (oi := ⟨some 129, .pick (.tmp 124) (.const (.bool true)) (.tmp 128), 4, "law.go:487", #[⟨12, .data⟩, ⟨16, .data⟩], none⟩) (v := ?_) rfl (by kernel_rfl) (by kernel_rfl) (by kernel_rfl) (fun _ _ _ h => h) (Or.inl ⟨by rfl, ?_⟩) (by assumption) ?_
         rotate_left
         ·(intro w hSw; (try dsimp only at hSw); go_simp); (try with_reducible rfl)
         try simp only [Act.put, zS]
         refine wpAnyH_take (i := 18) (oi := ⟨some 130, .move (.tmp 129), 4, "law.go:487", #[⟨17, .data⟩, ⟨12, .chain⟩], none⟩) (v := ?_) rfl (by kernel_rfl) (by kernel_rfl) (by kernel_rfl) (fun _ _ _ h => h) (Or.inl ⟨by rfl, ?_⟩) (by assumption) ?_
         rotate_left
         ·(intro w hSw; (try dsimp only at hSw); go_simp); (try with_reducible rfl)
         try simp only [Act.put, zS]
         refine wpAnyH_take (i := 19) (oi := ⟨some 131, .move (.tmp 17), 3, "law.go:487", #[⟨18, .guard⟩], some (18, false)⟩) (v := ?_) rfl (by kernel_rfl) (by kernel_rfl) (by kernel_rfl) (fun _ _ _ h => h) (Or.inl ⟨by rfl, ?_⟩) (by assumption) ?_
         rotate_left
         ·(intro w hSw; (try dsimp only at hSw); go_simp); (try with_reducible rfl)
         try simp only [Act.put, zS]
         refine wpAnyH_take (i := 20) (oi := ⟨some 132, .indexAddr 23 (.tmp 9) (.tmp 131), 0, "law.go:487", #[⟨19, .data⟩, ⟨18, .guard⟩], some (18, false)⟩) (v := ?_) rfl (by kernel_rfl) (by kernel_rfl) (by kernel_rfl) (fun _ _ _ h => h) (Or.inl ⟨by rfl, ?_⟩) (by assumption) ?_
         rotate_left
         ·(intro w hSw; (try dsimp only at hSw); go_simp); (try with_reducible rfl)
         try simp only [Act.put, zS]
         refine wpAnyH_take (i := 21) (oi := ⟨some 133, .load 3 (.tmp 132), 3, "law.go:487", #[⟨20, .data⟩, ⟨18, .guard⟩], some (18, false)⟩) (v := ?_) rfl (by kernel_rfl) (by kernel_rfl) (by kernel_rfl) (fun _ _ _ h => h) (Or.inl ⟨by rfl, ?_⟩) (by assumption) ?_
         rotate_left
         ·(intro w hSw; (try dsimp only at hSw); go_simp); (try with_reducible rfl)
         try simp only [Act.put, zS]
         refine wpAnyH_take (i := 22) (oi := ⟨some 134, .move (.tmp 0), 22, "law.go:487", #[⟨18, .guard⟩], some (18, false)⟩) (v := ?_) rfl (by kernel_rfl) (by kernel_rfl) (by kernel_rfl) (fun _ _ _ h => h) (Or.inl ⟨by rfl, ?_⟩) (by assumption) ?_
         rotate_left
         ·(intro w hSw; (try dsimp only at hSw); go_simp); (try with_reducible rfl)
         try simp only [Act.put, zS]
         refine wpAnyH_take (i := 23) (oi := ⟨some 135, .call ⟨.builtin .len, #[.tmp 134], #[22]⟩, 3, "law.go:487", #[⟨22, .data⟩, ⟨18, .guard⟩], some (18, false)⟩) (v := ?_) rfl (by kernel_rfl) (by kernel_rfl) (by kernel_rfl) (fun _ _ _ h => h) (Or.inl ⟨by rfl, ?_⟩) (by assumption) ?_
         rotate_left
         ·(intro w hSw; (try dsimp only at hSw); go_simp); (try with_reducible rfl)
         try simp only [Act.put, zS]
         refine wpAnyH_take (i := 24) (oi := ⟨some 136, .call ⟨.builtin .max, #[.const (.int .i64 1), .tmp 135], #[3, 3]⟩, 3, "law.go:487", #[⟨23, .data⟩, ⟨18, .guard⟩], some (18, false)⟩) (v := ?_) rfl (by kernel_rfl) (by kernel_rfl) (by kernel_rfl) (fun _ _ _ h => h) (Or.inl ⟨by rfl, ?_⟩) (by assumption) ?_
         rotate_left
         ·(intro w hSw; (try dsimp only at hSw); go_simp); (try with_reducible rfl)
         try simp only [Act.put, zS]
         refine wpAnyH_take (i := 25) (oi := ⟨some 137, .binOp .geq 3 (.tmp 133) (.tmp 136) 3, 4, "law.go:487", #[⟨21, .data⟩, ⟨24, .data⟩, ⟨18, .guard⟩], some (18, false)⟩) (v := ?_) rfl (by kernel_rfl) (by kernel_rfl) (by kernel_rfl) (fun _ _ _ h => h) (Or.inl ⟨by rfl, ?_⟩) (by assumption) ?_
         rotate_left
         ·(intro w hSw; (try dsimp only at hSw); go_simp); (try with_reducible rfl)
         try simp only [Act.put, zS]
         refine wpAnyH_take (i := 26) (oi := ⟨some 138, .pick (.tmp 130) (.const (.bool true)) (.tmp 137), 4, "law.go:487", #[⟨18, .data⟩, ⟨25, .data⟩], none⟩) (v := ?_) rfl (by kernel_rfl) (by kernel_rfl) (by kernel_rfl) (fun _ _ _ h => h) (Or.inl ⟨by rfl, ?_⟩) (by assumption) ?_
         rotate_left
         ·(intro w hSw; (try dsimp only at hSw); go_simp); (try with_reducible rfl)
         try simp only [Act.put, zS]
         refine wpAnyH_take (i := 27) (oi := ⟨some 139, .move (.tmp 138), 4, "law.go:487", #[⟨26, .data⟩, ⟨18, .chain⟩], none⟩) (v := ?_) rfl (by kernel_rfl) (by kernel_rfl) (by kernel_rfl) (fun _ _ _ h => h) (Or.inl ⟨by rfl, ?_⟩) (by assumption) ?_
         rotate_left
         ·(intro w hSw; (try dsimp only at hSw); go_simp); (try with_reducible rfl)
         try simp only [Act.put, zS]
         refine wpAnyH_take (i := 28) (oi := ⟨some 140, .move (.tmp 16), 29, "law.go:487", #[⟨27, .guard⟩], some (27, false)⟩) (v := ?_) rfl (by kernel_rfl) (by kernel_rfl) (by kernel_rfl) (fun _ _ _ h => h) (Or.inl ⟨by rfl, ?_⟩) (by assumption) ?_
         rotate_left
         ·(intro w hSw; (try dsimp only at hSw); go_simp); (try with_reducible rfl)
         try simp only [Act.put, zS]
         refine wpAnyH_take (i := 29) (oi := ⟨some 141, .binOp .eql 29 (.tmp 140) (.const (.int .i64 0)) 29, 4, "law.go:487", #[⟨28, .data⟩, ⟨27, .guard⟩], some (27, false)⟩) (v := ?_) rfl (by kernel_rfl) (by kernel_rfl) (by kernel_rfl) (fun _ _ _ h => h) (Or.inl ⟨by rfl, ?_⟩) (by assumption) ?_
         rotate_left
         ·(intro w hSw; (try dsimp only at hSw); go_simp); (try with_reducible rfl)
         try simp only [Act.put, zS]
         refine wpAnyH_take (i := 30) (oi := ⟨some 142, .move (.tmp 141), 4, "law.go:487", #[⟨29, .data⟩, ⟨27, .chain⟩, ⟨27, .guard⟩], some (27, false)⟩) (v := ?_) rfl (by kernel_rfl) (by kernel_rfl) (by kernel_rfl) (fun _ _ _ h => h) (Or.inl ⟨by rfl, ?_⟩) (by assumption) ?_
         rotate_left
         ·(intro w hSw; (try dsimp only at hSw); go_simp); (try with_reducible rfl)
         try simp only [Act.put, zS]
         refine wpAnyH_take (i := 31) (oi := ⟨some 143, .move (.tmp 17), 3, "law.go:487", #[⟨30, .guard⟩], some (30, true)⟩) (v := ?_) rfl (by kernel_rfl) (by kernel_rfl) (by kernel_rfl) (fun _ _ _ h => h) (Or.inl ⟨by rfl, ?_⟩) (by assumption) ?_
         rotate_left
         ·(intro w hSw; (try dsimp only at hSw); go_simp); (try with_reducible rfl)
         try simp only [Act.put, zS]
         refine wpAnyH_take (i := 32) (oi := ⟨some 144, .indexAddr 38 (.tmp 15) (.tmp 143), 0, "law.go:487", #[⟨31, .data⟩, ⟨30, .guard⟩], some (30, true)⟩) (v := ?_) rfl (by kernel_rfl) (by kernel_rfl) (by kernel_rfl) (fun _ _ _ h => h) (Or.inl ⟨by rfl, ?_⟩) (by assumption) ?_
         rotate_left
         ·(intro w hSw; (try dsimp only at hSw); go_simp); (try with_reducible rfl)
         try simp only [Act.put, zS]
         refine wpAnyH_take (i := 33) (oi := ⟨some 145, .load 37 (.tmp 144), 37, "law.go:487", #[⟨32, .data⟩, ⟨30, .guard⟩], some (30, true)⟩) (v := ?_) rfl (by kernel_rfl) (by kernel_rfl) (by kernel_rfl) (fun _ _ _ h => h) (Or.inl ⟨by rfl, ?_⟩) (by assumption) ?_
         rotate_left
         ·(intro w hSw; (try dsimp only at hSw); go_simp); (try with_reducible rfl)
         try simp only [Act.put, zS]
         refine wpAnyH_take (i := 34) (oi := ⟨some 146, .binOp .mul 37 (.const (.float .f32 1098907648)) (.tmp 145) 37, 37, "law.go:487", #[⟨33, .data⟩, ⟨30, .guard⟩], some (30, true)⟩) (v := ?_) rfl (by kernel_rfl) (by kernel_rfl) (by kernel_rfl) (fun _ _ _ h => h) (Or.inl ⟨by rfl, ?_⟩) (by assumption) ?_
         rotate_left
         ·(intro w hSw; (try dsimp only at hSw); go_simp); (try with_reducible rfl)
         try simp only [Act.put, zS]
         refine wpAnyH_take (i := 35) (oi := ⟨some 147, .move (.tmp 17), 3, "law.go:487", #[⟨30, .guard⟩], some (30, true)⟩) (v := ?_) rfl (by kernel_rfl) (by kernel_rfl) (by kernel_rfl) (fun _ _ _ h => h) (Or.inl ⟨by rfl, ?_⟩) (by assumption) ?_
         rotate_left
         ·(intro w hSw; (try dsimp only at hSw); go_simp); (try with_reducible rfl)
         try simp only [Act.put, zS]
         refine wpAnyH_take (i := 36) (oi := ⟨some 148, .indexAddr 23 (.tmp 4) (.tmp 147), 0, "law.go:487", #[⟨35, .data⟩, ⟨30, .guard⟩], some (30, true)⟩) (v := ?_) rfl (by kernel_rfl) (by kernel_rfl) (by kernel_rfl) (fun _ _ _ h => h) (Or.inl ⟨by rfl, ?_⟩) (by assumption) ?_
         rotate_left
         ·(intro w hSw; (try dsimp only at hSw); go_simp); (try with_reducible rfl)
         try simp only [Act.put, zS]
         refine wpAnyH_take (i := 37) (oi := ⟨some 149, .load 3 (.tmp 148), 3, "law.go:487", #[⟨36, .data⟩, ⟨30, .guard⟩], some (30, true)⟩) (v := ?_) rfl (by kernel_rfl) (by kernel_rfl) (by kernel_rfl) (fun _ _ _ h => h) (Or.inl ⟨by rfl, ?_⟩) (by assumption) ?_
         rotate_left
         ·(intro w hSw; (try dsimp only at hSw); go_simp); (try with_reducible rfl)
         try simp only [Act.put, zS]
         refine wpAnyH_take (i := 38) (oi := ⟨some 150, .move (.tmp 17), 3, "law.go:487", #[⟨30, .guard⟩], some (30, true)⟩) (v := ?_) rfl (by kernel_rfl) (by kernel_rfl) (by kernel_rfl) (fun _ _ _ h => h) (Or.inl ⟨by rfl, ?_⟩) (by assumption) ?_
         rotate_left
         ·(intro w hSw; (try dsimp only at hSw); go_simp); (try with_reducible rfl)
         try simp only [Act.put, zS]
         refine wpAnyH_take (i := 39) (oi := ⟨some 151, .indexAddr 23 (.tmp 9) (.tmp 150), 0, "law.go:487", #[⟨38, .data⟩, ⟨30, .guard⟩], some (30, true)⟩) (v := ?_) rfl (by kernel_rfl) (by kernel_rfl) (by kernel_rfl) (fun _ _ _ h => h) (Or.inl ⟨by rfl, ?_⟩) (by assumption) ?_
         rotate_left
         ·(intro w hSw; (try dsimp only at hSw); go_simp); (try with_reducible rfl)
         try simp only [Act.put, zS]
         refine wpAnyH_take (i := 40) (oi := ⟨some 152, .load 3 (.tmp 151), 3, "law.go:487", #[⟨39, .data⟩, ⟨30, .guard⟩], some (30, true)⟩) (v := ?_) rfl (by kernel_rfl) (by kernel_rfl) (by kernel_rfl) (fun _ _ _ h => h) (Or.inl ⟨by rfl, ?_⟩) (by assumption) ?_
         rotate_left
         ·(intro w hSw; (try dsimp only at hSw); go_simp); (try with_reducible rfl)
         try simp only [Act.put, zS]
         refine wpAnyH_take (i := 41) (oi := ⟨some 153, .binOp .mul 3 (.tmp 149) (.tmp 152) 3, 3, "law.go:487", #[⟨37, .data⟩, ⟨40, .data⟩, ⟨30, .guard⟩], some (30, true)⟩) (v := ?_) rfl (by kernel_rfl) (by kernel_rfl) (by kernel_rfl) (fun _ _ _ h => h) (Or.inl ⟨by rfl, ?_⟩) (by assumption) ?_
         rotate_left
         ·(intro w hSw; (try dsimp only at hSw); go_simp); (try with_reducible rfl)
         try simp only [Act.put, zS]
         refine wpAnyH_take (i := 42) (oi := ⟨some 154, .convert 3 37 (.tmp 153), 37, "law.go:487", #[⟨41, .data⟩, ⟨30, .guard⟩], some (30, true)⟩) (v := ?_) rfl (by kernel_rfl) (by kernel_rfl) (by kernel_rfl) (fun _ _ _ h => h) (Or.inl ⟨by rfl, ?_⟩) (by assumption) ?_
         rotate_left
         ·(intro w hSw; (try dsimp only at hSw); go_simp); (try with_reducible rfl)
         try simp only [Act.put, zS]
         refine wpAnyH_take (i := 43) (oi := ⟨some 155, .binOp .neq 37 (.tmp 146) (.tmp 154) 37, 4, "law.go:487", #[⟨34, .data⟩, ⟨42, .data⟩, ⟨30, .guard⟩], some (30, true)⟩) (v := ?_) rfl (by kernel_rfl) (by kernel_rfl) (by kernel_rfl) (fun _ _ _ h => h) (Or.inl ⟨by rfl, ?_⟩) (by assumption) ?_
         rotate_left
         ·(intro w hSw; (try dsimp only at hSw); go_simp); (try with_reducible rfl)
         try simp only [Act.put, zS]
         refine wpAnyH_take (i := 44) (oi := ⟨some 156, .pick (.tmp 142) (.tmp 155) (.const (.bool false)), 4, "law.go:487", #[⟨30, .data⟩, ⟨43, .data⟩, ⟨27, .guard⟩], some (27, false)⟩) (v := ?_) rfl (by kernel_rfl) (by kernel_rfl) (by kernel_rfl) (fun _ _ _ h => h) (Or.inl ⟨by rfl, ?_⟩) (by assumption) ?_
         rotate_left
         ·(intro w hSw; (try dsimp only at hSw); go_simp); (try with_reducible rfl)
         try simp only [Act.put, zS]
         refine wpAnyH_take (i := 45) (oi := ⟨some 157, .pick (.tmp 139) (.const (.bool true)) (.tmp 156), 4, "law.go:487", #[⟨27, .data⟩, ⟨44, .data⟩], none⟩) (v := ?_) rfl (by kernel_rfl) (by kernel_rfl) (by kernel_rfl) (fun _ _ _ h => h) (Or.inl ⟨by rfl, ?_⟩) (by assumption) ?_
         rotate_left
         ·(intro w hSw; (try dsimp only at hSw); go_simp); (try with_reducible rfl)
         try simp only [Act.put, zS]
         refine wpAnyH_done (by kernel_rfl) ?_ _
         clear hHeld0
         have hb2 := hbzd
         obtain ⟨W16, hW16⟩ : ∃ v, v = wzd := ⟨_, rfl⟩
         rw [← hW16] at hb2 ⊢
         clear hW16
         have hbel2 := bthen hbel hb2
         clear c9 c13 c15 c4 mm oo k1 qm mx1 mx2 d1 d2 d3 hb2 z1
         go_wp2
         go_roundw
         case rel => exact ⟨k + 1, by omega, by go_num, hbel2⟩
         case measure => simp [intOf]; omega
       ·have hdk : ¬ (k : Int) < 12 := by omega
        obtain ⟨hw1, hw2, hw3⟩ := HWO.out
        have cF := BlkF.cell (Blk.carry H15.out hbel) (j := f) (by rw [HWLL.out]; exact hf9)
        obtain ⟨QF, hQF⟩ : ∃ q, q = wl[f]?.getD 0 := ⟨_, rfl⟩
        rw [← hQF] at hw1 hw2 hw3 cF
        have TO := Lib.hid (fun W => Worn_any wl QF W HWLL.out)
        obtain ⟨WR, hWR⟩ : ∃ q, q = worR wl QF := ⟨_, rfl⟩
        rw [← hWR] at hw2 hw3 TO
        rw [hw1] at TO
        have HW2 := Lib.hid hw2
        have TH := Lib.hid (fun u (n : Int) W (h : Ints W u WR) => HasInt_any u WR n W (by omega) h)
        have i15 := Blk.carry H15.out hbel
        have dfi : (f : Int) < 12 := by omega
        have df0 : (0 : Int) ≤ (f : Int) := by omega
        have HQF := Lib.hid hQF
        clear hQF hWR hw1 hw2 hw3 HWO
        go_upto_region 19 with fail
        refine wp_region_held_drew (S := (fun W => BlkF W G15 38 wl ∧ W.cell? ⟨G15, f, none⟩ = some (.float .f32 QF))) (by kernel_rfl) ⟨Blk.carry i15 (Below.refl _ _).drew, cellb cF (Below.refl _ _).drew⟩ (fun hHeld0 => ?_)
        obtain ⟨wzd, hwz⟩ : ∃ v, v = wr.drew := ⟨_, rfl⟩
        rw [← hwz] at hHeld0 ⊢
        have hbzd : Below wr.heap.size wr wzd := by rw [hwz]; exact (Below.refl _ _).drew
        have hlzd : Below wr.heap.size wr wzd := by rw [hwz]; exact (Below.refl _ _).drew
        clear hwz hlzd
        refine wpAnyH_take (i := 0) (oi := ⟨some 162, .load 38 (.tmp 15), 38, "law.go:492", #[], none⟩) (v := ?_) rfl (by kernel_rfl) (by kernel_rfl) (by kernel_rfl) (fun _ _ _ h => h) (Or.inl ⟨by rfl, ?_⟩) (by assumption) ?_
        rotate_left
        ·(intro w hSw; (try dsimp only at hSw); refine Eq.trans (exec_load rfl (loadF12 HWLL.out hSw.1)) ?_); (try with_reducible rfl)
        try simp only [Act.put, zS]
        refine wpAnyH_take (i := 1) (oi := ⟨some 163, .move (.tmp 7), 3, "law.go:492", #[], none⟩) (v := ?_) rfl (by kernel_rfl) (by kernel_rfl) (by kernel_rfl) (fun _ _ _ h => h) (Or.inl ⟨by rfl, ?_⟩) (by assumption) ?_
        rotate_left
        ·(intro w hSw; (try dsimp only at hSw); go_simp); (try with_reducible rfl)
        try simp only [Act.put, zS]
        refine wpAnyH_take (i := 2) (oi := ⟨some 164, .indexAddr 38 (.tmp 15) (.tmp 163), 0, "law.go:492", #[⟨1, .data⟩], none⟩) (v := ?_) rfl (by kernel_rfl) (by kernel_rfl) (by kernel_rfl) (fun _ _ _ h => h) (Or.inl ⟨by rfl, ?_⟩) (by assumption) ?_
        rotate_left
        ·(intro w hSw; (try dsimp only at hSw); go_simp); (try with_reducible rfl)
        try simp only [Act.put, zS]
        refine wpAnyH_take (i := 3) (oi := ⟨some 165, .load 37 (.tmp 164), 37, "law.go:492", #[⟨2, .data⟩], none⟩) (v := ?_) rfl (by kernel_rfl) (by kernel_rfl) (by kernel_rfl) (fun _ _ _ h => h) (Or.inl ⟨by rfl, ?_⟩) (by assumption) ?_
        rotate_left
        ·(intro w hSw; (try dsimp only at hSw); obtain ⟨-, hSw⟩ := hSw; go_simp); (try with_reducible rfl)
        try simp only [Act.put, zS]
        refine wpAnyH_ready (rs := [4]) (by kernel_rfl) (by simp) ?_
        refine (AllReadyH.cons (o := ⟨some 166, .call ⟨.value (.func 15), #[.tmp 162, .tmp 165], #[38, 37]⟩, 42, "law.go:492", #[⟨0, .data⟩, ⟨3, .data⟩], none⟩) rfl (fun K hK => ?_) AllReadyH.nil)
        go_simp
        refine (TO.out wzd).mono ?_
        rintro e wz4 ⟨⟨u18, rfl, h18⟩, hl⟩
        (try go_wp2_with fail)
        have hbz4 := bthen hbzd hl
        clear hl
        refine hK.out _ _ ⟨Blk.carry i15 hbz4, cellb cF hbz4⟩ (fun hHeld1 => ?_)
        clear hK K hHeld0
        try simp only [Act.put, zS]
        refine wpAnyH_take (i := 5) (oi := ⟨some 161, .move (.tmp 166), 42, "law.go:492", #[⟨4, .data⟩], none⟩) (v := ?_) rfl (by kernel_rfl) (by kernel_rfl) (by kernel_rfl) (fun _ _ _ h => h) (Or.inl ⟨by rfl, ?_⟩) (by assumption) ?_
        rotate_left
        ·(intro w hSw; (try dsimp only at hSw); go_simp); (try with_reducible rfl)
        try simp only [Act.put, zS]
        refine wpAnyH_take (i := 6) (oi := ⟨some 167, .extract (.tmp 161) 0, 41, "law.go:492", #[⟨5, .data⟩], none⟩) (v := ?_) rfl (by kernel_rfl) (by kernel_rfl) (by kernel_rfl) (fun _ _ _ h => h) (Or.inl ⟨by rfl, ?_⟩) (by assumption) ?_
        rotate_left
        ·(intro w hSw; (try dsimp only at hSw); go_simp); (try with_reducible rfl)
        try simp only [Act.put, zS]
        refine wpAnyH_take (i := 7) (oi := ⟨some 168, .extract (.tmp 161) 1, 29, "law.go:492", #[⟨5, .data⟩, { on := 8, ground := Ground.gcOnly Departure.lateStores }], none⟩) (v := ?_) rfl (by kernel_rfl) (by kernel_rfl) (by kernel_rfl) (fun _ _ _ h => h) (Or.inl ⟨by rfl, ?_⟩) (by assumption) ?_
        rotate_left
        ·(intro w hSw; (try dsimp only at hSw); go_simp); (try with_reducible rfl)
        try simp only [Act.put, zS]
        refine wpAnyH_take (i := 8) (oi := ⟨some 18, .assign (.tmp 167), 41, "law.go:492", #[⟨6, .data⟩, ⟨4, .chain⟩, ⟨0, .phase⟩, ⟨1, .phase⟩, ⟨2, .phase⟩, ⟨3, .phase⟩, ⟨4, .phase⟩, ⟨5, .phase⟩, ⟨6, .phase⟩, { on := 7, ground := Ground.textOnly Departure.lateStores }], none⟩) (v := ?_) rfl (by kernel_rfl) (by kernel_rfl) (by kernel_rfl) (fun _ _ _ h => h) (Or.inl ⟨by rfl, ?_⟩) (by assumption) ?_
        rotate_left
        ·(intro w hSw; (try dsimp only at hSw); go_simp); (try with_reducible rfl)
        try simp only [Act.put, zS]
        refine wpAnyH_take (i := 9) (oi := ⟨some 19, .assign (.tmp 168), 29, "law.go:492", #[⟨7, .data⟩, ⟨8, .chain⟩, ⟨0, .phase⟩, ⟨1, .phase⟩, ⟨2, .phase⟩, ⟨3, .phase⟩, ⟨4, .phase⟩, ⟨5, .phase⟩, ⟨6, .phase⟩, ⟨7, .phase⟩, ⟨8, .phase⟩], none⟩) (v := ?_) rfl (by kernel_rfl) (by kernel_rfl) (by kernel_rfl) (fun _ _ _ h => h) (Or.inl ⟨by rfl, ?_⟩) (by assumption) ?_
        rotate_left
        ·(intro w hSw; (try dsimp only at hSw); go_simp); (try with_reducible rfl)
        try simp only [Act.put, zS]
        refine wpAnyH_done (by kernel_rfl) ?_ _
        clear hHeld1
        have hb2 := hbz4
        obtain ⟨W20, hW20⟩ : ∃ v, v = wz4 := ⟨_, rfl⟩
        rw [← hW20] at hb2 h18 ⊢
        clear hW20
        have HB20 := Lib.hid (bthen hbel hb2)
        have H18 := Lib.hid h18
        clear h18 hb2 cF i15 TO hbel
        go_wp2_with fail
        go_loopw [171] (fun i wx => ∃ k : Nat, k ≤ 12 ∧ i = .int .i64 k ∧ Below W20.heap.size W20 wx) (fun i _ => 12 - (intOf i).toNat)
        case atStart => exact ⟨0, by omega, rfl, Below.refl _ _⟩
        case round =>
         obtain ⟨j, hj, rfl, hbx⟩ := hrel
         by_cases hltj : j < 12
         ·have hdj : (j : Int) < 12 := by omega
          have hdj0 : (0 : Int) ≤ (j : Int) := by omega
          have hg := HW2.out j hltj
          have hbq := bthen HB20.out hbx
          have cJ := BlkF.cell (Blk.carry H15.out hbq) (j := j) (by rw [HWLL.out]; exact hltj)
          have cF := BlkF.cell (Blk.carry H15.out hbq) (j := f) (by rw [HWLL.out]; exact hf9)
          rw [← HQF.out] at cF
          obtain ⟨Y, hY⟩ : ∃ x, x = wl[j]?.getD 0 := ⟨_, rfl⟩
          rw [← hY] at hg cJ
          obtain ⟨b, hb9⟩ : ∃ x, x = gtF Y QF := ⟨_, rfl⟩
          rw [← hb9] at hg
          have hgo : (FloatKind.f32.format.order Y QF == some .gt) = b := hb9.symm
          have TH2 := Lib.hid (fun W h => TH.out u18 (j : Int) W h)
          rw [hg] at TH2
          have h18 := H18.out.carry hbx
          clear hY hb9 hg hbq
          go_upto_region 25 with fail
          refine wp_region_held_drew (S := (fun W => W.cell? ⟨G15, j, none⟩ = some (.float .f32 Y) ∧ W.cell? ⟨G15, f, none⟩ = some (.float .f32 QF))) (by kernel_rfl) ⟨cellb cJ (Below.refl _ _).drew, cellb cF (Below.refl _ _).drew⟩ (fun hHeld0 => ?_)
          obtain ⟨wzd, hwz⟩ : ∃ v, v = wr.drew := ⟨_, rfl⟩
          rw [← hwz] at hHeld0 ⊢
          have hbzd : Below wr.heap.size wr wzd := by rw [hwz]; exact (Below.refl _ _).drew
          have hlzd : Below wr.heap.size wr wzd := by rw [hwz]; exact (Below.refl _ _).drew
          have h18 := h18.carry hlzd
          clear hwz hlzd
          refine wpAnyH_take (i := 0) (oi := ⟨some 174, .move (.tmp 18), 41, "law.go:497", #[], none⟩) (v := ?_) rfl (by kernel_rfl) (by kernel_rfl) (by kernel_rfl) (fun _ _ _ h => h) (Or.inl ⟨by rfl, ?_⟩) (by assumption) ?_
          rotate_left
          ·(intro w hSw; (try dsimp only at hSw); go_simp); (try with_reducible rfl)
          try simp only [Act.put, zS]
          refine wpAnyH_take (i := 1) (oi := ⟨some 175, .move (.tmp 20), 3, "law.go:497", #[], none⟩) (v := ?_) rfl (by kernel_rfl) (by kernel_rfl) (by kernel_rfl) (fun _ _ _ h => h) (Or.inl ⟨by rfl, ?_⟩) (by assumption) ?_
          rotate_left
          ·(intro w hSw; (try dsimp only at hSw); go_simp); (try with_reducible rfl)
          try simp only [Act.put, zS]
          refine wpAnyH_take (i := 3) (oi := ⟨some 177, .move (.tmp 20), 3, "law.go:497", #[], none⟩) (v := ?_) rfl (by kernel_rfl) (by kernel_rfl) (by kernel_rfl) (fun _ _ _ h => h) (Or.inl ⟨by rfl, ?_⟩) (by assumption) ?_
          rotate_left
          ·(intro w hSw; (try dsimp only at hSw); go_simp); (try with_reducible rfl)
          try simp only [Act.put, zS]
          refine wpAnyH_take (i := 4) (oi := ⟨some 178, .indexAddr 38 (.tmp 15) (.tmp 177), 0, "law.go:497", #[⟨3, .data⟩], none⟩) (v := ?_) rfl (by kernel_rfl) (by kernel_rfl) (by kernel_rfl) (fun _ _ _ h => h) (Or.inl ⟨by rfl, ?_⟩) (by assumption) ?_
          rotate_left
          ·(intro w hSw; (try dsimp only at hSw); go_simp); (try with_reducible rfl)
          try simp only [Act.put, zS]
          refine wpAnyH_take (i := 5) (oi := ⟨some 179, .load 37 (.tmp 178), 37, "law.go:497", #[⟨4, .data⟩], none⟩) (v := ?_) rfl (by kernel_rfl) (by kernel_rfl) (by kernel_rfl) (fun _ _ _ h => h) (Or.inl ⟨by rfl, ?_⟩) (by assumption) ?_
          rotate_left
          ·(intro w hSw; (try dsimp only at hSw); go_simp); (try with_reducible rfl)
          try simp only [Act.put, zS]
          refine wpAnyH_take (i := 6) (oi := ⟨some 180, .move (.tmp 7), 3, "law.go:497", #[], none⟩) (v := ?_) rfl (by kernel_rfl) (by kernel_rfl) (by kernel_rfl) (fun _ _ _ h => h) (Or.inl ⟨by rfl, ?_⟩) (by assumption) ?_
          rotate_left
          ·(intro w hSw; (try dsimp only at hSw); go_simp); (try with_reducible rfl)
          try simp only [Act.put, zS]
          refine wpAnyH_take (i := 7) (oi := ⟨some 181, .indexAddr 38 (.tmp 15) (.tmp 180), 0, "law.go:497", #[⟨6, .data⟩], none⟩) (v := ?_) rfl (by kernel_rfl) (by kernel_rfl) (by kernel_rfl) (fun _ _ _ h => h) (Or.inl ⟨by rfl, ?_⟩) (by assumption) ?_
          rotate_left
          ·(intro w hSw; (try dsimp only at hSw); go_simp); (try with_reducible rfl)
          try simp only [Act.put, zS]
          refine wpAnyH_take (i := 8) (oi := ⟨some 182, .load 37 (.tmp 181), 37, "law.go:497", #[⟨7, .data⟩], none⟩) (v := ?_) rfl (by kernel_rfl) (by kernel_rfl) (by kernel_rfl) (fun _ _ _ h => h) (Or.inl ⟨by rfl, ?_⟩) (by assumption) ?_
          rotate_left
          ·(intro w hSw; (try dsimp only at hSw); go_simp); (try with_reducible rfl)
          try simp only [Act.put, zS]
          refine wpAnyH_take (i := 9) (oi := ⟨some 183, .binOp .gtr 37 (.tmp 179) (.tmp 182) 37, 4, "law.go:497", #[⟨5, .data⟩, ⟨8, .data⟩], none⟩) (v := ?_) rfl (by kernel_rfl) (by kernel_rfl) (by kernel_rfl) (fun _ _ _ h => h) (Or.inl ⟨by rfl, ?_⟩) (by assumption) ?_
          rotate_left
          ·(intro w hSw; (try dsimp only at hSw); go_simp); (try with_reducible rfl)
          try simp only [Act.put, zS]
          refine wpAnyH_ready (rs := [2]) (by kernel_rfl) (by simp) ?_
          refine (AllReadyH.cons (o := ⟨some 176, .call ⟨.value (.func 16), #[.tmp 174, .tmp 175], #[41, 3]⟩, 4, "law.go:497", #[⟨0, .data⟩, ⟨1, .data⟩], none⟩) rfl (fun K hK => ?_) AllReadyH.nil)
          go_simp
          refine (TH2.out wzd h18).mono ?_
          rintro e wz2 ⟨rfl, hww⟩
          have hl : Below (World.heap wzd).size wzd wz2 := by rw [hww]; exact Below.refl _ _
          clear hww
          (try go_wp2_with fail)
          have hbz2 := bthen hbzd hl
          have h18 := h18.carry hl
          clear hl
          refine hK.out _ _ ⟨cellb cJ hbz2, cellb cF hbz2⟩ (fun hHeld1 => ?_)
          clear hK K hHeld0
          try simp only [Act.put, zS]
          refine wpAnyH_take (i := 10) (oi := ⟨some 184, .binOp .neq 4 (.tmp 176) (.tmp 183) 4, 4, "law.go:497", #[⟨2, .data⟩, ⟨9, .data⟩], none⟩) (v := ?_) rfl (by kernel_rfl) (by kernel_rfl) (by kernel_rfl) (fun _ _ _ h => h) (Or.inl ⟨by rfl, ?_⟩) (by assumption) ?_
          rotate_left
          ·(intro w hSw; (try dsimp only at hSw); go_simp); (try with_reducible rfl)
          try simp only [Act.put, zS]
          refine wpAnyH_done (by kernel_rfl) ?_ _
          clear hHeld1
          have hb2 := hbz2
          obtain ⟨W21, hW21⟩ : ∃ v, v = wz2 := ⟨_, rfl⟩
          rw [← hW21] at hb2 ⊢
          clear hW21
          have hbx2 := bthen hbx hb2
          clear cJ cF hgo h18 hb2 TH2
          go_wp2
          go_roundw
          case rel => exact ⟨j + 1, by omega, by go_num, hbx2⟩
          case measure => simp [intOf]; omega
         ·have hdj : ¬ (j : Int) < 12 := by omega
          have KB := bthen HB.out (bthen HB20.out hbx)
          have KB2 := bthen HB20.out hbx
          have c52 := (I5.out.carry KB).cell (j := 2) (v := .int .u8 n2) rfl
          have hN9 := HN12.out
          have hc9 := HC12.out
          have u2 : IntKind.i64.wrap n2 = n2 := IntWalk.i64_in _ (by have := HN2.out; omega)
          have hni : (0 : Int) ≤ (N : Int) ∧ (N : Int) ≤ 12 := by omega
          have q1 : IntKind.i64.wrap ((N : Int) + 1) = (N : Int) + 1 := IntWalk.i64_in _ (by omega)
          have y0 : Int.tmod n2 ((N : Int) + 1) = (c : Int) := by rw [HC.out, Int.tmod_eq_emod_of_nonneg HN2.out.1]
          have y1 : n2 % ((N : Int) + 1) = (c : Int) := HC.out.symm
          have hnz : ((N : Int) + 1 == 0) = false := by rw [beq_eq_false_iff_ne]; omega
          have hnz2 : ¬ ((N : Int) + 1 = 0) := by omega
          obtain ⟨CB, hCB⟩ : ∃ b, b = decide (0 < c ∧ c < N) := ⟨_, rfl⟩
          have HCB := Lib.hid hCB
          clear hCB hdk
          go_upto_region 29 with fail
          clear c52 u2 q1 y0 y1 hnz hnz2
          go_cut [200] from 193 to 200 (fun u200 wn => u200 = .bool CB ∧ wn = wr)
          case first =>
           by_cases h0 : 0 < c
           ·have e0 : (0 : Int) < (c : Int) := by omega
            by_cases h1 : c < N
            ·have e1 : (c : Int) < (N : Int) := by omega
             have e9 : CB = true := by rw [HCB.out]; exact decide_eq_true ⟨h0, h1⟩
             go_wp2_with fail
             go_meet
             exact ⟨by rw [e9], rfl⟩
            ·have e1 : ¬ (c : Int) < (N : Int) := by omega
             have e9 : CB = false := by rw [HCB.out]; exact decide_eq_false (by omega)
             go_wp2_with fail
             go_meet
             exact ⟨by rw [e9], rfl⟩
           ·have e0 : ¬ (0 : Int) < (c : Int) := by omega
            have e9 : CB = false := by rw [HCB.out]; exact decide_eq_false (by omega)
            go_wp2_with fail
            go_meet
            exact ⟨by rw [e9], rfl⟩
          case rest =>
           obtain ⟨rfl, rfl⟩ := hcut
           have HKB := Lib.hid KB
           have HKB2 := Lib.hid KB2
           clear KB KB2 hbx
           go_upto_if 200 with fail
           go_cut [22, 23, 24, 25, 26, 27, 28] from 201 to 256 (fun u22 u23 u24 u25 u26 u27 u28 wn => Below wc.heap.size wc wn)
           case first =>
            cases CB with
            | false =>
              go_wp2_with fail
              go_meet
              exact Below.refl _ _
            | true =>
              obtain ⟨h0, h1⟩ := of_decide_eq_true HCB.out.symm
              have hok := HOK.out
              have hcl : c < la.length := by rw [← HN.out]; exact h1
              have HCC := Lib.hid (fun (v : Nat) (hv : v < 12) => HCT.out v hv h0 hcl)
              obtain ⟨d, hd⟩ : ∃ d : Nat, d = c - 1 := ⟨_, rfl⟩
              obtain ⟨e2, he2⟩ : ∃ d : Nat, d = c + 1 := ⟨_, rfl⟩
              have hed : e2 - d = 2 := by omega
              rw [← hd, ← hed] at HCC
              obtain ⟨l1, hl1⟩ : ∃ l, l = la.take c := ⟨_, rfl⟩
              obtain ⟨l2, hl2⟩ : ∃ l, l = la.drop c := ⟨_, rfl⟩
              obtain ⟨l3, hl3⟩ : ∃ l, l = (la.drop d).take (e2 - d) := ⟨_, rfl⟩
              have ok1 : TrOk l1 := by rw [hl1]; exact trOk_take hok c
              have ok2 : TrOk l2 := by rw [hl2]; exact trOk_drop hok c
              have ok3 : TrOk l3 := by rw [hl3]; exact trOk_take (trOk_drop hok d) _
              rw [← hl1, ← hl2, ← hl3] at HCC
              have P1 := Lib.hid (fun u W (h : Prs W u l1) => pulses_any u l1 W (by have := ok1.len; omega) h)
              have P2 := Lib.hid (fun u W (h : Prs W u l2) => pulses_any u l2 W (by have := ok2.len; omega) h)
              have P3 := Lib.hid (fun u W (h : Prs W u l3) => pulses_any u l3 W (by have := ok3.len; omega) h)
              have S1 := Lib.hid (fun u W (h : Prs W u l1) => switch_ok u l1 W ok1 h)
              have S2 := Lib.hid (fun u W (h : Prs W u l2) => switch_ok u l2 W ok2 h)
              have S3 := Lib.hid (fun u W (h : Prs W u l3) => switch_ok u l3 W ok3 h)
              obtain ⟨al, hal⟩ : ∃ l, l = swL l1 := ⟨_, rfl⟩
              obtain ⟨bl, hbl⟩ : ∃ l, l = swL l2 := ⟨_, rfl⟩
              obtain ⟨cl, hcl2⟩ : ∃ l, l = swL l3 := ⟨_, rfl⟩
              have HAL := Lib.hid (show al.length = 12 by rw [hal, swL_len])
              have HBL := Lib.hid (show bl.length = 12 by rw [hbl, swL_len])
              have HCL := Lib.hid (show cl.length = 12 by rw [hcl2, swL_len])
              rw [← hal, ← hbl, ← hcl2] at HCC
              rw [← hal] at S1
              rw [← hbl] at S2
              rw [← hcl2] at S3
              have A1 := Lib.hid (fun W (h : Prs W (.slice a1 N p1) la) => (show Prs W _ l1 by rw [hl1]; exact h.takeA HN.out c (by omega)))
              have A2 := Lib.hid (fun W (h : Prs W (.slice a1 N p1) la) => (show Prs W _ l2 by rw [hl2]; exact h.dropA HN.out c (by omega)))
              have A3 := Lib.hid (fun W (h : Prs W (.slice a1 N p1) la) => (show Prs W _ l3 by rw [hl3]; exact (h.dropA HN.out d (by omega)).takeA (by rw [List.length_drop, ← HN.out]) (e2 - d) (by omega)))
              have e0 : (0 : Int) ≤ (c : Int) := by omega
              have e1 : (c : Int) ≤ (N : Int) := by omega
              have e3 : (N : Int) ≤ (p1 : Int) := by have := HVC.out; omega
              have qd : (c : Int) - 1 = (d : Int) := by omega
              have qe : (c : Int) + 1 = (e2 : Int) := by omega
              have e4 : (d : Int) ≤ (e2 : Int) := by omega
              have e5 : (e2 : Int) ≤ (N : Int) := by omega
              have e6 : (e2 : Int) ≤ 13 := by omega
              clear hd he2 hed hl1 hl2 hl3 ok1 ok2 ok3 hal hbl hcl2 hok hcl h0 h1
              go_wp2_with fail
              refine (P1.out _ wc (A1.out wc (HA.out.carry (bthen K2.out HKB.out)))).mono ?_
              rintro e w21 ⟨⟨u, rfl, hu⟩, hbw⟩
              replace hu : Prs _ _ l1 := hu.rw pV_len
              go_wp2_with fail
              refine (S1.out u w21 hu).mono ?_
              rintro e w22 ⟨rfl, hl⟩
              replace hbw := bthen hbw hl
              clear hu hl S1 P1 A1
              go_upto_region 31 with (refine wpList_storeA rfl _ _ _ rfl w22.heap.size al (List.replicate 12 0) rfl rfl (BlkI.new w22 23 (List.replicate 12 0)) (by rw [HAL.out]; rfl) (by rw [HAL.out]; exact Tryz.infoA12) ?_)
              obtain ⟨W23, hW23⟩ : ∃ v, v = World.setRow (World.alloc w22 (Obj.cells #[.int .i64 0, .int .i64 0, .int .i64 0, .int .i64 0, .int .i64 0, .int .i64 0, .int .i64 0, .int .i64 0, .int .i64 0, .int .i64 0, .int .i64 0, .int .i64 0] 23)) w22.heap.size (ia (al)) := ⟨_, rfl⟩
              have kW23 : Below w22.heap.size w22 W23 := by rw [hW23]; exact zrow_below _ _ _ _
              have iW23 : BlkI W23 w22.heap.size 23 (al) := by rw [hW23]; exact zrow_blk w22 _ (List.replicate 12 0) _
              rw [← hW23]
              clear hW23
              replace hbw := bthen hbw kW23
              generalize w22.heap.size = G22 at iW23 ⊢
              have i22 := iW23
              clear iW23 kW23
              go_wp2_with fail
              refine (P2.out _ W23 (A2.out W23 (HA.out.carry (bthen K2.out (bthen HKB.out hbw))))).mono ?_
              rintro e w24 ⟨⟨u, rfl, hu⟩, hl⟩
              replace hu : Prs _ _ l2 := hu.rw pV_len
              replace hbw := bthen hbw hl
              replace i22 := i22.carry hl
              clear hl
              go_wp2_with fail
              refine (S2.out u w24 hu).mono ?_
              rintro e w25 ⟨rfl, hl⟩
              replace hbw := bthen hbw hl
              replace i22 := i22.carry hl
              clear hu hl S2 P2 A2
              go_upto_region 32 with (refine wpList_storeA rfl _ _ _ rfl w25.heap.size bl (List.replicate 12 0) rfl rfl (BlkI.new w25 23 (List.replicate 12 0)) (by rw [HBL.out]; rfl) (by rw [HBL.out]; exact Tryz.infoA12) ?_)
              obtain ⟨W26, hW26⟩ : ∃ v, v = World.setRow (World.alloc w25 (Obj.cells #[.int .i64 0, .int .i64 0, .int .i64 0, .int .i64 0, .int .i64 0, .int .i64 0, .int .i64 0, .int .i64 0, .int .i64 0, .int .i64 0, .int .i64 0, .int .i64 0] 23)) w25.heap.size (ia (bl)) := ⟨_, rfl⟩
              have kW26 : Below w25.heap.size w25 W26 := by rw [hW26]; exact zrow_below _ _ _ _
              have iW26 : BlkI W26 w25.heap.size 23 (bl) := by rw [hW26]; exact zrow_blk w25 _ (List.replicate 12 0) _
              rw [← hW26]
              clear hW26
              replace hbw := bthen hbw kW26
              replace i22 := i22.carry kW26
              generalize w25.heap.size = G24 at iW26 ⊢
              have i24 := iW26
              clear iW26 kW26
              go_wp2_with fail
              refine (P3.out _ W26 (A3.out W26 (HA.out.carry (bthen K2.out (bthen HKB.out hbw))))).mono ?_
              rintro e w27 ⟨⟨u, rfl, hu⟩, hl⟩
              replace hu : Prs _ _ l3 := hu.rw pV_len
              replace hbw := bthen hbw hl
              replace i22 := i22.carry hl
              replace i24 := i24.carry hl
              clear hl
              go_wp2_with fail
              refine (S3.out u w27 hu).mono ?_
              rintro e w28 ⟨rfl, hl⟩
              replace hbw := bthen hbw hl
              replace i22 := i22.carry hl
              replace i24 := i24.carry hl
              clear hu hl S3 P3 A3 qd qe e0 e1 e3 e4 e5 e6
              go_upto_region 33 with (refine wpList_storeA rfl _ _ _ rfl w28.heap.size cl (List.replicate 12 0) rfl rfl (BlkI.new w28 23 (List.replicate 12 0)) (by rw [HCL.out]; rfl) (by rw [HCL.out]; exact Tryz.infoA12) ?_)
              obtain ⟨W29, hW29⟩ : ∃ v, v = World.setRow (World.alloc w28 (Obj.cells #[.int .i64 0, .int .i64 0, .int .i64 0, .int .i64 0, .int .i64 0, .int .i64 0, .int .i64 0, .int .i64 0, .int .i64 0, .int .i64 0, .int .i64 0, .int .i64 0] 23)) w28.heap.size (ia (cl)) := ⟨_, rfl⟩
              have kW29 : Below w28.heap.size w28 W29 := by rw [hW29]; exact zrow_below _ _ _ _
              have iW29 : BlkI W29 w28.heap.size 23 (cl) := by rw [hW29]; exact zrow_blk w28 _ (List.replicate 12 0) _
              rw [← hW29]
              clear hW29
              replace hbw := bthen hbw kW29
              replace i22 := i22.carry kW29
              replace i24 := i24.carry kW29
              generalize w28.heap.size = G26 at iW29 ⊢
              have i26 := iW29
              clear iW29 kW29
              have H22 := Lib.hid i22
              have H24 := Lib.hid i24
              have H26 := Lib.hid i26
              have HBW := Lib.hid hbw
              clear i22 i24 i26 hbw
              go_wp2_with fail
              go_loopw [238] (fun i wx => ∃ k : Nat, k ≤ 12 ∧ i = .int .i64 k ∧ Below W29.heap.size W29 wx) (fun i _ => 12 - (intOf i).toNat)
              case atStart => exact ⟨0, by omega, rfl, Below.refl _ _⟩
              case round =>
               obtain ⟨j2, hj2, rfl, hby⟩ := hrel
               by_cases hltq : j2 < 12
               ·have hdq : (j2 : Int) < 12 := by omega
                have hdq0 : (0 : Int) ≤ (j2 : Int) := by omega
                have c22 := BlkI.cell (H22.out.carry hby) (j := j2) (by rw [HAL.out]; exact hltq)
                have c24 := BlkI.cell (H24.out.carry hby) (j := j2) (by rw [HBL.out]; exact hltq)
                have c26 := BlkI.cell (H26.out.carry hby) (j := j2) (by rw [HCL.out]; exact hltq)
                have c9 := BlkI.cell (H9.out.carry (bthen HKB2.out (bthen HBW.out hby))) (j := j2) (by rw [HSLL.out]; exact hltq)
                obtain ⟨s0, s1, s2, s3⟩ := HCC.out j2 hltq
                rw [← HSL.out] at s0
                rw [← HN.out] at s1 s2
                have hN9 := HN12.out
                obtain ⟨x1, hx1⟩ : ∃ x, x = al[j2]?.getD 0 := ⟨_, rfl⟩
                obtain ⟨x2, hx2⟩ : ∃ x, x = bl[j2]?.getD 0 := ⟨_, rfl⟩
                obtain ⟨x3, hx3⟩ : ∃ x, x = cl[j2]?.getD 0 := ⟨_, rfl⟩
                obtain ⟨x4, hx4⟩ : ∃ x, x = sl[j2]?.getD 0 := ⟨_, rfl⟩
                rw [← hx1] at c22 s0 s1
                rw [← hx2] at c24 s0 s2
                rw [← hx3] at c26 s0 s3
                rw [← hx4] at c9 s0
                obtain ⟨x12, hx12⟩ : ∃ x, x = x1 + x2 := ⟨_, rfl⟩
                have r1 : IntKind.i64.wrap (x1 + x2) = x12 := by rw [← hx12]; exact IntWalk.i64_in _ (by omega)
                have r2 : IntKind.i64.wrap (x12 + x3) = x4 := by rw [hx12, s0]; exact IntWalk.i64_in _ (by omega)
                clear s0 s1 s2 s3 hx1 hx2 hx3 hx4 hx12
                go_upto_region 38 with fail
                refine wp_region_held_drew (S := (fun W => W.cell? ⟨G22, j2, none⟩ = some (.int .i64 x1) ∧ W.cell? ⟨G24, j2, none⟩ = some (.int .i64 x2) ∧ W.cell? ⟨G26, j2, none⟩ = some (.int .i64 x3) ∧ W.cell? ⟨G9, j2, none⟩ = some (.int .i64 x4))) (by kernel_rfl) ⟨cellb c22 (Below.refl _ _).drew, cellb c24 (Below.refl _ _).drew, cellb c26 (Below.refl _ _).drew, cellb c9 (Below.refl _ _).drew⟩ (fun hHeld0 => ?_)
                obtain ⟨wzd, hwz⟩ : ∃ v, v = wr.drew := ⟨_, rfl⟩
                rw [← hwz] at hHeld0 ⊢
                have hbzd : Below wr.heap.size wr wzd := by rw [hwz]; exact (Below.refl _ _).drew
                have hlzd : Below wr.heap.size wr wzd := by rw [hwz]; exact (Below.refl _ _).drew
                clear hwz hlzd
                refine wpAnyH_take (i := 0) (oi := ⟨some 241, .move (.tmp 28), 3, "law.go:510", #[], none⟩) (v := ?_) rfl (by kernel_rfl) (by kernel_rfl) (by kernel_rfl) (fun _ _ _ h => h) (Or.inl ⟨by rfl, ?_⟩) (by assumption) ?_
                rotate_left
                ·(intro w hSw; (try dsimp only at hSw); go_simp); (try with_reducible rfl)
                try simp only [Act.put, zS]
                refine wpAnyH_take (i := 1) (oi := ⟨some 242, .indexAddr 23 (.tmp 22) (.tmp 241), 0, "law.go:510", #[⟨0, .data⟩], none⟩) (v := ?_) rfl (by kernel_rfl) (by kernel_rfl) (by kernel_rfl) (fun _ _ _ h => h) (Or.inl ⟨by rfl, ?_⟩) (by assumption) ?_
                rotate_left
                ·(intro w hSw; (try dsimp only at hSw); go_simp); (try with_reducible rfl)
                try simp only [Act.put, zS]
                refine wpAnyH_take (i := 2) (oi := ⟨some 243, .load 3 (.tmp 242), 3, "law.go:510", #[⟨1, .data⟩], none⟩) (v := ?_) rfl (by kernel_rfl) (by kernel_rfl) (by kernel_rfl) (fun _ _ _ h => h) (Or.inl ⟨by rfl, ?_⟩) (by assumption) ?_
                rotate_left
                ·(intro w hSw; (try dsimp only at hSw); go_simp); (try with_reducible rfl)
                try simp only [Act.put, zS]
                refine wpAnyH_take (i := 3) (oi := ⟨some 244, .move (.tmp 28), 3, "law.go:510", #[], none⟩) (v := ?_) rfl (by kernel_rfl) (by kernel_rfl) (by kernel_rfl) (fun _ _ _ h => h) (Or.inl ⟨by rfl, ?_⟩) (by assumption) ?_
                rotate_left
                ·(intro w hSw; (try dsimp only at hSw); go_simp); (try with_reducible rfl)
                try simp only [Act.put, zS]
                refine wpAnyH_take (i := 4) (oi := ⟨some 245, .indexAddr 23 (.tmp 24) (.tmp 244), 0, "law.go:510", #[⟨3, .data⟩], none⟩) (v := ?_) rfl (by kernel_rfl) (by kernel_rfl) (by kernel_rfl) (fun _ _ _ h => h) (Or.inl ⟨by rfl, ?_⟩) (by assumption) ?_
                rotate_left
                ·(intro w hSw; (try dsimp only at hSw); go_simp); (try with_reducible rfl)
                try simp only [Act.put, zS]
                refine wpAnyH_take (i := 5) (oi := ⟨some 246, .load 3 (.tmp 245), 3, "law.go:510", #[⟨4, .data⟩], none⟩) (v := ?_) rfl (by kernel_rfl) (by kernel_rfl) (by kernel_rfl) (fun _ _ _ h => h) (Or.inl ⟨by rfl, ?_⟩) (by assumption) ?_
                rotate_left
                ·(intro w hSw; (try dsimp only at hSw); go_simp); (try with_reducible rfl)
                try simp only [Act.put, zS]
                refine wpAnyH_take (i := 6) (oi := ⟨some 247, .binOp .add 3 (.tmp 243) (.tmp 246) 3, 3, "law.go:510", #[⟨2, .data⟩, ⟨5, .data⟩], none⟩) (v := ?_) rfl (by kernel_rfl) (by kernel_rfl) (by kernel_rfl) (fun _ _ _ h => h) (Or.inl ⟨by rfl, ?_⟩) (by assumption) ?_
                rotate_left
                ·(intro w hSw; (try dsimp only at hSw); go_simp); (try with_reducible rfl)
                try simp only [Act.put, zS]
                refine wpAnyH_take (i := 7) (oi := ⟨some 248, .move (.tmp 28), 3, "law.go:510", #[], none⟩) (v := ?_) rfl (by kernel_rfl) (by kernel_rfl) (by kernel_rfl) (fun _ _ _ h => h) (Or.inl ⟨by rfl, ?_⟩) (by assumption) ?_
                rotate_left
                ·(intro w hSw; (try dsimp only at hSw); go_simp); (try with_reducible rfl)
                try simp only [Act.put, zS]
                refine wpAnyH_take (i := 8) (oi := ⟨some 249, .indexAddr 23 (.tmp 26) (.tmp 248), 0, "law.go:510", #[⟨7, .data⟩], none⟩) (v := ?_) rfl (by kernel_rfl) (by kernel_rfl) (by kernel_rfl) (fun _ _ _ h => h) (Or.inl ⟨by rfl, ?_⟩) (by assumption) ?_
                rotate_left
                ·(intro w hSw; (try dsimp only at hSw); go_simp); (try with_reducible rfl)
                try simp only [Act.put, zS]
                refine wpAnyH_take (i := 9) (oi := ⟨some 250, .load 3 (.tmp 249), 3, "law.go:510", #[⟨8, .data⟩], none⟩) (v := ?_) rfl (by kernel_rfl) (by kernel_rfl) (by kernel_rfl) (fun _ _ _ h => h) (Or.inl ⟨by rfl, ?_⟩) (by assumption) ?_
                rotate_left
                ·(intro w hSw; (try dsimp only at hSw); go_simp); (try with_reducible rfl)
                try simp only [Act.put, zS]
                refine wpAnyH_take (i := 10) (oi := ⟨some 251, .binOp .add 3 (.tmp 247) (.tmp 250) 3, 3, "law.go:510", #[⟨6, .data⟩, ⟨9, .data⟩], none⟩) (v := ?_) rfl (by kernel_rfl) (by kernel_rfl) (by kernel_rfl) (fun _ _ _ h => h) (Or.inl ⟨by rfl, ?_⟩) (by assumption) ?_
                rotate_left
                ·(intro w hSw; (try dsimp only at hSw); go_simp); (try with_reducible rfl)
                try simp only [Act.put, zS]
                refine wpAnyH_take (i := 11) (oi := ⟨some 252, .move (.tmp 28), 3, "law.go:510", #[], none⟩) (v := ?_) rfl (by kernel_rfl) (by kernel_rfl) (by kernel_rfl) (fun _ _ _ h => h) (Or.inl ⟨by rfl, ?_⟩) (by assumption) ?_
                rotate_left
                ·(intro w hSw; (try dsimp only at hSw); go_simp); (try with_reducible rfl)
                try simp only [Act.put, zS]
                refine wpAnyH_take (i := 12) (oi := ⟨some 253, .indexAddr 23 (.tmp 9) (.tmp 252), 0, "law.go:510", #[⟨11, .data⟩], none⟩) (v := ?_) rfl (by kernel_rfl) (by kernel_rfl) (by kernel_rfl) (fun _ _ _ h => h) (Or.inl ⟨by rfl, ?_⟩) (by assumption) ?_
                rotate_left
                ·(intro w hSw; (try dsimp only at hSw); go_simp); (try with_reducible rfl)
                try simp only [Act.put, zS]
                refine wpAnyH_take (i := 13) (oi := ⟨some 254, .load 3 (.tmp 253), 3, "law.go:510", #[⟨12, .data⟩], none⟩) (v := ?_) rfl (by kernel_rfl) (by kernel_rfl) (by kernel_rfl) (fun _ _ _ h => h) (Or.inl ⟨by rfl, ?_⟩) (by assumption) ?_
                rotate_left
                ·(intro w hSw; (try dsimp only at hSw); go_simp); (try with_reducible rfl)
                try simp only [Act.put, zS]
                refine wpAnyH_take (i := 14) (oi := ⟨some 255, .binOp .neq 3 (.tmp 251) (.tmp 254) 3, 4, "law.go:510", #[⟨10, .data⟩, ⟨13, .data⟩], none⟩) (v := ?_) rfl (by kernel_rfl) (by kernel_rfl) (by kernel_rfl) (fun _ _ _ h => h) (Or.inl ⟨by rfl, ?_⟩) (by assumption) ?_
                rotate_left
                ·(intro w hSw; (try dsimp only at hSw); go_simp); (try with_reducible rfl)
                try simp only [Act.put, zS]
                refine wpAnyH_done (by kernel_rfl) ?_ _
                clear hHeld0
                have hb2 := hbzd
                obtain ⟨W31, hW31⟩ : ∃ v, v = wzd := ⟨_, rfl⟩
                rw [← hW31] at hb2 ⊢
                clear hW31
                have hby2 := bthen hby hb2
                clear c22 c24 c26 c9 r1 r2 hb2
                go_wp2
                go_roundw
                case rel => exact ⟨j2 + 1, by omega, by go_num, hby2⟩
                case measure => simp [intOf]; omega
               ·have hdq : ¬ (j2 : Int) < 12 := by omega
                go_wp2
                go_meet
                exact bthen HBW.out hby
           case rest =>
            have HKC := Lib.hid (bthen HKB2.out hcut)
            have HKD := Lib.hid (bthen HKB.out hcut)
            clear hcut
            by_cases hfs : f = s
            ·have z1 : ((f : Int) == (s : Int)) = true := by rw [beq_iff_eq]; omega
             clear hfs
             go_wp2
             go_ret
             exact ⟨rfl, bthen K2.out HKD.out⟩
            ·have z1 : ((f : Int) == (s : Int)) = false := by rw [beq_eq_false_iff_ne]; omega
             have hsu := wear_sub HYK.out hf9 hs9 hfs HYO.out
             have hzk := sbt_ok HYK.out hs9 hfs HYO.out
             have hnw := wear_now HYK.out hs9 hfs HYO.out
             have hbk := wear_back HYK.out hf9 hs9 hfs HYO.out
             have hff := (HV.out f hf9).2.1 hfs
             have hylen : yl.length ≤ 12 := by rw [HYLL.out, ← HN.out]; exact HN12.out
             have TSb := Lib.hid (fun u W (h : Prs W u yl) => Substituted_any u yl f s W (by omega) h)
             rw [hsu.1, hsu.2] at TSb
             obtain ⟨zl, hzl⟩ : ∃ l, l = chgL yl (sbtR f s) := ⟨_, rfl⟩
             have hzlen : zl.length = yl.length := by rw [hzl, chgL_len]
             rw [← hzl] at TSb hzk hnw hbk
             have TSc := Lib.hid (fun u W (h : Prs W u zl) => Substituted_any u zl s f W (by omega) h)
             rw [hbk.1, hbk.2] at TSc
             have TZ := Lib.hid (fun u W (h : Prs W u zl) => switch_ok u zl W hzk h)
             have TTz := Lib.hid (fun u W (h : Prs W u zl) => told_any u zl W (by omega) h)
             have TPz := Lib.hid (fun u W (h : Prs W u zl) => pulses_any u zl W (by omega) h)
             have RTz := Lib.hid (fun u W (h : Prs W u zl) => CheckTrainR_any u zl W (by omega) h)
             rw [trainE_of_ok hzk] at RTz
             have SM := Lib.hid (fun va vb W ha hb => same_train va vb yl W ha hb (by omega))
             have hn1 : (swL zl)[f]?.getD 0 = 0 := by rw [swL_get zl hf9, hzlen]; exact hnw.1
             have hn2 : (swL zl)[s]?.getD 0 = sl[f]?.getD 0 := by rw [← hff, HFL.out, swL_get zl hs9, swL_get yl hf9, hzlen]; exact hnw.2
             obtain ⟨nl, hnl⟩ : ∃ l, l = swL zl := ⟨_, rfl⟩
             have HNL := Lib.hid (show nl.length = 12 by rw [hnl, swL_len])
             rw [← hnl] at TZ hn1 hn2
             have HN1' := Lib.hid hn1
             have HN2' := Lib.hid hn2
             clear hsu hzk hnw hbk hff hylen hzl hzlen hnl hn1 hn2 hfs
             have h11 := H11.out.carry HKC.out
             have hbw := HKC.out
             go_wp2_with fail
             refine (TT.out u11 _ h11).mono ?_
             rintro e w31 ⟨⟨ua, rfl, hua⟩, hl⟩
             replace hua : Prs _ _ yl := hua.rw pV_len
             replace hbw := bthen hbw hl
             clear hl h11
             go_wp2_with fail
             refine (TPy.out ua w31 hua).mono ?_
             rintro e w32 ⟨⟨ub, rfl, hub⟩, hl⟩
             replace hub : Prs _ _ yl := hub.rw pV_len
             replace hbw := bthen hbw hl
             clear hl hua
             go_wp2_with fail
             refine (TSb.out ub w32 hub).mono ?_
             rintro e w33 ⟨⟨u29, rfl, h29⟩, hl⟩
             replace hbw := bthen hbw hl
             clear hl hub TSb
             go_wp2_with fail
             refine (TTz.out u29 w33 h29).mono ?_
             rintro e w34 ⟨⟨ua, rfl, hua⟩, hl⟩
             replace hua : Prs _ _ zl := hua.rw pV_len
             replace hbw := bthen hbw hl
             replace h29 := h29.carry hl
             clear hl
             go_wp2_with fail
             refine (RTz.out ua w34 hua).mono ?_
             rintro e w35 ⟨rfl, hl⟩
             replace hbw := bthen hbw hl
             replace h29 := h29.carry hl
             clear hl hua
             go_wp2_with fail
             refine (TTz.out u29 w35 h29).mono ?_
             rintro e w36 ⟨⟨ua, rfl, hua⟩, hl⟩
             replace hua : Prs _ _ zl := hua.rw pV_len
             replace hbw := bthen hbw hl
             replace h29 := h29.carry hl
             clear hl
             go_wp2_with fail
             refine (TPz.out ua w36 hua).mono ?_
             rintro e w37 ⟨⟨ub, rfl, hub⟩, hl⟩
             replace hub : Prs _ _ zl := hub.rw pV_len
             replace hbw := bthen hbw hl
             replace h29 := h29.carry hl
             clear hl hua
             go_wp2_with fail
             refine (TZ.out ub w37 hub).mono ?_
             rintro e w38 ⟨rfl, hl⟩
             replace hbw := bthen hbw hl
             replace h29 := h29.carry hl
             clear hl hub
             go_upto_region 47 with (refine wpList_storeA rfl _ _ _ rfl w38.heap.size nl (List.replicate 12 0) rfl rfl (BlkI.new w38 23 (List.replicate 12 0)) (by rw [HNL.out]; rfl) (by rw [HNL.out]; exact Tryz.infoA12) ?_)
             obtain ⟨W39, hW39⟩ : ∃ v, v = World.setRow (World.alloc w38 (Obj.cells #[.int .i64 0, .int .i64 0, .int .i64 0, .int .i64 0, .int .i64 0, .int .i64 0, .int .i64 0, .int .i64 0, .int .i64 0, .int .i64 0, .int .i64 0, .int .i64 0] 23)) w38.heap.size (ia (nl)) := ⟨_, rfl⟩
             have kW39 : Below w38.heap.size w38 W39 := by rw [hW39]; exact zrow_below _ _ _ _
             have iW39 : BlkI W39 w38.heap.size 23 (nl) := by rw [hW39]; exact zrow_blk w38 _ (List.replicate 12 0) _
             rw [← hW39]
             clear hW39
             replace hbw := bthen hbw kW39
             replace h29 := h29.carry kW39
             generalize w38.heap.size = G31 at iW39 ⊢
             have i31 := iW39
             clear iW39 kW39
             go_wp2_with fail
             refine (TTz.out u29 W39 h29).mono ?_
             rintro e w40 ⟨⟨ua, rfl, hua⟩, hl⟩
             replace hua : Prs _ _ zl := hua.rw pV_len
             replace hbw := bthen hbw hl
             replace i31 := i31.carry hl
             clear hl h29
             go_wp2_with fail
             refine (TPz.out ua w40 hua).mono ?_
             rintro e w41 ⟨⟨ub, rfl, hub⟩, hl⟩
             replace hub : Prs _ _ zl := hub.rw pV_len
             replace hbw := bthen hbw hl
             replace i31 := i31.carry hl
             clear hl hua
             go_wp2_with fail
             refine (TSc.out ub w41 hub).mono ?_
             rintro e w42 ⟨⟨u33, rfl, h33⟩, hl⟩
             replace hbw := bthen hbw hl
             replace i31 := i31.carry hl
             clear hl hub TSc
             have h11 := H11.out.carry hbw
             have cnf := BlkI.cell i31 (j := f) (by rw [HNL.out]; exact hf9)
             have cns := BlkI.cell i31 (j := s) (by rw [HNL.out]; exact hs9)
             have csf := BlkI.cell (H9.out.carry hbw) (j := f) (by rw [HSLL.out]; exact hf9)
             rw [HN1'.out] at cnf
             rw [HN2'.out] at cns
             obtain ⟨X, hX⟩ : ∃ x, x = sl[f]?.getD 0 := ⟨_, rfl⟩
             rw [← hX] at cns csf
             clear hX i31
             go_upto_region 48 with fail
             refine wp_region_held_drew (S := (fun W => W.cell? ⟨G31, f, none⟩ = some (.int .i64 0) ∧ W.cell? ⟨G31, s, none⟩ = some (.int .i64 X) ∧ W.cell? ⟨G9, f, none⟩ = some (.int .i64 X))) (by kernel_rfl) ⟨cellb cnf (Below.refl _ _).drew, cellb cns (Below.refl _ _).drew, cellb csf (Below.refl _ _).drew⟩ (fun hHeld0 => ?_)
             obtain ⟨wzd, hwz⟩ : ∃ v, v = w42.drew := ⟨_, rfl⟩
             rw [← hwz] at hHeld0 ⊢
             have hbzd : Below w42.heap.size w42 wzd := by rw [hwz]; exact (Below.refl _ _).drew
             have hlzd : Below w42.heap.size w42 wzd := by rw [hwz]; exact (Below.refl _ _).drew
             have h33 := h33.carry hlzd
             have h11 := h11.carry hlzd
             clear hwz hlzd
             refine wpAnyH_take (i := 0) (oi := ⟨some 293, .move (.tmp 32), 29, "law.go:525", #[], none⟩) (v := ?_) rfl (by kernel_rfl) (by kernel_rfl) (by kernel_rfl) (fun _ _ _ h => h) (Or.inl ⟨by rfl, ?_⟩) (by assumption) ?_
             rotate_left
             ·(intro w hSw; (try dsimp only at hSw); go_simp); (try with_reducible rfl)
             try simp only [Act.put, zS]
             refine wpAnyH_take (i := 1) (oi := ⟨some 294, .binOp .eql 29 (.tmp 293) (.const (.int .i64 0)) 29, 4, "law.go:525", #[⟨0, .data⟩], none⟩) (v := ?_) rfl (by kernel_rfl) (by kernel_rfl) (by kernel_rfl) (fun _ _ _ h => h) (Or.inl ⟨by rfl, ?_⟩) (by assumption) ?_
             rotate_left
             ·(intro w hSw; (try dsimp only at hSw); go_simp); (try with_reducible rfl)
             try simp only [Act.put, zS]
             refine wpAnyH_take (i := 2) (oi := ⟨some 295, .move (.tmp 294), 4, "law.go:525", #[⟨1, .data⟩], none⟩) (v := ?_) rfl (by kernel_rfl) (by kernel_rfl) (by kernel_rfl) (fun _ _ _ h => h) (Or.inl ⟨by rfl, ?_⟩) (by assumption) ?_
             rotate_left
             ·(intro w hSw; (try dsimp only at hSw); go_simp); (try with_reducible rfl)
             try simp only [Act.put, zS]
             refine wpAnyH_take (i := 3) (oi := ⟨some 296, .move (.tmp 34), 29, "law.go:525", #[⟨2, .guard⟩], some (2, true)⟩) (v := ?_) rfl (by kernel_rfl) (by kernel_rfl) (by kernel_rfl) (fun _ _ _ h => h) (Or.inl ⟨by rfl, ?_⟩) (by assumption) ?_
             rotate_left
             ·(intro w hSw; (try dsimp only at hSw); go_simp); (try with_reducible rfl)
             try simp only [Act.put, zS]
             refine wpAnyH_take (i := 4) (oi := ⟨some 297, .binOp .eql 29 (.tmp 296) (.const (.int .i64 0)) 29, 4, "law.go:525", #[⟨3, .data⟩, ⟨2, .guard⟩], some (2, true)⟩) (v := ?_) rfl (by kernel_rfl) (by kernel_rfl) (by kernel_rfl) (fun _ _ _ h => h) (Or.inl ⟨by rfl, ?_⟩) (by assumption) ?_
             rotate_left
             ·(intro w hSw; (try dsimp only at hSw); go_simp); (try with_reducible rfl)
             try simp only [Act.put, zS]
             refine wpAnyH_take (i := 5) (oi := ⟨some 298, .pick (.tmp 295) (.tmp 297) (.const (.bool false)), 4, "law.go:525", #[⟨2, .data⟩, ⟨4, .data⟩], none⟩) (v := ?_) rfl (by kernel_rfl) (by kernel_rfl) (by kernel_rfl) (fun _ _ _ h => h) (Or.inl ⟨by rfl, ?_⟩) (by assumption) ?_
             rotate_left
             ·(intro w hSw; (try dsimp only at hSw); go_simp); (try with_reducible rfl)
             try simp only [Act.put, zS]
             refine wpAnyH_take (i := 6) (oi := ⟨some 299, .move (.tmp 298), 4, "law.go:525", #[⟨5, .data⟩, ⟨2, .chain⟩], none⟩) (v := ?_) rfl (by kernel_rfl) (by kernel_rfl) (by kernel_rfl) (fun _ _ _ h => h) (Or.inl ⟨by rfl, ?_⟩) (by assumption) ?_
             rotate_left
             ·(intro w hSw; (try dsimp only at hSw); go_simp); (try with_reducible rfl)
             try simp only [Act.put, zS]
             refine wpAnyH_take (i := 7) (oi := ⟨some 300, .move (.tmp 7), 3, "law.go:525", #[⟨6, .guard⟩], some (6, true)⟩) (v := ?_) rfl (by kernel_rfl) (by kernel_rfl) (by kernel_rfl) (fun _ _ _ h => h) (Or.inl ⟨by rfl, ?_⟩) (by assumption) ?_
             rotate_left
             ·(intro w hSw; (try dsimp only at hSw); go_simp); (try with_reducible rfl)
             try simp only [Act.put, zS]
             refine wpAnyH_take (i := 8) (oi := ⟨some 301, .indexAddr 23 (.tmp 31) (.tmp 300), 0, "law.go:525", #[⟨7, .data⟩, ⟨6, .guard⟩], some (6, true)⟩) (v := ?_) rfl (by kernel_rfl) (by kernel_rfl) (by kernel_rfl) (fun _ _ _ h => h) (Or.inl ⟨by rfl, ?_⟩) (by assumption) ?_
             rotate_left
             ·(intro w hSw; (try dsimp only at hSw); go_simp); (try with_reducible rfl)
             try simp only [Act.put, zS]
             refine wpAnyH_take (i := 9) (oi := ⟨some 302, .load 3 (.tmp 301), 3, "law.go:525", #[⟨8, .data⟩, ⟨6, .guard⟩], some (6, true)⟩) (v := ?_) rfl (by kernel_rfl) (by kernel_rfl) (by kernel_rfl) (fun _ _ _ h => h) (Or.inl ⟨by rfl, ?_⟩) (by assumption) ?_
             rotate_left
             ·(intro w hSw; (try dsimp only at hSw); go_simp); (try with_reducible rfl)
             try simp only [Act.put, zS]
             refine wpAnyH_take (i := 10) (oi := ⟨some 303, .binOp .eql 3 (.tmp 302) (.const (.int .i64 0)) 3, 4, "law.go:525", #[⟨9, .data⟩, ⟨6, .guard⟩], some (6, true)⟩) (v := ?_) rfl (by kernel_rfl) (by kernel_rfl) (by kernel_rfl) (fun _ _ _ h => h) (Or.inl ⟨by rfl, ?_⟩) (by assumption) ?_
             rotate_left
             ·(intro w hSw; (try dsimp only at hSw); go_simp); (try with_reducible rfl)
             try simp only [Act.put, zS]
             refine wpAnyH_take (i := 11) (oi := ⟨some 304, .pick (.tmp 299) (.tmp 303) (.const (.bool false)), 4, "law.go:525", #[⟨6, .data⟩, ⟨10, .data⟩], none⟩) (v := ?_) rfl (by kernel_rfl) (by kernel_rfl) (by kernel_rfl) (fun _ _ _ h => h) (Or.inl ⟨by rfl, ?_⟩) (by assumption) ?_
             rotate_left
             ·(intro w hSw; (try dsimp only at hSw); go_simp); (try with_reducible rfl)
             try simp only [Act.put, zS]
             refine wpAnyH_take (i := 12) (oi := ⟨some 305, .move (.tmp 304), 4, "law.go:525", #[⟨11, .data⟩, ⟨6, .chain⟩], none⟩) (v := ?_) rfl (by kernel_rfl) (by kernel_rfl) (by kernel_rfl) (fun _ _ _ h => h) (Or.inl ⟨by rfl, ?_⟩) (by assumption) ?_
             rotate_left
             ·(intro w hSw; (try dsimp only at hSw); go_simp); (try with_reducible rfl)
             try simp only [Act.put, zS]
             refine wpAnyH_take (i := 13) (oi := ⟨some 306, .move (.tmp 8), 3, "law.go:525", #[⟨12, .guard⟩], some (12, true)⟩) (v := ?_) rfl (by kernel_rfl) (by kernel_rfl) (by kernel_rfl) (fun _ _ _ h => h) (Or.inl ⟨by rfl, ?_⟩) (by assumption) ?_
             rotate_left
             ·(intro w hSw; (try dsimp only at hSw); go_simp); (try with_reducible rfl)
             try simp only [Act.put, zS]
             refine wpAnyH_take (i := 14) (oi := ⟨some 307, .indexAddr 23 (.tmp 31) (.tmp 306), 0, "law.go:525", #[⟨13, .data⟩, ⟨12, .guard⟩], some (12, true)⟩) (v := ?_) rfl (by kernel_rfl) (by kernel_rfl) (by kernel_rfl) (fun _ _ _ h => h) (Or.inl ⟨by rfl, ?_⟩) (by assumption) ?_
             rotate_left
             ·(intro w hSw; (try dsimp only at hSw); go_simp); (try with_reducible rfl)
             try simp only [Act.put, zS]
             refine wpAnyH_take (i := 15) (oi := ⟨some 308, .load 3 (.tmp 307), 3, "law.go:525", #[⟨14, .data⟩, ⟨12, .guard⟩], some (12, true)⟩) (v := ?_) rfl (by kernel_rfl) (by kernel_rfl) (by kernel_rfl) (fun _ _ _ h => h) (Or.inl ⟨by rfl, ?_⟩) (by assumption) ?_
             rotate_left
             ·(intro w hSw; (try dsimp only at hSw); go_simp); (try with_reducible rfl)
             try simp only [Act.put, zS]
             refine wpAnyH_take (i := 16) (oi := ⟨some 309, .move (.tmp 7), 3, "law.go:525", #[⟨12, .guard⟩], some (12, true)⟩) (v := ?_) rfl (by kernel_rfl) (by kernel_rfl) (by kernel_rfl) (fun _ _ _ h => h) (Or.inl ⟨by rfl, ?_⟩) (by assumption) ?_
             rotate_left
             ·(intro w hSw; (try dsimp only at hSw); go_simp); (try with_reducible rfl)
             try simp only [Act.put, zS]
             refine wpAnyH_take (i := 17) (oi := ⟨some 310, .indexAddr 23 (.tmp 9) (.tmp 309), 0, "law.go:525", #[⟨16, .data⟩, ⟨12, .guard⟩], some (12, true)⟩) (v := ?_) rfl (by kernel_rfl) (by kernel_rfl) (by kernel_rfl) (fun _ _ _ h => h) (Or.inl ⟨by rfl, ?_⟩) (by assumption) ?_
             rotate_left
             ·(intro w hSw; (try dsimp only at hSw); go_simp); (try with_reducible rfl)
             try simp only [Act.put, zS]
             refine wpAnyH_take (i := 18) (oi := ⟨some 311, .load 3 (.tmp 310), 3, "law.go:525", #[⟨17, .data⟩, ⟨12, .guard⟩], some (12, true)⟩) (v := ?_) rfl (by kernel_rfl) (by kernel_rfl) (by kernel_rfl) (fun _ _ _ h => h) (Or.inl ⟨by rfl, ?_⟩) (by assumption) ?_
             rotate_left
             ·(intro w hSw; (try dsimp only at hSw); go_simp); (try with_reducible rfl)
             try simp only [Act.put, zS]
             refine wpAnyH_take (i := 19) (oi := ⟨some 312, .binOp .eql 3 (.tmp 308) (.tmp 311) 3, 4, "law.go:525", #[⟨15, .data⟩, ⟨18, .data⟩, ⟨12, .guard⟩], some (12, true)⟩) (v := ?_) rfl (by kernel_rfl) (by kernel_rfl) (by kernel_rfl) (fun _ _ _ h => h) (Or.inl ⟨by rfl, ?_⟩) (by assumption) ?_
             rotate_left
             ·(intro w hSw; (try dsimp only at hSw); go_simp); (try with_reducible rfl)
             try simp only [Act.put, zS]
             refine wpAnyH_take (i := 20) (oi := ⟨some 313, .pick (.tmp 305) (.tmp 312) (.const (.bool false)), 4, "law.go:525", #[⟨12, .data⟩, ⟨19, .data⟩], none⟩) (v := ?_) rfl (by kernel_rfl) (by kernel_rfl) (by kernel_rfl) (fun _ _ _ h => h) (Or.inl ⟨by rfl, ?_⟩) (by assumption) ?_
             rotate_left
             ·(intro w hSw; (try dsimp only at hSw); go_simp); (try with_reducible rfl)
             try simp only [Act.put, zS]
             refine wpAnyH_take (i := 21) (oi := ⟨some 314, .move (.tmp 313), 4, "law.go:525", #[⟨20, .data⟩, ⟨12, .chain⟩], none⟩) (v := ?_) rfl (by kernel_rfl) (by kernel_rfl) (by kernel_rfl) (fun _ _ _ h => h) (Or.inl ⟨by rfl, ?_⟩) (by assumption) ?_
             rotate_left
             ·(intro w hSw; (try dsimp only at hSw); go_simp); (try with_reducible rfl)
             try simp only [Act.put, zS]
             refine wpAnyH_take (i := 22) (oi := ⟨some 315, .move (.tmp 33), 32, "law.go:525", #[⟨21, .guard⟩], some (21, true)⟩) (v := ?_) rfl (by kernel_rfl) (by kernel_rfl) (by kernel_rfl) (fun _ _ _ h => h) (Or.inl ⟨by rfl, ?_⟩) (by assumption) ?_
             rotate_left
             ·(intro w hSw; (try dsimp only at hSw); go_simp); (try with_reducible rfl)
             try simp only [Act.put, zS]
             refine wpAnyH_take (i := 24) (oi := ⟨some 317, .move (.tmp 11), 32, "law.go:525", #[⟨21, .guard⟩], some (21, true)⟩) (v := ?_) rfl (by kernel_rfl) (by kernel_rfl) (by kernel_rfl) (fun _ _ _ h => h) (Or.inl ⟨by rfl, ?_⟩) (by assumption) ?_
             rotate_left
             ·(intro w hSw; (try dsimp only at hSw); go_simp); (try with_reducible rfl)
             try simp only [Act.put, zS]
             refine wpAnyH_ready (rs := [23]) (by kernel_rfl) (by simp) ?_
             refine (AllReadyH.cons (o := ⟨some 316, .call ⟨.value (.func 13), #[.tmp 315], #[32]⟩, 22, "law.go:525", #[⟨22, .data⟩, ⟨21, .chain⟩, ⟨21, .guard⟩], some (21, true)⟩) rfl (fun K hK => ?_) AllReadyH.nil)
             go_simp
             refine (TT.out u33 wzd h33).mono ?_
             rintro e wz23 ⟨⟨ua, rfl, hua⟩, hl⟩
             replace hua : Prs _ _ yl := hua.rw pV_len
             (try go_wp2_with fail)
             have hbz23 := bthen hbzd hl
             have h33 := h33.carry hl
             have h11 := h11.carry hl
             clear hl
             refine hK.out _ _ ⟨cellb cnf hbz23, cellb cns hbz23, cellb csf hbz23⟩ (fun hHeld1 => ?_)
             clear hK K hHeld0
             try simp only [Act.put, zS]
             refine wpAnyH_ready (rs := [25]) (by kernel_rfl) (by simp) ?_
             refine (AllReadyH.cons (o := ⟨some 318, .call ⟨.value (.func 13), #[.tmp 317], #[32]⟩, 22, "law.go:525", #[⟨24, .data⟩, ⟨23, .chain⟩, ⟨21, .guard⟩], some (21, true)⟩) rfl (fun K hK => ?_) AllReadyH.nil)
             go_simp
             refine (TT.out u11 wz23 h11).mono ?_
             rintro e wz25 ⟨⟨ub, rfl, hub⟩, hl⟩
             replace hub : Prs _ _ yl := hub.rw pV_len
             (try go_wp2_with fail)
             have hbz25 := bthen hbz23 hl
             have h33 := h33.carry hl
             have h11 := h11.carry hl
             have hua := hua.carry hl
             clear hl
             refine hK.out _ _ ⟨cellb cnf hbz25, cellb cns hbz25, cellb csf hbz25⟩ (fun hHeld2 => ?_)
             clear hK K hHeld1
             try simp only [Act.put, zS]
             refine wpAnyH_ready (rs := [26]) (by kernel_rfl) (by simp) ?_
             refine (AllReadyH.cons (o := ⟨some 319, .call ⟨.value (.func 18), #[.tmp 316, .tmp 318], #[22, 22]⟩, 4, "law.go:525", #[⟨23, .data⟩, ⟨25, .data⟩, ⟨25, .chain⟩, ⟨21, .guard⟩], some (21, true)⟩) rfl (fun K hK => ?_) AllReadyH.nil)
             go_simp
             refine (SM.out ua ub wz25 hua hub).mono ?_
             rintro e wz26 ⟨rfl, hl⟩
             (try go_wp2_with fail)
             have hbz26 := bthen hbz25 hl
             have h33 := h33.carry hl
             have h11 := h11.carry hl
             have hua := hua.carry hl
             have hub := hub.carry hl
             clear hl
             refine hK.out _ _ ⟨cellb cnf hbz26, cellb cns hbz26, cellb csf hbz26⟩ (fun hHeld3 => ?_)
             clear hK K hHeld2
             try simp only [Act.put, zS]
             refine wpAnyH_take (i := 27) (oi := ⟨some 320, .pick (.tmp 314) (.tmp 319) (.const (.bool false)), 4, "law.go:525", #[⟨21, .data⟩, ⟨26, .data⟩], none⟩) (v := ?_) rfl (by kernel_rfl) (by kernel_rfl) (by kernel_rfl) (fun _ _ _ h => h) (Or.inl ⟨by rfl, ?_⟩) (by assumption) ?_
             rotate_left
             ·(intro w hSw; (try dsimp only at hSw); go_simp); (try with_reducible rfl)
             try simp only [Act.put, zS]
             refine wpAnyH_take (i := 28) (oi := ⟨some 6, .assign (.tmp 320), 4, "law.go:525", #[⟨27, .data⟩, ⟨26, .chain⟩, ⟨0, .phase⟩, ⟨1, .phase⟩, ⟨2, .phase⟩, ⟨3, .phase⟩, ⟨4, .phase⟩, ⟨5, .phase⟩, ⟨6, .phase⟩, ⟨7, .phase⟩, ⟨8, .phase⟩, ⟨9, .phase⟩, ⟨10, .phase⟩, ⟨11, .phase⟩, ⟨12, .phase⟩, ⟨13, .phase⟩, ⟨14, .phase⟩, ⟨15, .phase⟩, ⟨16, .phase⟩, ⟨17, .phase⟩, ⟨18, .phase⟩, ⟨19, .phase⟩, ⟨20, .phase⟩, ⟨21, .phase⟩, ⟨22, .phase⟩, ⟨23, .phase⟩, ⟨24, .phase⟩, ⟨25, .phase⟩, ⟨26, .phase⟩, ⟨27, .phase⟩], none⟩) (v := ?_) rfl (by kernel_rfl) (by kernel_rfl) (by kernel_rfl) (fun _ _ _ h => h) (Or.inl ⟨by rfl, ?_⟩) (by assumption) ?_
             rotate_left
             ·(intro w hSw; (try dsimp only at hSw); go_simp); (try with_reducible rfl)
             try simp only [Act.put, zS]
             refine wpAnyH_done (by kernel_rfl) ?_ _
             clear hHeld3
             have hb2 := hbz26
             have hbz := bthen hbw hb2
             go_wp2
             go_ret
             exact ⟨rfl, bthen K2.out (bthen HB.out hbz)⟩
    ·have z : (E2 != 0) = true := by rw [bne_iff_ne]; exact hE0
     clear hE0
     go_wp2_with fail
     refine (TA.out w3 (HP.out.carry (bthen K2.out hb)) (HH.out.carry (bthen K2.out hb))).mono ?_
     rintro e w4 ⟨rfl, hb2⟩
     go_wp2
     go_ret
     exact ⟨rfl, bthen K2.out (bthen hb hb2)⟩
   ·have z : (E1 != 0) = true := by rw [bne_iff_ne]; exact hE0
    clear hE0
    go_wp2_with fail
    refine (TA.out w2 (HP.out.carry (bthen K2.out hb)) (HH.out.carry (bthen K2.out hb))).mono ?_
    rintro e w4 ⟨rfl, hb2⟩
    go_wp2
    go_ret
    exact ⟨rfl, bthen K2.out (bthen hb hb2)⟩
end Go.Proofs.YtjcmohfpenfepaaGreatDoor

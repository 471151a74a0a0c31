/- The reference of chapter 7: Plan. -/
import Derived.Test.YtjcmohfpenfepaaGreatDoorVmE
namespace Go.Proofs.YtjcmohfpenfepaaGreatDoor
set_option linter.unusedSimpArgs false
set_option linter.unusedVariables false
open Go.RowKit
/-- q is the place of the best among the first k. -/
def PlB (os : List I3) (L : List (List Int)) (k q : Nat) : Prop := (k = 0 ∧ q = 0) ∨ betO os (L.take k) = L[q]?
theorem PlB.step {os : List I3} {L : List (List Int)} {k q : Nat} {x y : List Int} (h : PlB os L k q) (hx : L[k]? = some x) (hy : L[q]? = some y) : PlB os L (k + 1) (if costL os x < costL os y then k else q) := by
 have ht : L.take (k + 1) = L.take k ++ [x] := by rw [List.take_add_one, hx]; rfl
 refine .inr ?_
 rw [ht, betO_snoc]
 rcases h with ⟨rfl, rfl⟩ | h
 ·rw [hx] at hy
  cases hy
  rw [if_neg (by omega), hx]
  rfl
 ·rw [h, hy]
  simp only [betS]
  split
  ·exact hx.symm
  ·exact hy.symm
theorem PlB.all {os : List I3} {L : List (List Int)} {q : Nat} (h : PlB os L L.length q) (h0 : 0 < L.length) : betO os L = L[q]? := by
 rcases h with ⟨h, -⟩ | h
 ·omega
 ·rwa [List.take_length] at h
theorem PlanR_any_aux (os : List I3) (ms : List Mo) (hb : bothE ms os = 0) : (plansL ms os = [] → planE ms os = 18 ∧ planC ms os = 0 ∧ planR ms os = []) ∧ (∀ y, betO os (plansL ms os) = some y → planE ms os = 0 ∧ planC ms os = costL os y ∧ planR ms os = y) := by
 unfold planE planC planR planO
 rw [if_pos hb, if_pos hb, if_pos hb]
 refine ⟨fun h => ?_, fun y h => ?_⟩
 ·rw [h]; exact ⟨rfl, rfl, rfl⟩
 ·rw [h]; exact ⟨rfl, rfl, rfl⟩
set_option maxRecDepth 100000 in
set_option maxHeartbeats 8000000 in
theorem PlanR_any (vm vo : Value) (ms : List Mo) (os : List I3) (w : World) (hb : bothE ms os = 0) (hm : Rw 4 mV w vm ms) (ho : Rw 3 iV w vo os) :
 Calls Tryz.prog 33 #[vm, vo] w fun r w' => (∃ u, r = .returned (.tuple #[u, .int .i64 (planC ms os), .int .i64 (planE ms os)]) ∧ Ints w' u (planR ms os)) ∧ Below w.heap.size w w' := by
 have hml := (modsE_ok (bothE_ok hb).1).1
 have hmr : ∀ m ∈ ms, 1 ≤ m.2.2.2 ∧ m.2.2.2 ≤ 100 := fun m hm => ((modsE_ok (bothE_ok hb).1).2 m hm).2.2.2
 have hol := (outE_ok (bothE_ok hb).2).1
 have hor := (outE_ok (bothE_ok hb).2).2
 obtain ⟨hA, hB⟩ := PlanR_any_aux os ms hb
 have T1 := plansR_any vm vo ms os hml hol hmr ms.length [] (.slice none 0 0) w (by simp) (fun i k h => by simp at h) hm ho ⟨rfl, .inl ⟨rfl, rfl⟩⟩
 rw [show extL ms os ms.length [] = plansL ms os from rfl] at T1
 have hcnt : (plansL ms os).length ≤ 1679616 := Nat.le_trans (extL_cnt hol _ _) (Nat.le_trans (Nat.pow_le_pow_right (by decide) hml) (by decide))
 have hll : ∀ x ∈ plansL ms os, x.length ≤ 1000 := fun x hx => by have := (plansL_mem hx).2.1; omega
 have TC := Lib.hid (fun (x : List Int) (hx : x.length ≤ 1000) (v : Value) W ho hp => CostR_any vo v os x W ho hp (by omega) hx (fun o ho => (hor o ho).2.2))
 obtain ⟨L, hL⟩ : ∃ l, l = plansL ms os := ⟨_, rfl⟩
 rw [← hL] at hA hB T1 hll hcnt
 obtain ⟨E, hE⟩ : ∃ e, e = planE ms os := ⟨_, rfl⟩
 obtain ⟨C, hC⟩ : ∃ e, e = planC ms os := ⟨_, rfl⟩
 obtain ⟨R, hR⟩ : ∃ e, e = planR ms os := ⟨_, rfl⟩
 rw [← hE, ← hC, ← hR] at hA hB ⊢
 have HA := Lib.hid hA
 have HBB := Lib.hid hB
 have HLL := Lib.hid hll
 have HO := Lib.hid ho
 obtain ⟨ma, mc, rfl, -⟩ := hm.slice
 obtain ⟨oa, oc, rfl, -⟩ := ho.slice
 obtain ⟨NM, hNM⟩ : ∃ N, N = ms.length := ⟨_, rfl⟩
 obtain ⟨NO, hNO⟩ : ∃ N, N = os.length := ⟨_, rfl⟩
 rw [← hNM, ← hNO] at T1 ⊢
 rw [← hNO] at TC HO
 clear hm ho hNM hNO hE hC hR hA hB hll hL hb hml hmr hol hor
 go_enter Tryz.func33, Tryz.ntmps33
 go_wp2_with fail
 refine T1.mono ?_
 rintro e W1 ⟨⟨u, rfl, vs, q1, q2, q3⟩, hb1⟩
 clear T1
 obtain ⟨N, hN⟩ : ∃ N, N = L.length := ⟨_, rfl⟩
 rw [← hN] at q1 q2 hcnt
 have HN := Lib.hid hN
 have Q3 := Lib.hid q3
 clear q3 hN
 by_cases h0 : N = 0
 ·subst h0
  obtain ⟨ua, uc, rfl⟩ := own_slice q1
  have z0 : ((((0 : Nat) : Int)) == 0) = true := rfl
  obtain ⟨rfl, rfl, rfl⟩ := HA.out (List.length_eq_zero_iff.1 HN.out.symm)
  clear q1 q2 HA HBB
  go_wp2
  go_ret3
  exact ⟨⟨_, rfl, Ints.nil _⟩, hb1⟩
 ·obtain ⟨g, ucap, cur, rfl, -⟩ : ∃ g cap cur, u = .slice (some ⟨g, 0, none⟩) N cap ∧ W1.heap[g]? = some (.cells cur 41 (0, 0)) := by
   rcases q1.2 with ⟨-, h⟩ | ⟨g, cap, cur, h, -, h2, -⟩
   ·exact absurd h h0
   ·exact ⟨g, cap, cur, h, h2⟩
  have hnp : 0 < N := by omega
  have z0 : ((N : Int) == 0) = false := by rw [beq_eq_false_iff_ne]; omega
  have hcell := World.ownsRow.cells q1 rfl
  have HRow := Lib.hid (show ∀ (k : Nat) (x : List Int) (W : World), L[k]? = some x → Below W1.heap.size W1 W → ∃ v, W.cell? ⟨g, k, none⟩ = some v ∧ Ints W v x from fun k x W hx hbW => by
   obtain ⟨v, hv⟩ : ∃ v, vs[k]? = some v := ⟨_, List.getElem?_eq_getElem (by rw [q2, HN.out]; exact (List.getElem?_eq_some_iff.1 hx).1)⟩
   have h1 := hcell k v hv
   rw [addr_add, Nat.zero_add] at h1
   exact ⟨v, cellb h1 hbW, ((Q3.out k v x hv hx).carry hbW).ints⟩)
  have HB1 := Lib.hid hb1
  clear hcell q1 q2 Q3 HA hb1
  go_wp2_with fail
  go_loopw [8, 9] (fun b i wr => ∃ k q : Nat, k ≤ N ∧ q < N ∧ i = .int .i64 k ∧ b = .int .i64 q ∧ PlB os L k q ∧ Below W1.heap.size W1 wr) (fun _ i _ => N - (intOf i).toNat)
  case atStart => exact ⟨0, 0, by omega, hnp, rfl, rfl, .inl ⟨rfl, rfl⟩, Below.refl _ _⟩
  case round =>
   obtain ⟨k, q, hk, hq, rfl, rfl, hP, hbel⟩ := hrel
   obtain ⟨y, hy⟩ : ∃ x, L[q]? = some x := ⟨_, List.getElem?_eq_getElem (by rw [← HN.out]; exact hq)⟩
   have hdq : (q : Int) < (N : Int) := by omega
   obtain ⟨vy, cy, iy⟩ := HRow.out q y wr hy hbel
   have hly := HLL.out y (List.mem_of_getElem? hy)
   have TY := Lib.hid (fun W => TC.out y hly vy W)
   have hO := HO.out.carry (bthen HB1.out hbel)
   by_cases hlt : k < N
   ·have hdk : (k : Int) < (N : Int) := by omega
    obtain ⟨x, hx⟩ : ∃ x, L[k]? = some x := ⟨_, List.getElem?_eq_getElem (by rw [← HN.out]; exact hlt)⟩
    obtain ⟨vx, cx, ix⟩ := HRow.out k x wr hx hbel
    have hlx := HLL.out x (List.mem_of_getElem? hx)
    have TX := Lib.hid (fun W => TC.out x hlx vx W)
    have HP := Lib.hid (hP.step hx hy)
    clear hlx hly hx hy hP
    obtain ⟨cX, hcX⟩ : ∃ c, c = costL os x := ⟨_, rfl⟩
    obtain ⟨cY, hcY⟩ : ∃ c, c = costL os y := ⟨_, rfl⟩
    rw [← hcX] at TX HP
    rw [← hcY] at TY HP
    clear hcX hcY
    go_upto_region 8 with fail
    refine wp_region_E 99 (by kernel_rfl) ?_
    obtain ⟨wz, hwz⟩ : ∃ v, v = wr.drew := ⟨_, rfl⟩
    rw [← hwz]
    have hlz : Below wr.heap.size wr wz := by rw [hwz]; exact (Below.refl _ _).drew
    have hbz := bthen (Below.refl _ _) hlz
    have cx := cellb cx hlz
    have cy := cellb cy hlz
    have hO := hO.carry hlz
    have ix := ix.carry hlz
    have iy := iy.carry hlz
    clear hwz hlz
    refine zV 0 ⟨some 22, .move (.tmp 1), 49, "ref.go:554", #[], none⟩ rfl ?_
    simp only [Act.put, zS]
    refine zV 1 ⟨some 23, .move (.tmp 7), 168, "ref.go:554", #[], none⟩ rfl ?_
    simp only [Act.put, zS]
    refine zV 2 ⟨some 24, .move (.tmp 9), 3, "ref.go:554", #[], none⟩ rfl ?_
    simp only [Act.put, zS]
    refine zV 3 ⟨some 25, .indexAddr 168 (.tmp 23) (.tmp 24), 0, "ref.go:554", #[⟨1, .data⟩, ⟨2, .data⟩], none⟩ rfl ?_
    simp only [Act.put, zS]
    refine zV 4 ⟨some 26, .load 41 (.tmp 25), 41, "ref.go:554", #[⟨3, .data⟩], none⟩ rfl ?_ (hv := fun w hE => by have cx := cellb cx hE; have cy := cellb cy hE; (try dsimp only); go_simp; try rfl)
    simp only [Act.put, zS]
    refine zV 6 ⟨some 28, .move (.tmp 1), 49, "ref.go:554", #[], none⟩ rfl ?_
    simp only [Act.put, zS]
    refine zV 7 ⟨some 29, .move (.tmp 7), 168, "ref.go:554", #[], none⟩ rfl ?_
    simp only [Act.put, zS]
    refine zV 8 ⟨some 30, .move (.tmp 8), 3, "ref.go:554", #[], none⟩ rfl ?_
    simp only [Act.put, zS]
    refine zV 9 ⟨some 31, .indexAddr 168 (.tmp 29) (.tmp 30), 0, "ref.go:554", #[⟨7, .data⟩, ⟨8, .data⟩], none⟩ rfl ?_
    simp only [Act.put, zS]
    refine zV 10 ⟨some 32, .load 41 (.tmp 31), 41, "ref.go:554", #[⟨9, .data⟩], none⟩ rfl ?_ (hv := fun w hE => by have cx := cellb cx hE; have cy := cellb cy hE; (try dsimp only); go_simp; try rfl)
    simp only [Act.put, zS]
    refine zB 5 ⟨some 27, .call ⟨.value (.func 38), #[.tmp 22, .tmp 26], #[49, 41]⟩, 3, "ref.go:554", #[⟨0, .data⟩, ⟨4, .data⟩], none⟩ (fun w hE => ofPure (TX.out w (hO.carry hE) (ix.carry hE))) rfl ?_
    simp only [Act.put, zS]
    refine zB 11 ⟨some 33, .call ⟨.value (.func 38), #[.tmp 28, .tmp 32], #[49, 41]⟩, 3, "ref.go:554", #[⟨6, .data⟩, ⟨10, .data⟩, ⟨5, .chain⟩], none⟩ (fun w hE => ofPure (TY.out w (hO.carry hE) (iy.carry hE))) rfl ?_
    simp only [Act.put, zS]
    refine zV 12 ⟨some 34, .binOp .lss 3 (.tmp 27) (.tmp 33) 3, 4, "ref.go:554", #[⟨5, .data⟩, ⟨11, .data⟩], none⟩ rfl ?_
    simp only [Act.put, zS]
    refine wpAnyE_done (by kernel_rfl) (fun wy1 hE => ?_) _
    have hbz1 := bthen hbz hE
    have cx := cellb cx hE
    have cy := cellb cy hE
    have hO := hO.carry hE
    have ix := ix.carry hE
    have iy := iy.carry hE
    clear hE
    have hb2 := hbz1
    obtain ⟨W9, hW9⟩ : ∃ v, v = wy1 := ⟨_, rfl⟩
    rw [← hW9] at hb2 ⊢
    clear hW9
    clear cx cy hO ix iy TX TY
    have hb9 := bthen hbel hb2
    clear hbel hb2
    by_cases hc : cX < cY
    ·have e0 : decide (cX < cY) = true := decide_eq_true hc
     have h9 := HP.out
     rw [if_pos hc] at h9
     have H9 := Lib.hid h9
     clear h9 HP
     go_wp2
     go_roundw
     case rel => exact ⟨k + 1, k, by omega, hlt, by go_num, rfl, H9.out, hb9⟩
     case measure => simp [intOf]; omega
    ·have e0 : decide (cX < cY) = false := decide_eq_false hc
     have h9 := HP.out
     rw [if_neg hc] at h9
     have H9 := Lib.hid h9
     clear h9 HP
     go_wp2
     go_roundw
     case rel => exact ⟨k + 1, q, by omega, hq, by go_num, rfl, H9.out, hb9⟩
     case measure => simp [intOf]; omega
   ·obtain rfl : k = N := by omega
    have hdk : ¬ (k : Int) < (k : Int) := by omega
    have hall := PlB.all (by rw [← HN.out]; exact hP) (by rw [← HN.out]; exact hnp)
    rw [hy] at hall
    obtain ⟨rfl, hCC, rfl⟩ := HBB.out y hall
    rw [← hCC] at TY
    clear hP hall hy hly hCC HBB
    go_upto_region 10 with fail
    refine wp_region_E 99 (by kernel_rfl) ?_
    obtain ⟨wz, hwz⟩ : ∃ v, v = wr.drew := ⟨_, rfl⟩
    rw [← hwz]
    have hlz : Below wr.heap.size wr wz := by rw [hwz]; exact (Below.refl _ _).drew
    have hbz := bthen (Below.refl _ _) hlz
    have cy := cellb cy hlz
    have hO := hO.carry hlz
    have iy := iy.carry hlz
    clear hwz hlz
    refine zV 0 ⟨some 36, .move (.tmp 7), 168, "ref.go:558", #[], none⟩ rfl ?_
    simp only [Act.put, zS]
    refine zV 1 ⟨some 37, .move (.tmp 8), 3, "ref.go:558", #[], none⟩ rfl ?_
    simp only [Act.put, zS]
    refine zV 2 ⟨some 38, .indexAddr 168 (.tmp 36) (.tmp 37), 0, "ref.go:558", #[⟨0, .data⟩, ⟨1, .data⟩], none⟩ rfl ?_
    simp only [Act.put, zS]
    refine zV 3 ⟨some 39, .load 41 (.tmp 38), 41, "ref.go:558", #[⟨2, .data⟩], none⟩ rfl ?_ (hv := fun w hE => by have cy := cellb cy hE; (try dsimp only); go_simp; try rfl)
    simp only [Act.put, zS]
    refine zV 4 ⟨some 40, .move (.tmp 1), 49, "ref.go:558", #[], none⟩ rfl ?_
    simp only [Act.put, zS]
    refine zV 5 ⟨some 41, .move (.tmp 7), 168, "ref.go:558", #[], none⟩ rfl ?_
    simp only [Act.put, zS]
    refine zV 6 ⟨some 42, .move (.tmp 8), 3, "ref.go:558", #[], none⟩ rfl ?_
    simp only [Act.put, zS]
    refine zV 7 ⟨some 43, .indexAddr 168 (.tmp 41) (.tmp 42), 0, "ref.go:558", #[⟨5, .data⟩, ⟨6, .data⟩], none⟩ rfl ?_
    simp only [Act.put, zS]
    refine zV 8 ⟨some 44, .load 41 (.tmp 43), 41, "ref.go:558", #[⟨7, .data⟩], none⟩ rfl ?_ (hv := fun w hE => by have cy := cellb cy hE; (try dsimp only); go_simp; try rfl)
    simp only [Act.put, zS]
    refine zB 9 ⟨some 45, .call ⟨.value (.func 38), #[.tmp 40, .tmp 44], #[49, 41]⟩, 3, "ref.go:558", #[⟨4, .data⟩, ⟨8, .data⟩], none⟩ (fun w hE => ofPure (TY.out w (hO.carry hE) (iy.carry hE))) rfl ?_
    simp only [Act.put, zS]
    refine zV 10 ⟨some 4, .assign (.tmp 39), 41, "ref.go:558", #[⟨3, .data⟩, ⟨9, .chain⟩, ⟨0, .phase⟩, ⟨1, .phase⟩, ⟨2, .phase⟩, ⟨3, .phase⟩, { on := 4, ground := Ground.textOnly Departure.lateStores }, { on := 5, ground := Ground.textOnly Departure.lateStores }, { on := 6, ground := Ground.textOnly Departure.lateStores }, { on := 7, ground := Ground.textOnly Departure.lateStores }, { on := 8, ground := Ground.textOnly Departure.lateStores }, { on := 9, ground := Ground.textOnly Departure.lateStoresUnsure }], none⟩ rfl ?_
    simp only [Act.put, zS]
    refine zV 11 ⟨some 5, .assign (.tmp 45), 3, "ref.go:558", #[⟨9, .data⟩, ⟨10, .chain⟩, ⟨0, .phase⟩, ⟨1, .phase⟩, ⟨2, .phase⟩, ⟨3, .phase⟩, ⟨4, .phase⟩, ⟨5, .phase⟩, ⟨6, .phase⟩, ⟨7, .phase⟩, ⟨8, .phase⟩, ⟨9, .phase⟩, ⟨10, .phase⟩], none⟩ rfl ?_
    simp only [Act.put, zS]
    refine zV 12 ⟨some 6, .assign (.const (.int .i64 0)), 3, "ref.go:558", #[⟨11, .chain⟩, ⟨0, .phase⟩, ⟨1, .phase⟩, ⟨2, .phase⟩, ⟨3, .phase⟩, ⟨4, .phase⟩, ⟨5, .phase⟩, ⟨6, .phase⟩, ⟨7, .phase⟩, ⟨8, .phase⟩, ⟨9, .phase⟩, ⟨10, .phase⟩, ⟨11, .phase⟩], none⟩ rfl ?_
    simp only [Act.put, zS]
    refine wpAnyE_done (by kernel_rfl) (fun wy1 hE => ?_) _
    have hbz1 := bthen hbz hE
    have cy := cellb cy hE
    have hO := hO.carry hE
    have iy := iy.carry hE
    clear hE
    have hb2 := hbz1
    obtain ⟨W9, hW9⟩ : ∃ v, v = wy1 := ⟨_, rfl⟩
    rw [← hW9] at hb2 iy ⊢
    clear hW9
    have hb9 := bthen HB1.out (bthen hbel hb2)
    clear hbel hb2 cy hO
    go_wp2
    go_ret3
    exact ⟨⟨_, rfl, iy⟩, hb9⟩
end Go.Proofs.YtjcmohfpenfepaaGreatDoor

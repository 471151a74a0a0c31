/- The package phasor: the blocks of a stream. -/
import Derived.Test.YtjmdnolmaofbiaaDoorThmC
import Derived.Laws.CopyRow
import Derived.Stop.RegionWithIn
namespace Go.Proofs.YtjmdnolmaofbiaaDoor
set_option linter.unusedSimpArgs false
set_option linter.unusedVariables false
open Go.RowKit

theorem wpListIn_load {F : Fence} {n : Nat} {P : Program} {w : World} {ops : Array Oper} {rest : List Oper} {o : Oper} {a : Act} {Q : Exit → Act → World → Prop} (hg : o.guard = none) (t : TypeId) (x : Operand) (hop : o.op = Op.load t x) {v : Value}
    (hrun : (Instr.loadAt t (a.eval x)).run P w = .ok v w) (hK : wpListIn F n P ops Q rest (a.put o.dst v) w) : wpListIn F n P ops Q (o :: rest) a w := by
  refine wpListIn_plain hg fun K' hK' => ?_
  unfold Oper.wpIn
  refine ⟨by simp [Oper.about, hop], ?_⟩
  rw [Oper.semAt_plain F _ _ (by rw [hop]; intro c hc'; cases hc')]
  simp [execOp, hop, hrun, Result.andThen]
  exact hK' _ _ hK
theorem wpIn_copyR {F : Fence} {n : Nat} {P : Program} {w : World} {o : Oper} {a : Act} {K : Act → World → Prop} {Q : Exit → Act → World → Prop} (d s : Operand) (dT sT : TypeId)
    (ho : o.op = .call { callee := .builtin .copy, args := #[d, s], argTypes := #[dT, sT] }) (elem : TypeId) (hu : P.underlying dT = some (.slice elem)) (hsz : (P.info? elem).map (·.size) = some 1)
    (g o' dLen dCap : Nat) (ad : Addr) (sLen sCap : Nat) (hd : a.eval d = .slice (some ⟨g, o', none⟩) dLen dCap) (hs : a.eval s = .slice (some ad) sLen sCap)
    (vs : List Value) (t : TypeId) (hg : Blk w g t vs) (cs : List Value) (hn : cs.length = Nat.min sLen dLen) (hfit : o' + cs.length ≤ vs.length)
    (hsrc : ∀ j v, cs[j]? = some v → w.cell? (ad.add j) = some v) (h1 : ∀ v ∈ cs, v.oneCell' = true)
    (h : K (a.put o.dst (goInt cs.length)) (w.setRow g (vs.take o' ++ cs ++ vs.drop (o' + cs.length)).toArray)) : o.wpIn F n P a w K Q := by
  have hrun := run_copy_row (P := P) w dT sT o.type elem g o' dLen dCap ad sLen sCap vs.toArray t cs hu hsz hg hn hsrc (by simpa using hfit) h1
  obtain ⟨Wn, hWn⟩ : ∃ v, v = w.setRow g (vs.toArray.toList.take o' ++ cs ++ vs.toArray.toList.drop (o' + cs.length)).toArray := ⟨_, rfl⟩
  rw [← hWn] at hrun
  have h' : K (a.put o.dst (goInt cs.length)) Wn := by rw [hWn]; exact h
  unfold Oper.wpIn
  refine ⟨by simp [Oper.about, ho, resolve, Target.leads, Sem.run_pure], ?_⟩
  rw [Oper.semAt_plain F _ _ (by rw [ho]; intro c hc'; cases hc')]
  simp [execOp, ho, resolve, invoke, builtin, hd, hs, hrun, Result.andThen]
  exact h'
def blkAt (cs : List Int) (k : Nat) : List Int := (List.range 16).map fun j => cs[16 * k + j]?.getD 0
theorem blkAt_len (cs : List Int) (k : Nat) : (blkAt cs k).length = 16 := by simp [blkAt]
/-- two blocks stand. -/
def KpB (b c : Nat) (A B : World) : Prop := B.heap[b]? = A.heap[b]? ∧ B.heap[c]? = A.heap[c]?
theorem KpB.refl (b c : Nat) (A : World) : KpB b c A A := ⟨rfl, rfl⟩
theorem KpB.trans {b c : Nat} {A B C : World} (h : KpB b c A B) (k : KpB b c B C) : KpB b c A C := ⟨k.1.trans h.1, k.2.trans h.2⟩
theorem grownD {A B : World} (h : Below A.heap.size A B) : A.grownBy B none := ⟨h.os, h.tape, h.output, h.size, fun k hk _ => h.block k hk⟩
theorem Tryd.sizeU8 : (Tryd.prog.info? 5).map (·.size) = some 1 := by kernel_rfl
theorem blocks_any (ad : Option Addr) (n c : Nat) (w : World) : Calls Tryd.prog 20 #[.slice ad n c] w fun e w' => e = .returned (.func (.func 33) #[] #[.pointer (some ⟨w.heap.size, 0, none⟩)]) ∧ w.alloc (.cells #[.slice ad n c] 28) = w' := by
  go_enter Tryd.func20, Tryd.ntmps20
  go_wp2
  go_ret
  exact ⟨rfl, rfl⟩
set_option maxRecDepth 100000 in
set_option maxHeartbeats 4000000 in
theorem blocks1_in (m : Nat) (hm : 1 ≤ m) (l bx bc off cap N : Nat) (ad : Option Addr) (cs : List Int) (J Jx : List (Nat × List Int) → World → Prop)
    (hcs : cs.length = 16 * N) (hN : N ≤ 1024) (hcap : 16 * N ≤ cap) (had : 0 < N → ad = some ⟨bc, off, none⟩)
    (hY : ∀ pre x W, J pre W → (x.1 = pre.length ∧ x.2 = blkAt cs pre.length ∧ pre.length < N) → YieldAt Fence.wide (m - 1) Tryd.prog l #[.int .i64 (x.1 : Int), .agg (ua x.2)] W fun e W' =>
      (e = .returned (.bool true) ∧ J (pre ++ [x]) W' ∧ KpB bc bx W W') ∨ (e = .returned (.bool false) ∧ Jx (pre ++ [x]) W'))
    (hJ : ∀ pre A B, J pre A → A.grownBy B none → J pre B)
    (W : World) (iX : Blk W bx 28 [.slice ad (16 * N) cap]) (hc : ∀ j, j < 16 * N → W.cell? ⟨bc, off + j, none⟩ = some (.int .u8 (cs[j]?.getD 0))) (h00 : J [] W) :
    CallsIn Fence.wide m Tryd.prog 33 #[.func (.yield l) #[] #[], .pointer (some ⟨bx, 0, none⟩)] W fun e W' => (∃ v, e = .returned v) ∧
      ((∃ ys, ys.length = N ∧ J ys W') ∨ (∃ pre, Jx pre W')) := by
  refine callsIn_of_wp Tryd.func33 rfl trivial ?_ rfl
  simp only [Tryd.ntmps33, List.size_toArray, List.length_cons, List.length_nil, Nat.reduceAdd, Nat.reduceSub, Array.replicate_succ, Array.replicate_zero, List.push_toArray, List.append_toArray, List.nil_append, List.cons_append]
  have hwf : ∀ f, Fence.wide.fn f := fun _ => trivial
  have HY := Lib.hid hY
  have HJ := Lib.hid hJ
  have HC := Lib.hid hc
  have x0 := iX.cell (j := 0) (v := .slice ad (16 * N) cap) rfl
  have hq : Int.tdiv ((16 * N : Nat) : Int) 16 = (N : Int) := by
    rw [Int.tdiv_eq_ediv_of_nonneg (by omega)]; omega
  clear hY hJ hc
  gi_wp2_with fail
  gi_loopw [8] (fun i wr => ∃ (k : Nat) (pre : List (Nat × List Int)), k ≤ N ∧ i = .int .i64 (k : Int) ∧ pre.length = k ∧ J pre wr ∧ KpB bc bx W wr)
    (fun r _ => match r with | .int _ n => (1024 - n).toNat | _ => 0)
  case atStart => exact ⟨0, [], Nat.zero_le _, rfl, rfl, h00, KpB.refl _ _ _⟩
  case round =>
    obtain ⟨k, pre, hk, rfl, hpre, hj, hkp⟩ := hrel
    by_cases hkn : k = N
    · subst hkn
      have hn : ¬ (k : Int) < (k : Int) := by omega
      gi_wp2
      go_end0
      exact ⟨⟨_, rfl⟩, .inl ⟨pre, hpre, hj⟩⟩
    · have hlt : (k : Int) < (N : Int) := by omega
      obtain rfl := had (by omega)
      have iX1 : Blk wr bx 28 [.slice (some ⟨bc, off, none⟩) (16 * N) cap] := hkp.2.trans iX
      have hc1 : ∀ j, j < 16 * N → wr.cell? ⟨bc, off + j, none⟩ = some (.int .u8 (cs[j]?.getD 0)) := fun j hj => (World.cell?_of_block hkp.1).trans (HC.out j hj)
      have hbx : bx < wr.heap.size := Blk.lt iX1
      have hbc : bc < wr.heap.size := lt_of_cellSome (hc1 0 (by omega))
      clear x0
      gi_wp2_with fail
      obtain ⟨W1, hW1⟩ : ∃ v, v = World.alloc wr (Obj.cells #[.int .u8 0, .int .u8 0, .int .u8 0, .int .u8 0, .int .u8 0, .int .u8 0, .int .u8 0, .int .u8 0, .int .u8 0, .int .u8 0, .int .u8 0, .int .u8 0, .int .u8 0, .int .u8 0, .int .u8 0, .int .u8 0] 43) := ⟨_, rfl⟩
      have kW1 : Below wr.heap.size wr W1 := by rw [hW1]; exact below_new _ _
      have iW1 : Blk W1 (wr.heap.size) 43 [.int .u8 0, .int .u8 0, .int .u8 0, .int .u8 0, .int .u8 0, .int .u8 0, .int .u8 0, .int .u8 0, .int .u8 0, .int .u8 0, .int .u8 0, .int .u8 0, .int .u8 0, .int .u8 0, .int .u8 0, .int .u8 0] := by rw [hW1]; exact Blk.new _ _ _
      have sW1 : W1.heap.size = wr.heap.size + 1 := by rw [hW1]; simp
      rw [← hW1]
      clear hW1
      have kd : Below wr.heap.size wr W1.drew := kW1.drew
      have i4 : Blk W1.drew wr.heap.size 43 [.int .u8 0, .int .u8 0, .int .u8 0, .int .u8 0, .int .u8 0, .int .u8 0, .int .u8 0, .int .u8 0, .int .u8 0, .int .u8 0, .int .u8 0, .int .u8 0, .int .u8 0, .int .u8 0, .int .u8 0, .int .u8 0] := iW1
      have x0 := (Blk.carry iX1 kd).cell (j := 0) (v := .slice (some ⟨bc, off, none⟩) (16 * N) cap) rfl
      have hsrc : ∀ j v, ((blkAt cs k).map (Value.int .u8))[j]? = some v → (W1.drew).cell? ((⟨bc, off + 16 * k, none⟩ : Addr).add j) = some v := fun j v hj => by
        have hlt : j < 16 := by have := (List.getElem?_eq_some_iff.1 hj).1; rw [List.length_map, blkAt_len] at this; exact this
        rw [addr_add, Nat.add_assoc]
        have h9 := cellb (hc1 (16 * k + j) (by omega)) kd
        rw [h9]
        rw [List.getElem?_map] at hj
        unfold blkAt at hj
        rw [List.getElem?_map, List.getElem?_range hlt] at hj
        exact hj
      have HSR := Lib.hid hsrc
      have hone : ∀ v ∈ (blkAt cs k).map (Value.int .u8), v.oneCell' = true := fun v hv => by
        obtain ⟨n, _, rfl⟩ := List.mem_map.1 hv
        rfl
      have HON := Lib.hid hone
      have hbl : ((blkAt cs k).map (Value.int .u8)).length = 16 := by rw [List.length_map, blkAt_len]
      have HBL := Lib.hid hbl
      have HMN := Lib.hid (show ((blkAt cs k).map (Value.int .u8)).length = Nat.min (16 * N - 16 * k) 16 by rw [hbl]; exact (Nat.min_eq_right (by omega)).symm)
      have hw1 : IntKind.i64.wrap ((k : Int) * 16) = 16 * (k : Int) := (IntWalk.i64_in _ (by omega)).trans (by omega)
      have hq1 : 0 ≤ 16 * (k : Int) := by omega
      have hq2 : (16 * (k : Int)).toNat = 16 * k := by omega
      have hq3 : 16 * (k : Int) ≤ 16 * (N : Int) := by omega
      have hq4 : 16 * k ≤ 16 * N := by omega
      have hq5 : ¬ cap = 16 * k := by omega
      have hq6 : (16 * (k : Int)) ≤ (cap : Int) := by omega
      clear hsrc hone hbl sW1
      have HEQ := Lib.hid (show (List.take 0 [Value.int .u8 0, Value.int .u8 0, Value.int .u8 0, Value.int .u8 0, Value.int .u8 0, Value.int .u8 0, Value.int .u8 0, Value.int .u8 0, Value.int .u8 0, Value.int .u8 0, Value.int .u8 0, Value.int .u8 0, Value.int .u8 0, Value.int .u8 0, Value.int .u8 0, Value.int .u8 0] ++ (blkAt cs k).map (Value.int .u8) ++ List.drop (0 + ((blkAt cs k).map (Value.int .u8)).length) [Value.int .u8 0, Value.int .u8 0, Value.int .u8 0, Value.int .u8 0, Value.int .u8 0, Value.int .u8 0, Value.int .u8 0, Value.int .u8 0, Value.int .u8 0, Value.int .u8 0, Value.int .u8 0, Value.int .u8 0, Value.int .u8 0, Value.int .u8 0, Value.int .u8 0, Value.int .u8 0]).toArray = ua (blkAt cs k) by rw [HBL.out]; simp [ua])
      refine wpIn_region_any (by kernel_rfl) ?_
      (try (change wpAnyIn _ _ _ _ _ _ _ _ _ (World.drew _)))
      refine wpAnyIn_ready (rs := [0, 1, 2]) (by kernel_rfl) (by simp) (AllReadyIn.cons rfl (fun K hK => ?_) (AllReadyIn.cons rfl (fun K hK => ?_) (AllReadyIn.cons rfl (fun K hK => ?_) AllReadyIn.nil)))
      · go_simp; refine hK _ _ ?_; clear hK K; try simp only [Act.put, List.setIfInBounds_toArray, List.set_cons_zero, List.set_cons_succ]
        refine wpAnyIn_ready (rs := [1, 2]) (by kernel_rfl) (by simp) (AllReadyIn.cons rfl (fun K hK => ?_) (AllReadyIn.cons rfl (fun K hK => ?_) AllReadyIn.nil))
        · go_simp; refine hK _ _ ?_; clear hK K; try simp only [Act.put, List.setIfInBounds_toArray, List.set_cons_zero, List.set_cons_succ]
          refine wpAnyIn_ready (rs := [2]) (by kernel_rfl) (by simp) (AllReadyIn.cons rfl (fun K hK => ?_) AllReadyIn.nil)
          go_simp; refine hK _ _ ?_; clear hK K; try simp only [Act.put, List.setIfInBounds_toArray, List.set_cons_zero, List.set_cons_succ]
          refine wpAnyIn_ready (rs := [3]) (by kernel_rfl) (by simp) (AllReadyIn.cons rfl (fun K hK => ?_) AllReadyIn.nil)
          go_simp; refine hK _ _ ?_; clear hK K; try simp only [Act.put, List.setIfInBounds_toArray, List.set_cons_zero, List.set_cons_succ]
          refine wpAnyIn_ready (rs := [4]) (by kernel_rfl) (by simp) (AllReadyIn.cons rfl (fun K hK => ?_) AllReadyIn.nil)
          go_simp; refine hK _ _ ?_; clear hK K; try simp only [Act.put, List.setIfInBounds_toArray, List.set_cons_zero, List.set_cons_succ]
          refine wpAnyIn_ready (rs := [5]) (by kernel_rfl) (by simp) (AllReadyIn.cons rfl (fun K hK => ?_) AllReadyIn.nil)
          rw [if_pos (by rfl)]; refine wpIn_copyR _ _ _ _ rfl 5 Tryd.underlying28 Tryd.sizeU8 wr.heap.size 0 16 16 ⟨bc, off + 16 * k, none⟩ (16 * N - 16 * k) (cap - 16 * k) rfl rfl _ 43 i4 ((blkAt cs k).map (Value.int .u8)) HMN.out (by rw [HBL.out]; simp) HSR.out HON.out ?_; refine hK _ _ ?_; clear hK K; try simp only [Act.put, List.setIfInBounds_toArray, List.set_cons_zero, List.set_cons_succ]
          refine wpAnyIn_done (by kernel_rfl) ?_ _
          rw [HEQ.out]
          obtain ⟨Y, hY⟩ : ∃ v, v = (World.drew W1).setRow wr.heap.size (ua (blkAt cs k)) := ⟨_, rfl⟩
          rw [← hY]
          have bY : BlkU Y wr.heap.size 43 (blkAt cs k) := by rw [hY]; exact setRow_heap (World.drew W1) wr.heap.size _ _ _ (0, 0) i4
          have kY : Below wr.heap.size wr Y := by rw [hY]; exact below_rowA kd (Nat.le_refl _) _
          have hjY := HJ.out pre wr Y hj (grownD kY)
          have hkY : KpB bc bx W Y := hkp.trans ⟨kY.block bc hbc, kY.block bx hbx⟩
          have hld := load16 (blkAt_len cs k) bY
          obtain ⟨fn, tmps, assign, body, hy, hR⟩ := HY.out pre (k, blkAt cs k) Y hjY ⟨hpre.symm, by rw [hpre], by omega⟩
          simp only at hy
          clear hY i4 iX1 hc1 x0 hq1 hq2 hq3 hq4 hq5 hq6 HSR HON HMN HEQ bY kW1 iW1 kd
          gi_wp2_with (refine wpListIn_load rfl _ _ rfl hld ?_)
          refine hR.mono ?_
          rintro e W3 (⟨rfl, hj3, hk3⟩ | ⟨rfl, hjx⟩)
          · (clear hR hy hld; gi_wp2; go_roundw; (case rel => exact ⟨k + 1, pre ++ [(k, blkAt cs k)], by omega, by go_num, by rw [List.length_append, hpre]; rfl, hj3, hkY.trans hk3⟩); (case measure => simp [intOf]; omega))
          · (clear hR hy hld; gi_wp2; refine bodyPost_ret (results_none rfl _ _ _) rfl ?_; exact ⟨⟨_, rfl⟩, .inr ⟨_, hjx⟩⟩)
        · go_simp; refine hK _ _ ?_; clear hK K; try simp only [Act.put, List.setIfInBounds_toArray, List.set_cons_zero, List.set_cons_succ]
          refine wpAnyIn_ready (rs := [1, 3]) (by kernel_rfl) (by simp) (AllReadyIn.cons rfl (fun K hK => ?_) (AllReadyIn.cons rfl (fun K hK => ?_) AllReadyIn.nil))
          · go_simp; refine hK _ _ ?_; clear hK K; try simp only [Act.put, List.setIfInBounds_toArray, List.set_cons_zero, List.set_cons_succ]
            refine wpAnyIn_ready (rs := [3]) (by kernel_rfl) (by simp) (AllReadyIn.cons rfl (fun K hK => ?_) AllReadyIn.nil)
            go_simp; refine hK _ _ ?_; clear hK K; try simp only [Act.put, List.setIfInBounds_toArray, List.set_cons_zero, List.set_cons_succ]
            refine wpAnyIn_ready (rs := [4]) (by kernel_rfl) (by simp) (AllReadyIn.cons rfl (fun K hK => ?_) AllReadyIn.nil)
            go_simp; refine hK _ _ ?_; clear hK K; try simp only [Act.put, List.setIfInBounds_toArray, List.set_cons_zero, List.set_cons_succ]
            refine wpAnyIn_ready (rs := [5]) (by kernel_rfl) (by simp) (AllReadyIn.cons rfl (fun K hK => ?_) AllReadyIn.nil)
            rw [if_pos (by rfl)]; refine wpIn_copyR _ _ _ _ rfl 5 Tryd.underlying28 Tryd.sizeU8 wr.heap.size 0 16 16 ⟨bc, off + 16 * k, none⟩ (16 * N - 16 * k) (cap - 16 * k) rfl rfl _ 43 i4 ((blkAt cs k).map (Value.int .u8)) HMN.out (by rw [HBL.out]; simp) HSR.out HON.out ?_; refine hK _ _ ?_; clear hK K; try simp only [Act.put, List.setIfInBounds_toArray, List.set_cons_zero, List.set_cons_succ]
            refine wpAnyIn_done (by kernel_rfl) ?_ _
            rw [HEQ.out]
            obtain ⟨Y, hY⟩ : ∃ v, v = (World.drew W1).setRow wr.heap.size (ua (blkAt cs k)) := ⟨_, rfl⟩
            rw [← hY]
            have bY : BlkU Y wr.heap.size 43 (blkAt cs k) := by rw [hY]; exact setRow_heap (World.drew W1) wr.heap.size _ _ _ (0, 0) i4
            have kY : Below wr.heap.size wr Y := by rw [hY]; exact below_rowA kd (Nat.le_refl _) _
            have hjY := HJ.out pre wr Y hj (grownD kY)
            have hkY : KpB bc bx W Y := hkp.trans ⟨kY.block bc hbc, kY.block bx hbx⟩
            have hld := load16 (blkAt_len cs k) bY
            obtain ⟨fn, tmps, assign, body, hy, hR⟩ := HY.out pre (k, blkAt cs k) Y hjY ⟨hpre.symm, by rw [hpre], by omega⟩
            simp only at hy
            clear hY i4 iX1 hc1 x0 hq1 hq2 hq3 hq4 hq5 hq6 HSR HON HMN HEQ bY kW1 iW1 kd
            gi_wp2_with (refine wpListIn_load rfl _ _ rfl hld ?_)
            refine hR.mono ?_
            rintro e W3 (⟨rfl, hj3, hk3⟩ | ⟨rfl, hjx⟩)
            · (clear hR hy hld; gi_wp2; go_roundw; (case rel => exact ⟨k + 1, pre ++ [(k, blkAt cs k)], by omega, by go_num, by rw [List.length_append, hpre]; rfl, hj3, hkY.trans hk3⟩); (case measure => simp [intOf]; omega))
            · (clear hR hy hld; gi_wp2; refine bodyPost_ret (results_none rfl _ _ _) rfl ?_; exact ⟨⟨_, rfl⟩, .inr ⟨_, hjx⟩⟩)
          · go_simp; refine hK _ _ ?_; clear hK K; try simp only [Act.put, List.setIfInBounds_toArray, List.set_cons_zero, List.set_cons_succ]
            refine wpAnyIn_ready (rs := [1]) (by kernel_rfl) (by simp) (AllReadyIn.cons rfl (fun K hK => ?_) AllReadyIn.nil)
            go_simp; refine hK _ _ ?_; clear hK K; try simp only [Act.put, List.setIfInBounds_toArray, List.set_cons_zero, List.set_cons_succ]
            refine wpAnyIn_ready (rs := [4]) (by kernel_rfl) (by simp) (AllReadyIn.cons rfl (fun K hK => ?_) AllReadyIn.nil)
            go_simp; refine hK _ _ ?_; clear hK K; try simp only [Act.put, List.setIfInBounds_toArray, List.set_cons_zero, List.set_cons_succ]
            refine wpAnyIn_ready (rs := [5]) (by kernel_rfl) (by simp) (AllReadyIn.cons rfl (fun K hK => ?_) AllReadyIn.nil)
            rw [if_pos (by rfl)]; refine wpIn_copyR _ _ _ _ rfl 5 Tryd.underlying28 Tryd.sizeU8 wr.heap.size 0 16 16 ⟨bc, off + 16 * k, none⟩ (16 * N - 16 * k) (cap - 16 * k) rfl rfl _ 43 i4 ((blkAt cs k).map (Value.int .u8)) HMN.out (by rw [HBL.out]; simp) HSR.out HON.out ?_; refine hK _ _ ?_; clear hK K; try simp only [Act.put, List.setIfInBounds_toArray, List.set_cons_zero, List.set_cons_succ]
            refine wpAnyIn_done (by kernel_rfl) ?_ _
            rw [HEQ.out]
            obtain ⟨Y, hY⟩ : ∃ v, v = (World.drew W1).setRow wr.heap.size (ua (blkAt cs k)) := ⟨_, rfl⟩
            rw [← hY]
            have bY : BlkU Y wr.heap.size 43 (blkAt cs k) := by rw [hY]; exact setRow_heap (World.drew W1) wr.heap.size _ _ _ (0, 0) i4
            have kY : Below wr.heap.size wr Y := by rw [hY]; exact below_rowA kd (Nat.le_refl _) _
            have hjY := HJ.out pre wr Y hj (grownD kY)
            have hkY : KpB bc bx W Y := hkp.trans ⟨kY.block bc hbc, kY.block bx hbx⟩
            have hld := load16 (blkAt_len cs k) bY
            obtain ⟨fn, tmps, assign, body, hy, hR⟩ := HY.out pre (k, blkAt cs k) Y hjY ⟨hpre.symm, by rw [hpre], by omega⟩
            simp only at hy
            clear hY i4 iX1 hc1 x0 hq1 hq2 hq3 hq4 hq5 hq6 HSR HON HMN HEQ bY kW1 iW1 kd
            gi_wp2_with (refine wpListIn_load rfl _ _ rfl hld ?_)
            refine hR.mono ?_
            rintro e W3 (⟨rfl, hj3, hk3⟩ | ⟨rfl, hjx⟩)
            · (clear hR hy hld; gi_wp2; go_roundw; (case rel => exact ⟨k + 1, pre ++ [(k, blkAt cs k)], by omega, by go_num, by rw [List.length_append, hpre]; rfl, hj3, hkY.trans hk3⟩); (case measure => simp [intOf]; omega))
            · (clear hR hy hld; gi_wp2; refine bodyPost_ret (results_none rfl _ _ _) rfl ?_; exact ⟨⟨_, rfl⟩, .inr ⟨_, hjx⟩⟩)
      · go_simp; refine hK _ _ ?_; clear hK K; try simp only [Act.put, List.setIfInBounds_toArray, List.set_cons_zero, List.set_cons_succ]
        refine wpAnyIn_ready (rs := [0, 2]) (by kernel_rfl) (by simp) (AllReadyIn.cons rfl (fun K hK => ?_) (AllReadyIn.cons rfl (fun K hK => ?_) AllReadyIn.nil))
        · go_simp; refine hK _ _ ?_; clear hK K; try simp only [Act.put, List.setIfInBounds_toArray, List.set_cons_zero, List.set_cons_succ]
          refine wpAnyIn_ready (rs := [2]) (by kernel_rfl) (by simp) (AllReadyIn.cons rfl (fun K hK => ?_) AllReadyIn.nil)
          go_simp; refine hK _ _ ?_; clear hK K; try simp only [Act.put, List.setIfInBounds_toArray, List.set_cons_zero, List.set_cons_succ]
          refine wpAnyIn_ready (rs := [3]) (by kernel_rfl) (by simp) (AllReadyIn.cons rfl (fun K hK => ?_) AllReadyIn.nil)
          go_simp; refine hK _ _ ?_; clear hK K; try simp only [Act.put, List.setIfInBounds_toArray, List.set_cons_zero, List.set_cons_succ]
          refine wpAnyIn_ready (rs := [4]) (by kernel_rfl) (by simp) (AllReadyIn.cons rfl (fun K hK => ?_) AllReadyIn.nil)
          go_simp; refine hK _ _ ?_; clear hK K; try simp only [Act.put, List.setIfInBounds_toArray, List.set_cons_zero, List.set_cons_succ]
          refine wpAnyIn_ready (rs := [5]) (by kernel_rfl) (by simp) (AllReadyIn.cons rfl (fun K hK => ?_) AllReadyIn.nil)
          rw [if_pos (by rfl)]; refine wpIn_copyR _ _ _ _ rfl 5 Tryd.underlying28 Tryd.sizeU8 wr.heap.size 0 16 16 ⟨bc, off + 16 * k, none⟩ (16 * N - 16 * k) (cap - 16 * k) rfl rfl _ 43 i4 ((blkAt cs k).map (Value.int .u8)) HMN.out (by rw [HBL.out]; simp) HSR.out HON.out ?_; refine hK _ _ ?_; clear hK K; try simp only [Act.put, List.setIfInBounds_toArray, List.set_cons_zero, List.set_cons_succ]
          refine wpAnyIn_done (by kernel_rfl) ?_ _
          rw [HEQ.out]
          obtain ⟨Y, hY⟩ : ∃ v, v = (World.drew W1).setRow wr.heap.size (ua (blkAt cs k)) := ⟨_, rfl⟩
          rw [← hY]
          have bY : BlkU Y wr.heap.size 43 (blkAt cs k) := by rw [hY]; exact setRow_heap (World.drew W1) wr.heap.size _ _ _ (0, 0) i4
          have kY : Below wr.heap.size wr Y := by rw [hY]; exact below_rowA kd (Nat.le_refl _) _
          have hjY := HJ.out pre wr Y hj (grownD kY)
          have hkY : KpB bc bx W Y := hkp.trans ⟨kY.block bc hbc, kY.block bx hbx⟩
          have hld := load16 (blkAt_len cs k) bY
          obtain ⟨fn, tmps, assign, body, hy, hR⟩ := HY.out pre (k, blkAt cs k) Y hjY ⟨hpre.symm, by rw [hpre], by omega⟩
          simp only at hy
          clear hY i4 iX1 hc1 x0 hq1 hq2 hq3 hq4 hq5 hq6 HSR HON HMN HEQ bY kW1 iW1 kd
          gi_wp2_with (refine wpListIn_load rfl _ _ rfl hld ?_)
          refine hR.mono ?_
          rintro e W3 (⟨rfl, hj3, hk3⟩ | ⟨rfl, hjx⟩)
          · (clear hR hy hld; gi_wp2; go_roundw; (case rel => exact ⟨k + 1, pre ++ [(k, blkAt cs k)], by omega, by go_num, by rw [List.length_append, hpre]; rfl, hj3, hkY.trans hk3⟩); (case measure => simp [intOf]; omega))
          · (clear hR hy hld; gi_wp2; refine bodyPost_ret (results_none rfl _ _ _) rfl ?_; exact ⟨⟨_, rfl⟩, .inr ⟨_, hjx⟩⟩)
        · go_simp; refine hK _ _ ?_; clear hK K; try simp only [Act.put, List.setIfInBounds_toArray, List.set_cons_zero, List.set_cons_succ]
          refine wpAnyIn_ready (rs := [0, 3]) (by kernel_rfl) (by simp) (AllReadyIn.cons rfl (fun K hK => ?_) (AllReadyIn.cons rfl (fun K hK => ?_) AllReadyIn.nil))
          · go_simp; refine hK _ _ ?_; clear hK K; try simp only [Act.put, List.setIfInBounds_toArray, List.set_cons_zero, List.set_cons_succ]
            refine wpAnyIn_ready (rs := [3]) (by kernel_rfl) (by simp) (AllReadyIn.cons rfl (fun K hK => ?_) AllReadyIn.nil)
            go_simp; refine hK _ _ ?_; clear hK K; try simp only [Act.put, List.setIfInBounds_toArray, List.set_cons_zero, List.set_cons_succ]
            refine wpAnyIn_ready (rs := [4]) (by kernel_rfl) (by simp) (AllReadyIn.cons rfl (fun K hK => ?_) AllReadyIn.nil)
            go_simp; refine hK _ _ ?_; clear hK K; try simp only [Act.put, List.setIfInBounds_toArray, List.set_cons_zero, List.set_cons_succ]
            refine wpAnyIn_ready (rs := [5]) (by kernel_rfl) (by simp) (AllReadyIn.cons rfl (fun K hK => ?_) AllReadyIn.nil)
            rw [if_pos (by rfl)]; refine wpIn_copyR _ _ _ _ rfl 5 Tryd.underlying28 Tryd.sizeU8 wr.heap.size 0 16 16 ⟨bc, off + 16 * k, none⟩ (16 * N - 16 * k) (cap - 16 * k) rfl rfl _ 43 i4 ((blkAt cs k).map (Value.int .u8)) HMN.out (by rw [HBL.out]; simp) HSR.out HON.out ?_; refine hK _ _ ?_; clear hK K; try simp only [Act.put, List.setIfInBounds_toArray, List.set_cons_zero, List.set_cons_succ]
            refine wpAnyIn_done (by kernel_rfl) ?_ _
            rw [HEQ.out]
            obtain ⟨Y, hY⟩ : ∃ v, v = (World.drew W1).setRow wr.heap.size (ua (blkAt cs k)) := ⟨_, rfl⟩
            rw [← hY]
            have bY : BlkU Y wr.heap.size 43 (blkAt cs k) := by rw [hY]; exact setRow_heap (World.drew W1) wr.heap.size _ _ _ (0, 0) i4
            have kY : Below wr.heap.size wr Y := by rw [hY]; exact below_rowA kd (Nat.le_refl _) _
            have hjY := HJ.out pre wr Y hj (grownD kY)
            have hkY : KpB bc bx W Y := hkp.trans ⟨kY.block bc hbc, kY.block bx hbx⟩
            have hld := load16 (blkAt_len cs k) bY
            obtain ⟨fn, tmps, assign, body, hy, hR⟩ := HY.out pre (k, blkAt cs k) Y hjY ⟨hpre.symm, by rw [hpre], by omega⟩
            simp only at hy
            clear hY i4 iX1 hc1 x0 hq1 hq2 hq3 hq4 hq5 hq6 HSR HON HMN HEQ bY kW1 iW1 kd
            gi_wp2_with (refine wpListIn_load rfl _ _ rfl hld ?_)
            refine hR.mono ?_
            rintro e W3 (⟨rfl, hj3, hk3⟩ | ⟨rfl, hjx⟩)
            · (clear hR hy hld; gi_wp2; go_roundw; (case rel => exact ⟨k + 1, pre ++ [(k, blkAt cs k)], by omega, by go_num, by rw [List.length_append, hpre]; rfl, hj3, hkY.trans hk3⟩); (case measure => simp [intOf]; omega))
            · (clear hR hy hld; gi_wp2; refine bodyPost_ret (results_none rfl _ _ _) rfl ?_; exact ⟨⟨_, rfl⟩, .inr ⟨_, hjx⟩⟩)
          · go_simp; refine hK _ _ ?_; clear hK K; try simp only [Act.put, List.setIfInBounds_toArray, List.set_cons_zero, List.set_cons_succ]
            refine wpAnyIn_ready (rs := [0, 4]) (by kernel_rfl) (by simp) (AllReadyIn.cons rfl (fun K hK => ?_) (AllReadyIn.cons rfl (fun K hK => ?_) AllReadyIn.nil))
            · go_simp; refine hK _ _ ?_; clear hK K; try simp only [Act.put, List.setIfInBounds_toArray, List.set_cons_zero, List.set_cons_succ]
              refine wpAnyIn_ready (rs := [4]) (by kernel_rfl) (by simp) (AllReadyIn.cons rfl (fun K hK => ?_) AllReadyIn.nil)
              go_simp; refine hK _ _ ?_; clear hK K; try simp only [Act.put, List.setIfInBounds_toArray, List.set_cons_zero, List.set_cons_succ]
              refine wpAnyIn_ready (rs := [5]) (by kernel_rfl) (by simp) (AllReadyIn.cons rfl (fun K hK => ?_) AllReadyIn.nil)
              rw [if_pos (by rfl)]; refine wpIn_copyR _ _ _ _ rfl 5 Tryd.underlying28 Tryd.sizeU8 wr.heap.size 0 16 16 ⟨bc, off + 16 * k, none⟩ (16 * N - 16 * k) (cap - 16 * k) rfl rfl _ 43 i4 ((blkAt cs k).map (Value.int .u8)) HMN.out (by rw [HBL.out]; simp) HSR.out HON.out ?_; refine hK _ _ ?_; clear hK K; try simp only [Act.put, List.setIfInBounds_toArray, List.set_cons_zero, List.set_cons_succ]
              refine wpAnyIn_done (by kernel_rfl) ?_ _
              rw [HEQ.out]
              obtain ⟨Y, hY⟩ : ∃ v, v = (World.drew W1).setRow wr.heap.size (ua (blkAt cs k)) := ⟨_, rfl⟩
              rw [← hY]
              have bY : BlkU Y wr.heap.size 43 (blkAt cs k) := by rw [hY]; exact setRow_heap (World.drew W1) wr.heap.size _ _ _ (0, 0) i4
              have kY : Below wr.heap.size wr Y := by rw [hY]; exact below_rowA kd (Nat.le_refl _) _
              have hjY := HJ.out pre wr Y hj (grownD kY)
              have hkY : KpB bc bx W Y := hkp.trans ⟨kY.block bc hbc, kY.block bx hbx⟩
              have hld := load16 (blkAt_len cs k) bY
              obtain ⟨fn, tmps, assign, body, hy, hR⟩ := HY.out pre (k, blkAt cs k) Y hjY ⟨hpre.symm, by rw [hpre], by omega⟩
              simp only at hy
              clear hY i4 iX1 hc1 x0 hq1 hq2 hq3 hq4 hq5 hq6 HSR HON HMN HEQ bY kW1 iW1 kd
              gi_wp2_with (refine wpListIn_load rfl _ _ rfl hld ?_)
              refine hR.mono ?_
              rintro e W3 (⟨rfl, hj3, hk3⟩ | ⟨rfl, hjx⟩)
              · (clear hR hy hld; gi_wp2; go_roundw; (case rel => exact ⟨k + 1, pre ++ [(k, blkAt cs k)], by omega, by go_num, by rw [List.length_append, hpre]; rfl, hj3, hkY.trans hk3⟩); (case measure => simp [intOf]; omega))
              · (clear hR hy hld; gi_wp2; refine bodyPost_ret (results_none rfl _ _ _) rfl ?_; exact ⟨⟨_, rfl⟩, .inr ⟨_, hjx⟩⟩)
            · go_simp; refine hK _ _ ?_; clear hK K; try simp only [Act.put, List.setIfInBounds_toArray, List.set_cons_zero, List.set_cons_succ]
              refine wpAnyIn_ready (rs := [0]) (by kernel_rfl) (by simp) (AllReadyIn.cons rfl (fun K hK => ?_) AllReadyIn.nil)
              go_simp; refine hK _ _ ?_; clear hK K; try simp only [Act.put, List.setIfInBounds_toArray, List.set_cons_zero, List.set_cons_succ]
              refine wpAnyIn_ready (rs := [5]) (by kernel_rfl) (by simp) (AllReadyIn.cons rfl (fun K hK => ?_) AllReadyIn.nil)
              rw [if_pos (by rfl)]; refine wpIn_copyR _ _ _ _ rfl 5 Tryd.underlying28 Tryd.sizeU8 wr.heap.size 0 16 16 ⟨bc, off + 16 * k, none⟩ (16 * N - 16 * k) (cap - 16 * k) rfl rfl _ 43 i4 ((blkAt cs k).map (Value.int .u8)) HMN.out (by rw [HBL.out]; simp) HSR.out HON.out ?_; refine hK _ _ ?_; clear hK K; try simp only [Act.put, List.setIfInBounds_toArray, List.set_cons_zero, List.set_cons_succ]
              refine wpAnyIn_done (by kernel_rfl) ?_ _
              rw [HEQ.out]
              obtain ⟨Y, hY⟩ : ∃ v, v = (World.drew W1).setRow wr.heap.size (ua (blkAt cs k)) := ⟨_, rfl⟩
              rw [← hY]
              have bY : BlkU Y wr.heap.size 43 (blkAt cs k) := by rw [hY]; exact setRow_heap (World.drew W1) wr.heap.size _ _ _ (0, 0) i4
              have kY : Below wr.heap.size wr Y := by rw [hY]; exact below_rowA kd (Nat.le_refl _) _
              have hjY := HJ.out pre wr Y hj (grownD kY)
              have hkY : KpB bc bx W Y := hkp.trans ⟨kY.block bc hbc, kY.block bx hbx⟩
              have hld := load16 (blkAt_len cs k) bY
              obtain ⟨fn, tmps, assign, body, hy, hR⟩ := HY.out pre (k, blkAt cs k) Y hjY ⟨hpre.symm, by rw [hpre], by omega⟩
              simp only at hy
              clear hY i4 iX1 hc1 x0 hq1 hq2 hq3 hq4 hq5 hq6 HSR HON HMN HEQ bY kW1 iW1 kd
              gi_wp2_with (refine wpListIn_load rfl _ _ rfl hld ?_)
              refine hR.mono ?_
              rintro e W3 (⟨rfl, hj3, hk3⟩ | ⟨rfl, hjx⟩)
              · (clear hR hy hld; gi_wp2; go_roundw; (case rel => exact ⟨k + 1, pre ++ [(k, blkAt cs k)], by omega, by go_num, by rw [List.length_append, hpre]; rfl, hj3, hkY.trans hk3⟩); (case measure => simp [intOf]; omega))
              · (clear hR hy hld; gi_wp2; refine bodyPost_ret (results_none rfl _ _ _) rfl ?_; exact ⟨⟨_, rfl⟩, .inr ⟨_, hjx⟩⟩)
      · go_simp; refine hK _ _ ?_; clear hK K; try simp only [Act.put, List.setIfInBounds_toArray, List.set_cons_zero, List.set_cons_succ]
        refine wpAnyIn_ready (rs := [0, 1, 3]) (by kernel_rfl) (by simp) (AllReadyIn.cons rfl (fun K hK => ?_) (AllReadyIn.cons rfl (fun K hK => ?_) (AllReadyIn.cons rfl (fun K hK => ?_) AllReadyIn.nil)))
        · go_simp; refine hK _ _ ?_; clear hK K; try simp only [Act.put, List.setIfInBounds_toArray, List.set_cons_zero, List.set_cons_succ]
          refine wpAnyIn_ready (rs := [1, 3]) (by kernel_rfl) (by simp) (AllReadyIn.cons rfl (fun K hK => ?_) (AllReadyIn.cons rfl (fun K hK => ?_) AllReadyIn.nil))
          · go_simp; refine hK _ _ ?_; clear hK K; try simp only [Act.put, List.setIfInBounds_toArray, List.set_cons_zero, List.set_cons_succ]
            refine wpAnyIn_ready (rs := [3]) (by kernel_rfl) (by simp) (AllReadyIn.cons rfl (fun K hK => ?_) AllReadyIn.nil)
            go_simp; refine hK _ _ ?_; clear hK K; try simp only [Act.put, List.setIfInBounds_toArray, List.set_cons_zero, List.set_cons_succ]
            refine wpAnyIn_ready (rs := [4]) (by kernel_rfl) (by simp) (AllReadyIn.cons rfl (fun K hK => ?_) AllReadyIn.nil)
            go_simp; refine hK _ _ ?_; clear hK K; try simp only [Act.put, List.setIfInBounds_toArray, List.set_cons_zero, List.set_cons_succ]
            refine wpAnyIn_ready (rs := [5]) (by kernel_rfl) (by simp) (AllReadyIn.cons rfl (fun K hK => ?_) AllReadyIn.nil)
            rw [if_pos (by rfl)]; refine wpIn_copyR _ _ _ _ rfl 5 Tryd.underlying28 Tryd.sizeU8 wr.heap.size 0 16 16 ⟨bc, off + 16 * k, none⟩ (16 * N - 16 * k) (cap - 16 * k) rfl rfl _ 43 i4 ((blkAt cs k).map (Value.int .u8)) HMN.out (by rw [HBL.out]; simp) HSR.out HON.out ?_; refine hK _ _ ?_; clear hK K; try simp only [Act.put, List.setIfInBounds_toArray, List.set_cons_zero, List.set_cons_succ]
            refine wpAnyIn_done (by kernel_rfl) ?_ _
            rw [HEQ.out]
            obtain ⟨Y, hY⟩ : ∃ v, v = (World.drew W1).setRow wr.heap.size (ua (blkAt cs k)) := ⟨_, rfl⟩
            rw [← hY]
            have bY : BlkU Y wr.heap.size 43 (blkAt cs k) := by rw [hY]; exact setRow_heap (World.drew W1) wr.heap.size _ _ _ (0, 0) i4
            have kY : Below wr.heap.size wr Y := by rw [hY]; exact below_rowA kd (Nat.le_refl _) _
            have hjY := HJ.out pre wr Y hj (grownD kY)
            have hkY : KpB bc bx W Y := hkp.trans ⟨kY.block bc hbc, kY.block bx hbx⟩
            have hld := load16 (blkAt_len cs k) bY
            obtain ⟨fn, tmps, assign, body, hy, hR⟩ := HY.out pre (k, blkAt cs k) Y hjY ⟨hpre.symm, by rw [hpre], by omega⟩
            simp only at hy
            clear hY i4 iX1 hc1 x0 hq1 hq2 hq3 hq4 hq5 hq6 HSR HON HMN HEQ bY kW1 iW1 kd
            gi_wp2_with (refine wpListIn_load rfl _ _ rfl hld ?_)
            refine hR.mono ?_
            rintro e W3 (⟨rfl, hj3, hk3⟩ | ⟨rfl, hjx⟩)
            · (clear hR hy hld; gi_wp2; go_roundw; (case rel => exact ⟨k + 1, pre ++ [(k, blkAt cs k)], by omega, by go_num, by rw [List.length_append, hpre]; rfl, hj3, hkY.trans hk3⟩); (case measure => simp [intOf]; omega))
            · (clear hR hy hld; gi_wp2; refine bodyPost_ret (results_none rfl _ _ _) rfl ?_; exact ⟨⟨_, rfl⟩, .inr ⟨_, hjx⟩⟩)
          · go_simp; refine hK _ _ ?_; clear hK K; try simp only [Act.put, List.setIfInBounds_toArray, List.set_cons_zero, List.set_cons_succ]
            refine wpAnyIn_ready (rs := [1]) (by kernel_rfl) (by simp) (AllReadyIn.cons rfl (fun K hK => ?_) AllReadyIn.nil)
            go_simp; refine hK _ _ ?_; clear hK K; try simp only [Act.put, List.setIfInBounds_toArray, List.set_cons_zero, List.set_cons_succ]
            refine wpAnyIn_ready (rs := [4]) (by kernel_rfl) (by simp) (AllReadyIn.cons rfl (fun K hK => ?_) AllReadyIn.nil)
            go_simp; refine hK _ _ ?_; clear hK K; try simp only [Act.put, List.setIfInBounds_toArray, List.set_cons_zero, List.set_cons_succ]
            refine wpAnyIn_ready (rs := [5]) (by kernel_rfl) (by simp) (AllReadyIn.cons rfl (fun K hK => ?_) AllReadyIn.nil)
            rw [if_pos (by rfl)]; refine wpIn_copyR _ _ _ _ rfl 5 Tryd.underlying28 Tryd.sizeU8 wr.heap.size 0 16 16 ⟨bc, off + 16 * k, none⟩ (16 * N - 16 * k) (cap - 16 * k) rfl rfl _ 43 i4 ((blkAt cs k).map (Value.int .u8)) HMN.out (by rw [HBL.out]; simp) HSR.out HON.out ?_; refine hK _ _ ?_; clear hK K; try simp only [Act.put, List.setIfInBounds_toArray, List.set_cons_zero, List.set_cons_succ]
            refine wpAnyIn_done (by kernel_rfl) ?_ _
            rw [HEQ.out]
            obtain ⟨Y, hY⟩ : ∃ v, v = (World.drew W1).setRow wr.heap.size (ua (blkAt cs k)) := ⟨_, rfl⟩
            rw [← hY]
            have bY : BlkU Y wr.heap.size 43 (blkAt cs k) := by rw [hY]; exact setRow_heap (World.drew W1) wr.heap.size _ _ _ (0, 0) i4
            have kY : Below wr.heap.size wr Y := by rw [hY]; exact below_rowA kd (Nat.le_refl _) _
            have hjY := HJ.out pre wr Y hj (grownD kY)
            have hkY : KpB bc bx W Y := hkp.trans ⟨kY.block bc hbc, kY.block bx hbx⟩
            have hld := load16 (blkAt_len cs k) bY
            obtain ⟨fn, tmps, assign, body, hy, hR⟩ := HY.out pre (k, blkAt cs k) Y hjY ⟨hpre.symm, by rw [hpre], by omega⟩
            simp only at hy
            clear hY i4 iX1 hc1 x0 hq1 hq2 hq3 hq4 hq5 hq6 HSR HON HMN HEQ bY kW1 iW1 kd
            gi_wp2_with (refine wpListIn_load rfl _ _ rfl hld ?_)
            refine hR.mono ?_
            rintro e W3 (⟨rfl, hj3, hk3⟩ | ⟨rfl, hjx⟩)
            · (clear hR hy hld; gi_wp2; go_roundw; (case rel => exact ⟨k + 1, pre ++ [(k, blkAt cs k)], by omega, by go_num, by rw [List.length_append, hpre]; rfl, hj3, hkY.trans hk3⟩); (case measure => simp [intOf]; omega))
            · (clear hR hy hld; gi_wp2; refine bodyPost_ret (results_none rfl _ _ _) rfl ?_; exact ⟨⟨_, rfl⟩, .inr ⟨_, hjx⟩⟩)
        · go_simp; refine hK _ _ ?_; clear hK K; try simp only [Act.put, List.setIfInBounds_toArray, List.set_cons_zero, List.set_cons_succ]
          refine wpAnyIn_ready (rs := [0, 3]) (by kernel_rfl) (by simp) (AllReadyIn.cons rfl (fun K hK => ?_) (AllReadyIn.cons rfl (fun K hK => ?_) AllReadyIn.nil))
          · go_simp; refine hK _ _ ?_; clear hK K; try simp only [Act.put, List.setIfInBounds_toArray, List.set_cons_zero, List.set_cons_succ]
            refine wpAnyIn_ready (rs := [3]) (by kernel_rfl) (by simp) (AllReadyIn.cons rfl (fun K hK => ?_) AllReadyIn.nil)
            go_simp; refine hK _ _ ?_; clear hK K; try simp only [Act.put, List.setIfInBounds_toArray, List.set_cons_zero, List.set_cons_succ]
            refine wpAnyIn_ready (rs := [4]) (by kernel_rfl) (by simp) (AllReadyIn.cons rfl (fun K hK => ?_) AllReadyIn.nil)
            go_simp; refine hK _ _ ?_; clear hK K; try simp only [Act.put, List.setIfInBounds_toArray, List.set_cons_zero, List.set_cons_succ]
            refine wpAnyIn_ready (rs := [5]) (by kernel_rfl) (by simp) (AllReadyIn.cons rfl (fun K hK => ?_) AllReadyIn.nil)
            rw [if_pos (by rfl)]; refine wpIn_copyR _ _ _ _ rfl 5 Tryd.underlying28 Tryd.sizeU8 wr.heap.size 0 16 16 ⟨bc, off + 16 * k, none⟩ (16 * N - 16 * k) (cap - 16 * k) rfl rfl _ 43 i4 ((blkAt cs k).map (Value.int .u8)) HMN.out (by rw [HBL.out]; simp) HSR.out HON.out ?_; refine hK _ _ ?_; clear hK K; try simp only [Act.put, List.setIfInBounds_toArray, List.set_cons_zero, List.set_cons_succ]
            refine wpAnyIn_done (by kernel_rfl) ?_ _
            rw [HEQ.out]
            obtain ⟨Y, hY⟩ : ∃ v, v = (World.drew W1).setRow wr.heap.size (ua (blkAt cs k)) := ⟨_, rfl⟩
            rw [← hY]
            have bY : BlkU Y wr.heap.size 43 (blkAt cs k) := by rw [hY]; exact setRow_heap (World.drew W1) wr.heap.size _ _ _ (0, 0) i4
            have kY : Below wr.heap.size wr Y := by rw [hY]; exact below_rowA kd (Nat.le_refl _) _
            have hjY := HJ.out pre wr Y hj (grownD kY)
            have hkY : KpB bc bx W Y := hkp.trans ⟨kY.block bc hbc, kY.block bx hbx⟩
            have hld := load16 (blkAt_len cs k) bY
            obtain ⟨fn, tmps, assign, body, hy, hR⟩ := HY.out pre (k, blkAt cs k) Y hjY ⟨hpre.symm, by rw [hpre], by omega⟩
            simp only at hy
            clear hY i4 iX1 hc1 x0 hq1 hq2 hq3 hq4 hq5 hq6 HSR HON HMN HEQ bY kW1 iW1 kd
            gi_wp2_with (refine wpListIn_load rfl _ _ rfl hld ?_)
            refine hR.mono ?_
            rintro e W3 (⟨rfl, hj3, hk3⟩ | ⟨rfl, hjx⟩)
            · (clear hR hy hld; gi_wp2; go_roundw; (case rel => exact ⟨k + 1, pre ++ [(k, blkAt cs k)], by omega, by go_num, by rw [List.length_append, hpre]; rfl, hj3, hkY.trans hk3⟩); (case measure => simp [intOf]; omega))
            · (clear hR hy hld; gi_wp2; refine bodyPost_ret (results_none rfl _ _ _) rfl ?_; exact ⟨⟨_, rfl⟩, .inr ⟨_, hjx⟩⟩)
          · go_simp; refine hK _ _ ?_; clear hK K; try simp only [Act.put, List.setIfInBounds_toArray, List.set_cons_zero, List.set_cons_succ]
            refine wpAnyIn_ready (rs := [0, 4]) (by kernel_rfl) (by simp) (AllReadyIn.cons rfl (fun K hK => ?_) (AllReadyIn.cons rfl (fun K hK => ?_) AllReadyIn.nil))
            · go_simp; refine hK _ _ ?_; clear hK K; try simp only [Act.put, List.setIfInBounds_toArray, List.set_cons_zero, List.set_cons_succ]
              refine wpAnyIn_ready (rs := [4]) (by kernel_rfl) (by simp) (AllReadyIn.cons rfl (fun K hK => ?_) AllReadyIn.nil)
              go_simp; refine hK _ _ ?_; clear hK K; try simp only [Act.put, List.setIfInBounds_toArray, List.set_cons_zero, List.set_cons_succ]
              refine wpAnyIn_ready (rs := [5]) (by kernel_rfl) (by simp) (AllReadyIn.cons rfl (fun K hK => ?_) AllReadyIn.nil)
              rw [if_pos (by rfl)]; refine wpIn_copyR _ _ _ _ rfl 5 Tryd.underlying28 Tryd.sizeU8 wr.heap.size 0 16 16 ⟨bc, off + 16 * k, none⟩ (16 * N - 16 * k) (cap - 16 * k) rfl rfl _ 43 i4 ((blkAt cs k).map (Value.int .u8)) HMN.out (by rw [HBL.out]; simp) HSR.out HON.out ?_; refine hK _ _ ?_; clear hK K; try simp only [Act.put, List.setIfInBounds_toArray, List.set_cons_zero, List.set_cons_succ]
              refine wpAnyIn_done (by kernel_rfl) ?_ _
              rw [HEQ.out]
              obtain ⟨Y, hY⟩ : ∃ v, v = (World.drew W1).setRow wr.heap.size (ua (blkAt cs k)) := ⟨_, rfl⟩
              rw [← hY]
              have bY : BlkU Y wr.heap.size 43 (blkAt cs k) := by rw [hY]; exact setRow_heap (World.drew W1) wr.heap.size _ _ _ (0, 0) i4
              have kY : Below wr.heap.size wr Y := by rw [hY]; exact below_rowA kd (Nat.le_refl _) _
              have hjY := HJ.out pre wr Y hj (grownD kY)
              have hkY : KpB bc bx W Y := hkp.trans ⟨kY.block bc hbc, kY.block bx hbx⟩
              have hld := load16 (blkAt_len cs k) bY
              obtain ⟨fn, tmps, assign, body, hy, hR⟩ := HY.out pre (k, blkAt cs k) Y hjY ⟨hpre.symm, by rw [hpre], by omega⟩
              simp only at hy
              clear hY i4 iX1 hc1 x0 hq1 hq2 hq3 hq4 hq5 hq6 HSR HON HMN HEQ bY kW1 iW1 kd
              gi_wp2_with (refine wpListIn_load rfl _ _ rfl hld ?_)
              refine hR.mono ?_
              rintro e W3 (⟨rfl, hj3, hk3⟩ | ⟨rfl, hjx⟩)
              · (clear hR hy hld; gi_wp2; go_roundw; (case rel => exact ⟨k + 1, pre ++ [(k, blkAt cs k)], by omega, by go_num, by rw [List.length_append, hpre]; rfl, hj3, hkY.trans hk3⟩); (case measure => simp [intOf]; omega))
              · (clear hR hy hld; gi_wp2; refine bodyPost_ret (results_none rfl _ _ _) rfl ?_; exact ⟨⟨_, rfl⟩, .inr ⟨_, hjx⟩⟩)
            · go_simp; refine hK _ _ ?_; clear hK K; try simp only [Act.put, List.setIfInBounds_toArray, List.set_cons_zero, List.set_cons_succ]
              refine wpAnyIn_ready (rs := [0]) (by kernel_rfl) (by simp) (AllReadyIn.cons rfl (fun K hK => ?_) AllReadyIn.nil)
              go_simp; refine hK _ _ ?_; clear hK K; try simp only [Act.put, List.setIfInBounds_toArray, List.set_cons_zero, List.set_cons_succ]
              refine wpAnyIn_ready (rs := [5]) (by kernel_rfl) (by simp) (AllReadyIn.cons rfl (fun K hK => ?_) AllReadyIn.nil)
              rw [if_pos (by rfl)]; refine wpIn_copyR _ _ _ _ rfl 5 Tryd.underlying28 Tryd.sizeU8 wr.heap.size 0 16 16 ⟨bc, off + 16 * k, none⟩ (16 * N - 16 * k) (cap - 16 * k) rfl rfl _ 43 i4 ((blkAt cs k).map (Value.int .u8)) HMN.out (by rw [HBL.out]; simp) HSR.out HON.out ?_; refine hK _ _ ?_; clear hK K; try simp only [Act.put, List.setIfInBounds_toArray, List.set_cons_zero, List.set_cons_succ]
              refine wpAnyIn_done (by kernel_rfl) ?_ _
              rw [HEQ.out]
              obtain ⟨Y, hY⟩ : ∃ v, v = (World.drew W1).setRow wr.heap.size (ua (blkAt cs k)) := ⟨_, rfl⟩
              rw [← hY]
              have bY : BlkU Y wr.heap.size 43 (blkAt cs k) := by rw [hY]; exact setRow_heap (World.drew W1) wr.heap.size _ _ _ (0, 0) i4
              have kY : Below wr.heap.size wr Y := by rw [hY]; exact below_rowA kd (Nat.le_refl _) _
              have hjY := HJ.out pre wr Y hj (grownD kY)
              have hkY : KpB bc bx W Y := hkp.trans ⟨kY.block bc hbc, kY.block bx hbx⟩
              have hld := load16 (blkAt_len cs k) bY
              obtain ⟨fn, tmps, assign, body, hy, hR⟩ := HY.out pre (k, blkAt cs k) Y hjY ⟨hpre.symm, by rw [hpre], by omega⟩
              simp only at hy
              clear hY i4 iX1 hc1 x0 hq1 hq2 hq3 hq4 hq5 hq6 HSR HON HMN HEQ bY kW1 iW1 kd
              gi_wp2_with (refine wpListIn_load rfl _ _ rfl hld ?_)
              refine hR.mono ?_
              rintro e W3 (⟨rfl, hj3, hk3⟩ | ⟨rfl, hjx⟩)
              · (clear hR hy hld; gi_wp2; go_roundw; (case rel => exact ⟨k + 1, pre ++ [(k, blkAt cs k)], by omega, by go_num, by rw [List.length_append, hpre]; rfl, hj3, hkY.trans hk3⟩); (case measure => simp [intOf]; omega))
              · (clear hR hy hld; gi_wp2; refine bodyPost_ret (results_none rfl _ _ _) rfl ?_; exact ⟨⟨_, rfl⟩, .inr ⟨_, hjx⟩⟩)
        · go_simp; refine hK _ _ ?_; clear hK K; try simp only [Act.put, List.setIfInBounds_toArray, List.set_cons_zero, List.set_cons_succ]
          refine wpAnyIn_ready (rs := [0, 1]) (by kernel_rfl) (by simp) (AllReadyIn.cons rfl (fun K hK => ?_) (AllReadyIn.cons rfl (fun K hK => ?_) AllReadyIn.nil))
          · go_simp; refine hK _ _ ?_; clear hK K; try simp only [Act.put, List.setIfInBounds_toArray, List.set_cons_zero, List.set_cons_succ]
            refine wpAnyIn_ready (rs := [1]) (by kernel_rfl) (by simp) (AllReadyIn.cons rfl (fun K hK => ?_) AllReadyIn.nil)
            go_simp; refine hK _ _ ?_; clear hK K; try simp only [Act.put, List.setIfInBounds_toArray, List.set_cons_zero, List.set_cons_succ]
            refine wpAnyIn_ready (rs := [4]) (by kernel_rfl) (by simp) (AllReadyIn.cons rfl (fun K hK => ?_) AllReadyIn.nil)
            go_simp; refine hK _ _ ?_; clear hK K; try simp only [Act.put, List.setIfInBounds_toArray, List.set_cons_zero, List.set_cons_succ]
            refine wpAnyIn_ready (rs := [5]) (by kernel_rfl) (by simp) (AllReadyIn.cons rfl (fun K hK => ?_) AllReadyIn.nil)
            rw [if_pos (by rfl)]; refine wpIn_copyR _ _ _ _ rfl 5 Tryd.underlying28 Tryd.sizeU8 wr.heap.size 0 16 16 ⟨bc, off + 16 * k, none⟩ (16 * N - 16 * k) (cap - 16 * k) rfl rfl _ 43 i4 ((blkAt cs k).map (Value.int .u8)) HMN.out (by rw [HBL.out]; simp) HSR.out HON.out ?_; refine hK _ _ ?_; clear hK K; try simp only [Act.put, List.setIfInBounds_toArray, List.set_cons_zero, List.set_cons_succ]
            refine wpAnyIn_done (by kernel_rfl) ?_ _
            rw [HEQ.out]
            obtain ⟨Y, hY⟩ : ∃ v, v = (World.drew W1).setRow wr.heap.size (ua (blkAt cs k)) := ⟨_, rfl⟩
            rw [← hY]
            have bY : BlkU Y wr.heap.size 43 (blkAt cs k) := by rw [hY]; exact setRow_heap (World.drew W1) wr.heap.size _ _ _ (0, 0) i4
            have kY : Below wr.heap.size wr Y := by rw [hY]; exact below_rowA kd (Nat.le_refl _) _
            have hjY := HJ.out pre wr Y hj (grownD kY)
            have hkY : KpB bc bx W Y := hkp.trans ⟨kY.block bc hbc, kY.block bx hbx⟩
            have hld := load16 (blkAt_len cs k) bY
            obtain ⟨fn, tmps, assign, body, hy, hR⟩ := HY.out pre (k, blkAt cs k) Y hjY ⟨hpre.symm, by rw [hpre], by omega⟩
            simp only at hy
            clear hY i4 iX1 hc1 x0 hq1 hq2 hq3 hq4 hq5 hq6 HSR HON HMN HEQ bY kW1 iW1 kd
            gi_wp2_with (refine wpListIn_load rfl _ _ rfl hld ?_)
            refine hR.mono ?_
            rintro e W3 (⟨rfl, hj3, hk3⟩ | ⟨rfl, hjx⟩)
            · (clear hR hy hld; gi_wp2; go_roundw; (case rel => exact ⟨k + 1, pre ++ [(k, blkAt cs k)], by omega, by go_num, by rw [List.length_append, hpre]; rfl, hj3, hkY.trans hk3⟩); (case measure => simp [intOf]; omega))
            · (clear hR hy hld; gi_wp2; refine bodyPost_ret (results_none rfl _ _ _) rfl ?_; exact ⟨⟨_, rfl⟩, .inr ⟨_, hjx⟩⟩)
          · go_simp; refine hK _ _ ?_; clear hK K; try simp only [Act.put, List.setIfInBounds_toArray, List.set_cons_zero, List.set_cons_succ]
            refine wpAnyIn_ready (rs := [0, 4]) (by kernel_rfl) (by simp) (AllReadyIn.cons rfl (fun K hK => ?_) (AllReadyIn.cons rfl (fun K hK => ?_) AllReadyIn.nil))
            · go_simp; refine hK _ _ ?_; clear hK K; try simp only [Act.put, List.setIfInBounds_toArray, List.set_cons_zero, List.set_cons_succ]
              refine wpAnyIn_ready (rs := [4]) (by kernel_rfl) (by simp) (AllReadyIn.cons rfl (fun K hK => ?_) AllReadyIn.nil)
              go_simp; refine hK _ _ ?_; clear hK K; try simp only [Act.put, List.setIfInBounds_toArray, List.set_cons_zero, List.set_cons_succ]
              refine wpAnyIn_ready (rs := [5]) (by kernel_rfl) (by simp) (AllReadyIn.cons rfl (fun K hK => ?_) AllReadyIn.nil)
              rw [if_pos (by rfl)]; refine wpIn_copyR _ _ _ _ rfl 5 Tryd.underlying28 Tryd.sizeU8 wr.heap.size 0 16 16 ⟨bc, off + 16 * k, none⟩ (16 * N - 16 * k) (cap - 16 * k) rfl rfl _ 43 i4 ((blkAt cs k).map (Value.int .u8)) HMN.out (by rw [HBL.out]; simp) HSR.out HON.out ?_; refine hK _ _ ?_; clear hK K; try simp only [Act.put, List.setIfInBounds_toArray, List.set_cons_zero, List.set_cons_succ]
              refine wpAnyIn_done (by kernel_rfl) ?_ _
              rw [HEQ.out]
              obtain ⟨Y, hY⟩ : ∃ v, v = (World.drew W1).setRow wr.heap.size (ua (blkAt cs k)) := ⟨_, rfl⟩
              rw [← hY]
              have bY : BlkU Y wr.heap.size 43 (blkAt cs k) := by rw [hY]; exact setRow_heap (World.drew W1) wr.heap.size _ _ _ (0, 0) i4
              have kY : Below wr.heap.size wr Y := by rw [hY]; exact below_rowA kd (Nat.le_refl _) _
              have hjY := HJ.out pre wr Y hj (grownD kY)
              have hkY : KpB bc bx W Y := hkp.trans ⟨kY.block bc hbc, kY.block bx hbx⟩
              have hld := load16 (blkAt_len cs k) bY
              obtain ⟨fn, tmps, assign, body, hy, hR⟩ := HY.out pre (k, blkAt cs k) Y hjY ⟨hpre.symm, by rw [hpre], by omega⟩
              simp only at hy
              clear hY i4 iX1 hc1 x0 hq1 hq2 hq3 hq4 hq5 hq6 HSR HON HMN HEQ bY kW1 iW1 kd
              gi_wp2_with (refine wpListIn_load rfl _ _ rfl hld ?_)
              refine hR.mono ?_
              rintro e W3 (⟨rfl, hj3, hk3⟩ | ⟨rfl, hjx⟩)
              · (clear hR hy hld; gi_wp2; go_roundw; (case rel => exact ⟨k + 1, pre ++ [(k, blkAt cs k)], by omega, by go_num, by rw [List.length_append, hpre]; rfl, hj3, hkY.trans hk3⟩); (case measure => simp [intOf]; omega))
              · (clear hR hy hld; gi_wp2; refine bodyPost_ret (results_none rfl _ _ _) rfl ?_; exact ⟨⟨_, rfl⟩, .inr ⟨_, hjx⟩⟩)
            · go_simp; refine hK _ _ ?_; clear hK K; try simp only [Act.put, List.setIfInBounds_toArray, List.set_cons_zero, List.set_cons_succ]
              refine wpAnyIn_ready (rs := [0]) (by kernel_rfl) (by simp) (AllReadyIn.cons rfl (fun K hK => ?_) AllReadyIn.nil)
              go_simp; refine hK _ _ ?_; clear hK K; try simp only [Act.put, List.setIfInBounds_toArray, List.set_cons_zero, List.set_cons_succ]
              refine wpAnyIn_ready (rs := [5]) (by kernel_rfl) (by simp) (AllReadyIn.cons rfl (fun K hK => ?_) AllReadyIn.nil)
              rw [if_pos (by rfl)]; refine wpIn_copyR _ _ _ _ rfl 5 Tryd.underlying28 Tryd.sizeU8 wr.heap.size 0 16 16 ⟨bc, off + 16 * k, none⟩ (16 * N - 16 * k) (cap - 16 * k) rfl rfl _ 43 i4 ((blkAt cs k).map (Value.int .u8)) HMN.out (by rw [HBL.out]; simp) HSR.out HON.out ?_; refine hK _ _ ?_; clear hK K; try simp only [Act.put, List.setIfInBounds_toArray, List.set_cons_zero, List.set_cons_succ]
              refine wpAnyIn_done (by kernel_rfl) ?_ _
              rw [HEQ.out]
              obtain ⟨Y, hY⟩ : ∃ v, v = (World.drew W1).setRow wr.heap.size (ua (blkAt cs k)) := ⟨_, rfl⟩
              rw [← hY]
              have bY : BlkU Y wr.heap.size 43 (blkAt cs k) := by rw [hY]; exact setRow_heap (World.drew W1) wr.heap.size _ _ _ (0, 0) i4
              have kY : Below wr.heap.size wr Y := by rw [hY]; exact below_rowA kd (Nat.le_refl _) _
              have hjY := HJ.out pre wr Y hj (grownD kY)
              have hkY : KpB bc bx W Y := hkp.trans ⟨kY.block bc hbc, kY.block bx hbx⟩
              have hld := load16 (blkAt_len cs k) bY
              obtain ⟨fn, tmps, assign, body, hy, hR⟩ := HY.out pre (k, blkAt cs k) Y hjY ⟨hpre.symm, by rw [hpre], by omega⟩
              simp only at hy
              clear hY i4 iX1 hc1 x0 hq1 hq2 hq3 hq4 hq5 hq6 HSR HON HMN HEQ bY kW1 iW1 kd
              gi_wp2_with (refine wpListIn_load rfl _ _ rfl hld ?_)
              refine hR.mono ?_
              rintro e W3 (⟨rfl, hj3, hk3⟩ | ⟨rfl, hjx⟩)
              · (clear hR hy hld; gi_wp2; go_roundw; (case rel => exact ⟨k + 1, pre ++ [(k, blkAt cs k)], by omega, by go_num, by rw [List.length_append, hpre]; rfl, hj3, hkY.trans hk3⟩); (case measure => simp [intOf]; omega))
              · (clear hR hy hld; gi_wp2; refine bodyPost_ret (results_none rfl _ _ _) rfl ?_; exact ⟨⟨_, rfl⟩, .inr ⟨_, hjx⟩⟩)

theorem blocks_seq (m : Nat) (hm : 1 ≤ m) (bx bc off cap N : Nat) (ad : Option Addr) (cs : List Int) (w : World) (hcs : cs.length = 16 * N) (hN : N ≤ 1024) (hcap : 16 * N ≤ cap) (had : 0 < N → ad = some ⟨bc, off, none⟩)
    (iX : Blk w bx 28 [.slice ad (16 * N) cap]) (hc : ∀ j, j < 16 * N → w.cell? ⟨bc, off + j, none⟩ = some (.int .u8 (cs[j]?.getD 0))) :
    SeqX Fence.wide m Tryd.prog 33 #[.pointer (some ⟨bx, 0, none⟩)] (fun x : Nat × List Int => #[.int .i64 (x.1 : Int), .agg (ua x.2)]) (fun pre x _ => x.1 = pre.length ∧ x.2 = blkAt cs pre.length ∧ pre.length < N) (KpB bc bx) (fun ys => ys.length = N) (fun _ => True) false w :=
  fun l J Jx W hW hJ _ hY h00 => (blocks1_in m hm l bx bc off cap N ad cs J Jx hcs hN hcap had hY (fun pre A B h hg => hJ pre A B none h hg (fun r e => by cases e)) W (Blk.carry iX hW) (fun j hj => cellb (hc j hj) hW) h00).mono
    fun _ _ ⟨hv, h⟩ => ⟨hv, h.imp (fun ⟨ys, hl, h⟩ => ⟨ys, hl, h⟩) (fun ⟨pre, h⟩ => ⟨pre, trivial, h⟩)⟩
end Go.Proofs.YtjmdnolmaofbiaaDoor

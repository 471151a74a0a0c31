/- The reference of chapter 7: Substituted, CheckWeights, CheckWear, Worn. -/
import Derived.Test.YtjcmohfpenfepaaGreatDoorVhC
import Derived.Test.YtjcmohfpenfepaaGreatDoorVhF
namespace Go.Proofs.YtjcmohfpenfepaaGreatDoor
section
set_option linter.unusedSimpArgs false
set_option linter.unusedVariables false
open Go.RowKit Flp
set_option maxRecDepth 100000 in
set_option maxHeartbeats 2000000 in
theorem CheckWeightsR_any (ws : List Int) (w : World) (hws : ws.length = 12) :
 Calls Tryz.prog 9 #[.agg (ia ws)] w fun r w' => r = .returned (.int .i64 (eachE wgG ws)) ∧ Below w.heap.size w w' := by
 have HS := Lib.hid (fun (k : Nat) (x : Int) (hx : ws[k]? = some x) (h : firstE ((ws.mapIdx wgG).take k) = 0) => eachE_step hx h)
 have HT := Lib.hid (fun (k : Nat) (x : Int) (hx : ws[k]? = some x) (h : firstE ((ws.mapIdx wgG).take k) = 0) (hne : wgG k x ≠ 0) => eachE_stop hx h hne)
 have HE := Lib.hid (fun (h : firstE ((ws.mapIdx wgG).take ws.length) = 0) => eachE_end h)
 obtain ⟨E, hE⟩ : ∃ e, e = eachE wgG ws := ⟨_, rfl⟩
 rw [← hE] at HT HE ⊢
 have HWS := Lib.hid hws
 clear hE hws
 go_enter Tryz.func9, Tryz.ntmps9
 go_upto_region 1 with fail
 obtain ⟨W1, hW1⟩ : ∃ v, v = World.alloc w (Obj.cells (ia ws) 23) := ⟨_, rfl⟩
 have kW1 : Below w.heap.size w W1 := by rw [hW1]; exact below_new _ _
 have iW1 : BlkI W1 w.heap.size 23 ws := by rw [hW1]; exact BlkI.new _ _ _
 rw [← hW1]
 clear hW1
 go_wp2_with fail
 go_loop [3] (fun i => ∃ k : Nat, k ≤ 12 ∧ i = .int .i64 k ∧ firstE ((ws.mapIdx wgG).take k) = 0) (fun i => 12 - (intOf i).toNat)
 case atStart => exact ⟨0, by omega, rfl, rfl⟩
 case round =>
  obtain ⟨k, hk, rfl, hf⟩ := hrel
  have HF := Lib.hid hf
  clear hf
  by_cases hlt : k < 12
  ·have hdk : (k : Int) < 12 := by omega
   obtain ⟨x, hx⟩ : ∃ x, ws[k]? = some x := ⟨_, List.getElem?_eq_getElem (by rw [HWS.out]; exact hlt)⟩
   have c1 := BlkI.cell iW1 (j := k) (by rw [HWS.out]; exact hlt)
   rw [hx, Option.getD_some] at c1
   have hs := HS.out k x hx HF.out
   have ht := HT.out k x hx HF.out
   have T1 := Lib.hid (fun W => CheckRange_any x 0 1024 W)
   have hg : wgG k x = withinE x 0 1024 := rfl
   rw [hg] at hs ht
   obtain ⟨R, hR⟩ : ∃ r, r = withinE x 0 1024 := ⟨_, rfl⟩
   rw [← hR] at hs ht T1
   have HS1 := Lib.hid hs
   have HT1 := Lib.hid ht
   clear hs ht hg hR hx
   go_wp2_with fail
   refine (T1.out _).mono ?_
   rintro e w1 ⟨rfl, rfl⟩
   clear c1 T1
   by_cases hz : R = 0
   ·have HS2 := Lib.hid (HS1.out.trans hz)
    have hb0 : (R != 0) = false := by rw [bne_eq_false_iff_eq]; exact hz
    clear hz
    go_wp2
    go_round
    case rel => exact ⟨k + 1, by omega, by go_num, HS2.out⟩
    case measure => simp [intOf]; omega
   ·obtain rfl := HT1.out hz
    have hb0 : (E != 0) = true := by rw [bne_iff_ne]; exact hz
    clear hz
    go_wp2
    go_ret
    exact ⟨rfl, kW1⟩
  ·obtain rfl : k = 12 := by omega
   have hz : E = 0 := HE.out (by rw [HWS.out]; exact HF.out)
   subst hz
   go_wp2
   go_ret
   exact ⟨rfl, kW1⟩
end
section
set_option linter.unusedSimpArgs false
set_option linter.unusedVariables false
open Go.RowKit Flp
end
section
set_option linter.unusedSimpArgs false
set_option linter.unusedVariables false
open Go.RowKit Flp
theorem exec_load {P : Program} {ρ : Operand → Value} {o : Oper} {t : TypeId} {x : Operand} {v : Value} {w : World} (hop : o.op = Op.load t x) (h : (Instr.loadAt t (ρ x)).run P w = .ok v w) : (execOp ρ o).run P w = .ok (.value v) w := by
 unfold execOp
 simp only [hop, Sem.run_bind, Sem.run_pure, h, Result.andThen_ok]
theorem wp_storeF {o : Oper} {a : Act} {w : World} {K : Act → World → Prop} {Q : Exit → Act → World → Prop} (T : TypeId) (x y : Operand) (hop : o.op = .store T x y) (B : Nat) (l old : List Nat)
 (hx : a.eval x = .pointer (some ⟨B, 0, none⟩)) (hy : a.eval y = .agg (fa l)) (hB : BlkF w B T old) (hlo : old.length = l.length) (hi : (Tryz.prog.info? T).map (·.size) = some l.length)
 (hK : K (a.put o.dst undef) (w.setRow B (fa l))) : o.wp Tryz.prog a w K Q :=
 wp_store_row T x y hop B (fa l) hx hy T (fa old) hB (by rw [hi, fa_size]) (by rw [fa_size, fa_size, hlo]) (fa_one l) hK
end
end Go.Proofs.YtjcmohfpenfepaaGreatDoor

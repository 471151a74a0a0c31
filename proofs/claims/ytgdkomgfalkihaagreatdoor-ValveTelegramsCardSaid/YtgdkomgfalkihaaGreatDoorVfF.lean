/- The reference of chapter 1: CheckTelegram, CheckTelegrams. (UNDER WAY) -/
import Derived.Test.YtgdkomgfalkihaaGreatDoorVfC
namespace Go.Proofs.YtgdkomgfalkihaaGreatDoor
section
set_option linter.unusedSimpArgs false
set_option linter.unusedVariables false
open Go.RowKit
theorem tgRl_len (t : Tg) : (tgRl t).length = 6 := rfl
theorem tgRl_get (t : Tg) (k : Nat) (hk : k < 4) : (tgRl t)[2 + k]? = some (withinE ((tgL t)[k]?.getD 0) (-32768) 32767) := by
 have : k = 0 ∨ k = 1 ∨ k = 2 ∨ k = 3 := by omega
 rcases this with rfl | rfl | rfl | rfl <;> rfl
set_option maxRecDepth 100000 in
set_option maxHeartbeats 4000000 in
theorem CheckTelegramR_any (t0 t1 t2 t3 t4 t5 : Int) (w : World) :
 Calls Tryz.prog 84 #[.agg #[.int .i64 t0, .int .i64 t1, .int .i64 t2, .int .i64 t3, .int .i64 t4, .int .i64 t5]] w fun r w' => r = .returned (.int .i64 (tgE (t0, t1, t2, t3, t4, t5))) ∧ Below w.heap.size w w' := by
 obtain ⟨i0, hi, hz0, hz1, hz2⟩ := info_parts Tryz.infZint
 have T0 := Lib.hid (fun W => CheckRange_any t0 0 255 W)
 have T1 := Lib.hid (fun W => CheckRange_any t1 0 65535 W)
 have TX := Lib.hid (fun x W => CheckRange_any x (-32768) 32767 W)
 rw [← tgRl_eq]
 obtain ⟨t, ht⟩ : ∃ t : Tg, t = (t0, t1, t2, t3, t4, t5) := ⟨_, rfl⟩
 have hg : ∀ k, k < 4 → ∃ x, (tgL t)[k]? = some x ∧ (#[Value.int .i64 t0, .int .i64 t1, .int .i64 t2, .int .i64 t3, .int .i64 t4, .int .i64 t5] : Array Value)[2 + k]? = some (.int .i64 x) := fun k hk => by
  subst ht
  have : k = 0 ∨ k = 1 ∨ k = 2 ∨ k = 3 := by omega
  rcases this with rfl | rfl | rfl | rfl <;> exact ⟨_, rfl, rfl⟩
 have h2 : (tgRl t).take 2 = [withinE t0 0 255, withinE t1 0 65535] := by subst ht; rfl
 rw [← ht]
 obtain ⟨e0, he0⟩ : ∃ e, e = withinE t0 0 255 := ⟨_, rfl⟩
 obtain ⟨e1, he1⟩ : ∃ e, e = withinE t1 0 65535 := ⟨_, rfl⟩
 rw [← he0] at T0 h2
 rw [← he1] at T1 h2
 have HG := Lib.hid hg
 have H2 := Lib.hid h2
 clear he0 he1 hg h2 ht
 go_enter Tryz.func84, Tryz.ntmps84
 go_upto_region 1 with fail
 obtain ⟨W1, hW1⟩ : ∃ v, v = World.alloc w (Obj.cells #[.int .i64 t0, .int .i64 t1, .int .i64 t2, .int .i64 t3, .int .i64 t4, .int .i64 t5] 151) := ⟨_, rfl⟩
 have kW1 : Below w.heap.size w W1 := by rw [hW1]; exact below_new _ _
 have iW1 : Blk W1 (w.heap.size) 151 [.int .i64 t0, .int .i64 t1, .int .i64 t2, .int .i64 t3, .int .i64 t4, .int .i64 t5] := by rw [hW1]; exact Blk.new _ _ _
 have sW1 : W1.heap.size = w.heap.size + 1 := by rw [hW1]; simp
 rw [← hW1]
 clear hW1
 have i1 := iW1
 have hB := kW1
 have a0 := i1.cell (j := 0) (v := .int .i64 t0) rfl
 have a1 := i1.cell (j := 1) (v := .int .i64 t1) rfl
 clear iW1 kW1 sW1
 refine wp_region_E 99 (by kernel_rfl) ?_
 obtain ⟨wz, hwz⟩ : ∃ v, v = W1.drew := ⟨_, rfl⟩
 rw [← hwz]
 have hlz : Below W1.heap.size W1 wz := by rw [hwz]; exact (Below.refl _ _).drew
 have hbz := bthen hB hlz
 have a0 := cellb a0 hlz
 have a1 := cellb a1 hlz
 have i1 := i1.carry hlz
 clear hwz hlz
 refine zT 0 { dst := some 5, op := Op.fieldAddr 151 (Operand.tmp 1) 0, type := 0, pos := "words.go:154", after := #[], guard := none } (v := ?_) rfl (Or.inl ⟨by rfl, ?_⟩) ?_
 rotate_left
 ·(intro w hE; have a0 := cellb a0 hE; have a1 := cellb a1 hE; (try dsimp only); go_simp); (try with_reducible rfl)
 try simp only [Act.put, zS]
 refine zT 1 { dst := some 6, op := Op.load 3 (Operand.tmp 5), type := 3, pos := "words.go:154", after := #[{ on := 0, ground := Ground.data }], guard := none } (v := ?_) rfl (Or.inl ⟨by rfl, ?_⟩) ?_
 rotate_left
 ·(intro w hE; have a0 := cellb a0 hE; have a1 := cellb a1 hE; (try dsimp only); go_simp); (try with_reducible rfl)
 try simp only [Act.put, zS]
 refine zT 3 { dst := some 8, op := Op.fieldAddr 151 (Operand.tmp 1) 1, type := 0, pos := "words.go:154", after := #[], guard := none } (v := ?_) rfl (Or.inl ⟨by rfl, ?_⟩) ?_
 rotate_left
 ·(intro w hE; have a0 := cellb a0 hE; have a1 := cellb a1 hE; (try dsimp only); go_simp); (try with_reducible rfl)
 try simp only [Act.put, zS]
 refine zT 4 { dst := some 9, op := Op.load 3 (Operand.tmp 8), type := 3, pos := "words.go:154", after := #[{ on := 3, ground := Ground.data }], guard := none } (v := ?_) rfl (Or.inl ⟨by rfl, ?_⟩) ?_
 rotate_left
 ·(intro w hE; have a0 := cellb a0 hE; have a1 := cellb a1 hE; (try dsimp only); go_simp); (try with_reducible rfl)
 try simp only [Act.put, zS]
 refine zC 2 { dst := some 7, op := Op.call { callee := Callee.value (Operand.func 16), args := #[Operand.tmp 6, Operand.const (Value.int IntKind.i64 0), Operand.const (Value.int IntKind.i64 255)], argTypes := #[3, 3, 3] }, type := 3, pos := "words.go:154", after := #[{ on := 1, ground := Ground.data }], guard := none } (fun w hE => ofPure (T0.out w)) rfl (by rfl) (fun w hE => by (try dsimp only); go_simp) ?_
 try simp only [Act.put, zS]
 refine zC 5 { dst := some 10, op := Op.call { callee := Callee.value (Operand.func 16), args := #[Operand.tmp 9, Operand.const (Value.int IntKind.i64 0), Operand.const (Value.int IntKind.i64 65535)], argTypes := #[3, 3, 3] }, type := 3, pos := "words.go:154", after := #[{ on := 4, ground := Ground.data }, { on := 2, ground := Ground.chain }], guard := none } (fun w hE => ofPure (T1.out w)) rfl (by rfl) (fun w hE => by (try dsimp only); go_simp) ?_
 try simp only [Act.put, zS]
 refine wpAnyE_one (i := 6) (o := { dst := some 11, op := Op.buildSlice 70 2 #[(0, Operand.tmp 7), (1, Operand.tmp 10)], type := 70, pos := "words.go:154", after := #[{ on := 2, ground := Ground.data }, { on := 5, ground := Ground.data }], guard := none }) (by kernel_rfl) rfl (fun wy1 hE K hK => ?_)
 have a0 := cellb a0 hE
 have a1 := cellb a1 hE
 have i1 := i1.carry hE
 have hbz1 := bthen hbz hE
 clear hE
 go_simp
 obtain ⟨wx1, hwz⟩ : ∃ v, v = wy1.alloc (Obj.cells #[.int .i64 e0, .int .i64 e1] 3) := ⟨_, rfl⟩
 rw [← hwz]
 have hl : Below wy1.heap.size wy1 wx1 := by rw [hwz]; exact below_new _ _
 have hcz1 := bthen hbz1 hl
 have iN : Blk wx1 wy1.heap.size 3 [.int .i64 e0, .int .i64 e1] := by rw [hwz]; exact Blk.new _ _ _
 have hGle : w.heap.size + 1 ≤ wy1.heap.size := i1.lt
 generalize wy1.heap.size = G at iN hGle ⊢
 have a0 := cellb a0 hl
 have a1 := cellb a1 hl
 have i1 := i1.carry hl
 clear hwz
 refine hK _ _ (fun _ => hl) ?_
 clear hK K hl
 try simp only [Act.put, zS]
 refine zT 7 { dst := some 3, op := Op.assign (Operand.tmp 11), type := 70, pos := "words.go:154", after := #[{ on := 6, ground := Ground.data }, { on := 5, ground := Ground.chain }, { on := 0, ground := Ground.phase }, { on := 1, ground := Ground.phase }, { on := 2, ground := Ground.phase }, { on := 3, ground := Ground.phase }, { on := 4, ground := Ground.phase }, { on := 5, ground := Ground.phase }, { on := 6, ground := Ground.phase }], guard := none } (v := ?_) rfl (Or.inl ⟨by rfl, ?_⟩) ?_
 rotate_left
 ·(intro w hE; have a0 := cellb a0 hE; have a1 := cellb a1 hE; (try dsimp only); go_simp); (try with_reducible rfl)
 try simp only [Act.put, zS]
 refine wpAnyE_done (by kernel_rfl) (fun wy2 hE => ?_) _
 have hbz2 := bthen hcz1 hE
 have a0 := cellb a0 hE
 have a1 := cellb a1 hE
 have i1 := i1.carry hE
 have iN := iN.carry hE
 clear hE
 have hB := hbz2
 obtain ⟨W4, hW4⟩ : ∃ v, v = wy2 := ⟨_, rfl⟩
 rw [← hW4] at hB iN i1 ⊢
 clear hW4
 have hown : W4.ownsRow (w.heap.size + 1) 3 1 (.slice (some ⟨G, 0, none⟩) 2 2) 2 (((tgRl t).take 2).map (Value.int .i64)) := by
  rw [H2.out]
  exact ⟨rfl, .inr ⟨G, 2, _, rfl, hGle, iN, Nat.le_refl _, by decide, rfl, rfl⟩⟩
 clear a0 a1 iN T0 T1
 go_wp2_with fail
 go_loopw [3, 4] (fun u i wr => ∃ k : Nat, k ≤ 4 ∧ i = .int .i64 k ∧ wr.ownsRow (w.heap.size + 1) 3 1 u (2 + k) (((tgRl t).take (2 + k)).map (Value.int .i64)) ∧ Blk wr w.heap.size 151 [.int .i64 t0, .int .i64 t1, .int .i64 t2, .int .i64 t3, .int .i64 t4, .int .i64 t5] ∧ Below w.heap.size w wr) (fun _ i _ => 4 - (intOf i).toNat)
 case atStart => exact ⟨0, by omega, rfl, hown, i1, hB⟩
 case round =>
  clear hown i1 hB
  obtain ⟨k, hk, rfl, hown, i1, hbel⟩ := hrel
  by_cases hlt : k < 4
  ·obtain ⟨x, hx, hxa⟩ := HG.out k hlt
   have c0 : wr.cell? ⟨w.heap.size, 2 + k, none⟩ = some (.int .i64 x) := i1.cell (j := 2 + k) (by rw [← hxa]; simp)
   have hts : (tgRl t).take (2 + (k + 1)) = (tgRl t).take (2 + k) ++ [withinE x (-32768) 32767] := by
    rw [show 2 + (k + 1) = (2 + k) + 1 by omega, List.take_add_one, tgRl_get t k hlt, hx]; rfl
   have T := Lib.hid (fun W => TX.out x W)
   obtain ⟨e, he⟩ : ∃ e, e = withinE x (-32768) 32767 := ⟨_, rfl⟩
   rw [← he] at T hts
   have HTS := Lib.hid hts
   have e6 : (k : Int) < 4 := by omega
   have hsz := i1.lt
   obtain ⟨oa, oc, rfl⟩ := own_slice hown
   have kn := below_new wr (.cells #[.int .i64 e] 3)
   have hks := kn.size
   clear hx hxa hts he
   go_wp2_with fail
   refine (T.out wr).mono ?_
   rintro e9 w5 ⟨rfl, rfl⟩
   go_wp2_with (at_builtin; refine wpList_append_own _ rfl _ _ 70 rfl (w.heap.size + 1) 3 i0 (.int .i64 0) 1 8 Tryz.undZint hi hz0 hz1 hz2 rfl (by decide) (.slice oa (2 + k) oc) (2 + k) _ rfl (own_below hown (below_new _ _)) ⟨wr.heap.size, 0, none⟩ 1 1 [.int .i64 e] rfl rfl (cell_one_new _ _ _) (by simp [Value.oneCell']) (by unfold maxLen; omega) (by omega) (by simp; omega) ?_; intro v7 w8 hown' hgrow _)
   have hbel2 : Below w.heap.size w w8 := (bthen hbel kn).grown hgrow (by omega) (fun k' hk' => by have := (World.ownsRow.lt (own_below hown kn) k' hk').1; omega)
   have j1 := Blk.keptV (i1.carry kn) (own_below hown kn) (by omega) hgrow
   have hownN : w8.ownsRow (w.heap.size + 1) 3 1 v7 (2 + (k + 1)) (((tgRl t).take (2 + (k + 1))).map (Value.int .i64)) := by
    rw [HTS.out, List.map_append]
    exact hown'
   clear hown hown' hgrow hbel i1 kn hks hsz c0
   go_wp2
   go_roundw
   case rel => exact ⟨k + 1, by omega, by go_num, hownN, j1, hbel2⟩
   case measure => simp [intOf]; omega
  ·obtain rfl : k = 4 := by omega
   have hI : Ints wr u3 (tgRl t) := Ints.of_own hown rfl
   have TF := Lib.hid (FirstR_any u3 (tgRl t) wr (by simp [tgRl_len]) hI)
   clear hown i1 hI
   go_wp2_with fail
   refine TF.out.mono ?_
   rintro e9 w5 ⟨rfl, rfl⟩
   go_wp2
   go_ret
   exact ⟨rfl, hbel⟩
/-- the error of telegrams. -/
theorem ctStep {l : List Tg} {k : Nat} {x : Tg} (hx : l[k]? = some x) (h : firstE ((l.take k).map tgE) = 0) : firstE ((l.take (k + 1)).map tgE) = tgE x ∧ (tgE x ≠ 0 → firstE (l.map tgE) = tgE x) := by
 have e1 : firstE ((l.take (k + 1)).map tgE) = tgE x := by
  have := firstE_take_succ (l.map tgE) k (by rw [List.length_map]; exact (List.getElem?_eq_some_iff.1 hx).1) (by rw [← List.map_take]; exact h)
  rw [← List.map_take, List.getElem?_map, hx] at this
  exact this
 refine ⟨e1, fun hne => ?_⟩
 have := firstE_of_take (l.map tgE) (k + 1) (by rw [← List.map_take, e1]; exact hne)
 rw [this, ← List.map_take, e1]
set_option maxRecDepth 100000 in
set_option maxHeartbeats 4000000 in
theorem CheckTelegramsR_any (v : Value) (l : List Tg) (w : World) (hl : l.length ≤ 1000000) (hv : Rw 6 tV w v l) :
 Calls Tryz.prog 26 #[v] w fun r w' => r = .returned (.int .i64 (ctE l)) ∧ Below w.heap.size w w' := by
 have HV := Lib.hid hv
 obtain ⟨a, cp, rfl, -⟩ := hv.slice
 obtain ⟨N, hN⟩ : ∃ N, N = l.length := ⟨_, rfl⟩
 rw [← hN] at HV hl ⊢
 have HN := Lib.hid hN
 by_cases hbig : 1024 < N
 ·have he : ctE l = 5 := by unfold ctE; rw [if_pos (by omega)]
  have d1 : (1024 : Int) < (N : Int) := by omega
  rw [he]
  clear he hN hbig hv
  go_enter Tryz.func26, Tryz.ntmps26
  go_wp2
  go_ret
  exact ⟨rfl, Below.refl _ _⟩
 ·have he : ctE l = firstE (l.map tgE) := by unfold ctE; rw [if_neg (by omega)]
  have d1 : ¬ (1024 : Int) < (N : Int) := by omega
  have HE := Lib.hid he
  clear he hN hbig hv
  go_enter Tryz.func26, Tryz.ntmps26
  go_wp2_with fail
  go_loopw [3] (fun i wr => ∃ k : Nat, k ≤ N ∧ i = .int .i64 k ∧ firstE ((l.take k).map tgE) = 0 ∧ Below w.heap.size w wr) (fun i _ => N - (intOf i).toNat)
  case atStart => exact ⟨0, by omega, rfl, rfl, Below.refl _ _⟩
  case round =>
   obtain ⟨k, hk, rfl, hf, hbel⟩ := hrel
   have HF := Lib.hid hf
   clear hf
   by_cases hlt : k < N
   ·have hdk : (k : Int) < (N : Int) := by omega
    obtain ⟨x, hx⟩ : ∃ x, l[k]? = some x := ⟨_, List.getElem?_eq_getElem (by rw [← HN.out]; exact hlt)⟩
    obtain ⟨b, off, cp', he, hcs⟩ := (HV.out.carry hbel).head (by rw [← HN.out]; omega)
    simp only [Value.slice.injEq] at he
    obtain ⟨rfl, -, rfl⟩ := he
    obtain ⟨d0, d1, d2, d3, d4, d5⟩ := rw6 (hcs k x hx) (show tV x = [.int .i64 x.1, .int .i64 x.2.1, .int .i64 x.2.2.1, .int .i64 x.2.2.2.1, .int .i64 x.2.2.2.2.1, .int .i64 x.2.2.2.2.2] from rfl)
    obtain ⟨h1, h2⟩ := ctStep hx HF.out
    obtain ⟨x0, x1, x2, x3, x4, x5⟩ := x
    dsimp only at d0 d1 d2 d3 d4 d5
    have T := Lib.hid (fun W => CheckTelegramR_any x0 x1 x2 x3 x4 x5 W)
    obtain ⟨e, he⟩ : ∃ e, e = tgE (x0, x1, x2, x3, x4, x5) := ⟨_, rfl⟩
    rw [← he] at T h1 h2
    have H1 := Lib.hid h1
    have H2 := Lib.hid h2
    clear hcs hx h1 h2 he hlt
    go_wp2_with fail
    refine (T.out wr).mono ?_
    rintro e9 w5 ⟨rfl, hl5⟩
    replace hbel := bthen hbel hl5
    clear d0 d1 d2 d3 d4 d5 hl5
    by_cases hz : e = 0
    ·have H3 := Lib.hid (H1.out.trans hz)
     have hb0 : (e != 0) = false := by rw [bne_eq_false_iff_eq]; exact hz
     clear hz
     go_wp2
     go_roundw
     case rel => exact ⟨k + 1, by omega, by go_num, H3.out, hbel⟩
     case measure => simp [intOf]; omega
    ·have H3 := Lib.hid (HE.out.trans (H2.out hz))
     have hb0 : (e != 0) = true := by rw [bne_iff_ne]; exact hz
     clear hz
     go_wp2
     go_ret
     exact ⟨by rw [H3.out]; rfl, hbel⟩
   ·obtain rfl : k = N := by omega
    have hdk : ¬ (k : Int) < (k : Int) := by omega
    have h0 := HF.out
    rw [List.take_of_length_le (by rw [HN.out]; exact Nat.le_refl _), ← HE.out] at h0
    have H0 := Lib.hid h0
    clear h0
    go_wp2
    go_ret
    exact ⟨by rw [H0.out]; rfl, hbel⟩
end
section
set_option linter.unusedSimpArgs false
set_option linter.unusedVariables false
open Go.RowKit
theorem telMap_take {l : List P2} {c : Int} {k : Nat} {x : P2} (hx : l[k]? = some x) : ((l.take (k + 1)).map (telG c)).flatMap tV = ((l.take k).map (telG c)).flatMap tV ++ [.int .i64 c, .int .i64 (x.1.tmod 65536), .int .i64 x.2, .int .i64 0, .int .i64 0, .int .i64 0] := by
 rw [List.take_add_one, hx, List.map_append, List.flatMap_append]; rfl
set_option maxRecDepth 100000 in
set_option maxHeartbeats 4000000 in
theorem TelegramsR_any (c : Int) (a : Option Addr) (n cap : Nat) (l : List P2) (w : World) (hl : l.length ≤ 1000000) (hr : ∀ x ∈ l, 0 ≤ x.1 ∧ x.1 ≤ 1000000) (hv : Prs w (.slice a n cap) l) :
 Calls Tryz.prog 27 #[.agg #[.int .i64 c, .slice a n cap]] w fun r w' => (∃ u, r = .returned u ∧ Rw 6 tV w' u (l.map (telG c))) ∧ Below w.heap.size w w' := by
 obtain ⟨i0, hi, hz0, hz1, hz2⟩ := info_parts Tryz.infZbipoleref01Telegram
 have HV := Lib.hid hv
 have HR := Lib.hid hr
 obtain ⟨a', cp', he, -⟩ := hv.slice
 simp only [Value.slice.injEq] at he
 obtain ⟨-, hN, -⟩ := he
 have HN := Lib.hid hN
 rw [← hN] at hl
 clear hv hr hN
 go_enter Tryz.func27, Tryz.ntmps27
 go_upto_region 1 with fail
 obtain ⟨W1, hW1⟩ : ∃ v, v = World.alloc w (Obj.cells #[.int .i64 c, .slice a n cap] 24) := ⟨_, rfl⟩
 have kW1 : Below w.heap.size w W1 := by rw [hW1]; exact below_new _ _
 have iW1 : Blk W1 (w.heap.size) 24 [.int .i64 c, .slice a n cap] := by rw [hW1]; exact Blk.new _ _ _
 have sW1 : W1.heap.size = w.heap.size + 1 := by rw [hW1]; simp
 rw [← hW1]
 clear hW1
 have i1 := iW1
 have hB := kW1
 clear iW1 kW1 sW1
 go_upto_region 3 with fail
 have HW1 := Lib.hid hB
 go_loopw [3, 4] (fun u i wr => ∃ k : Nat, k ≤ n ∧ i = .int .i64 k ∧ wr.ownsRow (w.heap.size + 1) 151 6 u k (((l.take k).map (telG c)).flatMap tV) ∧ Blk wr w.heap.size 24 [.int .i64 c, .slice a n cap] ∧ Below w.heap.size w wr) (fun _ i _ => n - (intOf i).toNat)
 case atStart => exact ⟨0, by omega, rfl, World.ownsRow_nil _ _ _ _, i1, hB⟩
 case round =>
  clear i1 hB
  obtain ⟨k, hk, rfl, hown, i1, hbel⟩ := hrel
  have b0 := i1.cell (j := 0) (v := .int .i64 c) rfl
  have b1 := i1.cell (j := 1) (v := .slice a n cap) rfl
  by_cases hlt : k < n
  ·have hdk : (k : Int) < (n : Int) := by omega
   obtain ⟨x, hx⟩ : ∃ x, l[k]? = some x := ⟨_, List.getElem?_eq_getElem (by rw [← HN.out]; exact hlt)⟩
   obtain ⟨b, off, cp', he, hcs⟩ := HV.out.head (by rw [← HN.out]; omega)
   simp only [Value.slice.injEq] at he
   obtain ⟨rfl, -, -⟩ := he
   obtain ⟨c0, c1⟩ := rw2 (hcs k x hx) (show pV x = [.int .i64 x.1, .int .i64 x.2] from rfl)
   have hts := telMap_take (c := c) hx
   have hxr := HR.out x (List.mem_of_getElem? hx)
   obtain ⟨x0, x1⟩ := x
   dsimp only at c0 c1 hts hxr
   obtain ⟨m, hm⟩ : ∃ m, m = x0.tmod 65536 := ⟨_, rfl⟩
   have hm1 : 0 ≤ m ∧ m ≤ 65535 := by rw [hm, Int.tmod_eq_emod_of_nonneg hxr.1]; omega
   have hm2 := hm.symm
   have hm3 : x0 % 65536 = m := by rw [← Int.tmod_eq_emod_of_nonneg hxr.1]; exact hm2
   rw [hm2] at hts
   have q1 : IntKind.i64.wrap m = m := IntWalk.i64_in _ (by omega)
   have HTS := Lib.hid hts
   obtain ⟨oa, oc, rfl⟩ := own_slice hown
   have hownS : OwnS wr (w.heap.size + 1) 151 6 (.slice oa k oc) k (((l.take k).map (telG c)).flatMap tV) := ⟨hown⟩
   clear hcs hx hts hm hown
   go_upto_region 5 with fail
   clear b0 b1
   refine wp_region_held_drew (S := (fun W => W.cell? ⟨w.heap.size, 0, none⟩ = some (.int .i64 c) ∧ W.cell? ⟨w.heap.size, 1, none⟩ = some (.slice (some ⟨b, off, none⟩) n cap) ∧ W.cell? ⟨b, off + k * 2, none⟩ = some (.int .i64 x0) ∧ W.cell? ⟨b, off + k * 2 + 1, none⟩ = some (.int .i64 x1))) (by kernel_rfl) ⟨i1.cell (j := 0) rfl, i1.cell (j := 1) rfl, cellb c0 (hbel.drew), cellb c1 (hbel.drew)⟩ (fun hHeld0 => ?_)
   obtain ⟨wzd, hwz⟩ : ∃ v, v = wr.drew := ⟨_, rfl⟩
   rw [← hwz] at hHeld0 ⊢
   have hbzd : Below w.heap.size w wzd := by rw [hwz]; exact hbel.drew
   have hlzd : Below wr.heap.size wr wzd := by rw [hwz]; exact (Below.refl _ _).drew
   have hownS := hownS.carry hlzd
   have i1 := i1.carry hlzd
   clear hwz hlzd
   refine wpAnyH_take (i := 0) (oi := { dst := some 12, op := Op.move (Operand.tmp 3), type := 52, pos := "ref.go:285", after := #[], guard := none }) (v := ?_) rfl (by kernel_rfl) (by kernel_rfl) (by kernel_rfl) (fun _ _ _ h => h) (Or.inl ⟨by rfl, ?_⟩) (by assumption) ?_
   rotate_left
   ·(intro w hSw; (try dsimp only at hSw); go_simp); (try with_reducible rfl)
   try simp only [Act.put, zS]
   refine wpAnyH_take (i := 1) (oi := { dst := some 13, op := Op.fieldAddr 24 (Operand.tmp 1) 0, type := 0, pos := "ref.go:285", after := #[], guard := none }) (v := ?_) rfl (by kernel_rfl) (by kernel_rfl) (by kernel_rfl) (fun _ _ _ h => h) (Or.inl ⟨by rfl, ?_⟩) (by assumption) ?_
   rotate_left
   ·(intro w hSw; (try dsimp only at hSw); go_simp); (try with_reducible rfl)
   try simp only [Act.put, zS]
   refine wpAnyH_take (i := 2) (oi := { dst := some 14, op := Op.load 3 (Operand.tmp 13), type := 3, pos := "ref.go:285", after := #[{ on := 1, ground := Ground.data }], guard := none }) (v := ?_) rfl (by kernel_rfl) (by kernel_rfl) (by kernel_rfl) (fun _ _ _ h => h) (Or.inl ⟨by rfl, ?_⟩) (by assumption) ?_
   rotate_left
   ·(intro w hSw; (try dsimp only at hSw); go_simp); (try with_reducible rfl)
   try simp only [Act.put, zS]
   refine wpAnyH_take (i := 3) (oi := { dst := some 15, op := Op.fieldAddr 24 (Operand.tmp 1) 1, type := 0, pos := "ref.go:285", after := #[], guard := none }) (v := ?_) rfl (by kernel_rfl) (by kernel_rfl) (by kernel_rfl) (fun _ _ _ h => h) (Or.inl ⟨by rfl, ?_⟩) (by assumption) ?_
   rotate_left
   ·(intro w hSw; (try dsimp only at hSw); go_simp); (try with_reducible rfl)
   try simp only [Act.put, zS]
   refine wpAnyH_take (i := 4) (oi := { dst := some 16, op := Op.load 22 (Operand.tmp 15), type := 22, pos := "ref.go:285", after := #[{ on := 3, ground := Ground.data }], guard := none }) (v := ?_) rfl (by kernel_rfl) (by kernel_rfl) (by kernel_rfl) (fun _ _ _ h => h) (Or.inl ⟨by rfl, ?_⟩) (by assumption) ?_
   rotate_left
   ·(intro w hSw; (try dsimp only at hSw); go_simp); (try with_reducible rfl)
   try simp only [Act.put, zS]
   refine wpAnyH_take (i := 5) (oi := { dst := some 17, op := Op.move (Operand.tmp 4), type := 3, pos := "ref.go:285", after := #[], guard := none }) (v := ?_) rfl (by kernel_rfl) (by kernel_rfl) (by kernel_rfl) (fun _ _ _ h => h) (Or.inl ⟨by rfl, ?_⟩) (by assumption) ?_
   rotate_left
   ·(intro w hSw; (try dsimp only at hSw); go_simp); (try with_reducible rfl)
   try simp only [Act.put, zS]
   refine wpAnyH_take (i := 6) (oi := { dst := some 18, op := Op.indexAddr 22 (Operand.tmp 16) (Operand.tmp 17), type := 0, pos := "ref.go:285", after := #[{ on := 4, ground := Ground.data }, { on := 5, ground := Ground.data }], guard := none }) (v := ?_) rfl (by kernel_rfl) (by kernel_rfl) (by kernel_rfl) (fun _ _ _ h => h) (Or.inl ⟨by rfl, ?_⟩) (by assumption) ?_
   rotate_left
   ·(intro w hSw; (try dsimp only at hSw); go_simp); (try with_reducible rfl)
   try simp only [Act.put, zS]
   refine wpAnyH_take (i := 7) (oi := { dst := some 19, op := Op.fieldAddr 119 (Operand.tmp 18) 0, type := 0, pos := "ref.go:285", after := #[{ on := 6, ground := Ground.data }], guard := none }) (v := ?_) rfl (by kernel_rfl) (by kernel_rfl) (by kernel_rfl) (fun _ _ _ h => h) (Or.inl ⟨by rfl, ?_⟩) (by assumption) ?_
   rotate_left
   ·(intro w hSw; (try dsimp only at hSw); go_simp); (try with_reducible rfl)
   try simp only [Act.put, zS]
   refine wpAnyH_take (i := 8) (oi := { dst := some 20, op := Op.load 3 (Operand.tmp 19), type := 3, pos := "ref.go:285", after := #[{ on := 7, ground := Ground.data }], guard := none }) (v := ?_) rfl (by kernel_rfl) (by kernel_rfl) (by kernel_rfl) (fun _ _ _ h => h) (Or.inl ⟨by rfl, ?_⟩) (by assumption) ?_
   rotate_left
   ·(intro w hSw; (try dsimp only at hSw); go_simp); (try with_reducible rfl)
   try simp only [Act.put, zS]
   refine wpAnyH_take (i := 9) (oi := { dst := some 21, op := Op.binOp BinOp.rem 3 (Operand.tmp 20) (Operand.const (Value.int IntKind.i64 65536)) 3, type := 3, pos := "ref.go:285", after := #[{ on := 8, ground := Ground.data }], guard := none }) (v := ?_) rfl (by kernel_rfl) (by kernel_rfl) (by kernel_rfl) (fun _ _ _ h => h) (Or.inl ⟨by rfl, ?_⟩) (by assumption) ?_
   rotate_left
   ·(intro w hSw; (try dsimp only at hSw); go_simp); (try with_reducible rfl)
   try simp only [Act.put, zS]
   refine wpAnyH_take (i := 10) (oi := { dst := some 22, op := Op.fieldAddr 24 (Operand.tmp 1) 1, type := 0, pos := "ref.go:285", after := #[], guard := none }) (v := ?_) rfl (by kernel_rfl) (by kernel_rfl) (by kernel_rfl) (fun _ _ _ h => h) (Or.inl ⟨by rfl, ?_⟩) (by assumption) ?_
   rotate_left
   ·(intro w hSw; (try dsimp only at hSw); go_simp); (try with_reducible rfl)
   try simp only [Act.put, zS]
   refine wpAnyH_take (i := 11) (oi := { dst := some 23, op := Op.load 22 (Operand.tmp 22), type := 22, pos := "ref.go:285", after := #[{ on := 10, ground := Ground.data }], guard := none }) (v := ?_) rfl (by kernel_rfl) (by kernel_rfl) (by kernel_rfl) (fun _ _ _ h => h) (Or.inl ⟨by rfl, ?_⟩) (by assumption) ?_
   rotate_left
   ·(intro w hSw; (try dsimp only at hSw); go_simp); (try with_reducible rfl)
   try simp only [Act.put, zS]
   refine wpAnyH_take (i := 12) (oi := { dst := some 24, op := Op.move (Operand.tmp 4), type := 3, pos := "ref.go:285", after := #[], guard := none }) (v := ?_) rfl (by kernel_rfl) (by kernel_rfl) (by kernel_rfl) (fun _ _ _ h => h) (Or.inl ⟨by rfl, ?_⟩) (by assumption) ?_
   rotate_left
   ·(intro w hSw; (try dsimp only at hSw); go_simp); (try with_reducible rfl)
   try simp only [Act.put, zS]
   refine wpAnyH_take (i := 13) (oi := { dst := some 25, op := Op.indexAddr 22 (Operand.tmp 23) (Operand.tmp 24), type := 0, pos := "ref.go:285", after := #[{ on := 11, ground := Ground.data }, { on := 12, ground := Ground.data }], guard := none }) (v := ?_) rfl (by kernel_rfl) (by kernel_rfl) (by kernel_rfl) (fun _ _ _ h => h) (Or.inl ⟨by rfl, ?_⟩) (by assumption) ?_
   rotate_left
   ·(intro w hSw; (try dsimp only at hSw); go_simp); (try with_reducible rfl)
   try simp only [Act.put, zS]
   refine wpAnyH_take (i := 14) (oi := { dst := some 26, op := Op.fieldAddr 119 (Operand.tmp 25) 1, type := 0, pos := "ref.go:285", after := #[{ on := 13, ground := Ground.data }], guard := none }) (v := ?_) rfl (by kernel_rfl) (by kernel_rfl) (by kernel_rfl) (fun _ _ _ h => h) (Or.inl ⟨by rfl, ?_⟩) (by assumption) ?_
   rotate_left
   ·(intro w hSw; (try dsimp only at hSw); go_simp); (try with_reducible rfl)
   try simp only [Act.put, zS]
   refine wpAnyH_take (i := 15) (oi := { dst := some 27, op := Op.load 3 (Operand.tmp 26), type := 3, pos := "ref.go:285", after := #[{ on := 14, ground := Ground.data }], guard := none }) (v := ?_) rfl (by kernel_rfl) (by kernel_rfl) (by kernel_rfl) (fun _ _ _ h => h) (Or.inl ⟨by rfl, ?_⟩) (by assumption) ?_
   rotate_left
   ·(intro w hSw; (try dsimp only at hSw); go_simp); (try with_reducible rfl)
   try simp only [Act.put, zS]
   refine wpAnyH_take (i := 16) (oi := { dst := some 28, op := Op.build 110 #[(0, Operand.tmp 27)], type := 110, pos := "ref.go:285", after := #[{ on := 15, ground := Ground.data }], guard := none }) (v := ?_) rfl (by kernel_rfl) (by kernel_rfl) (by kernel_rfl) (fun _ _ _ h => h) (Or.inl ⟨by rfl, ?_⟩) (by assumption) ?_
   rotate_left
   ·(intro w hSw; (try dsimp only at hSw); go_simp); (try with_reducible rfl)
   try simp only [Act.put, zS]
   refine wpAnyH_take (i := 17) (oi := { dst := some 29, op := Op.build 151 #[(0, Operand.tmp 14), (1, Operand.tmp 21), (2, Operand.tmp 28)], type := 151, pos := "ref.go:285", after := #[{ on := 2, ground := Ground.data }, { on := 9, ground := Ground.data }, { on := 16, ground := Ground.data }], guard := none }) (v := ?_) rfl (by kernel_rfl) (by kernel_rfl) (by kernel_rfl) (fun _ _ _ h => h) (Or.inl ⟨by rfl, ?_⟩) (by assumption) ?_
   rotate_left
   ·(intro w hSw; (try dsimp only at hSw); go_simp); (try with_reducible rfl)
   try simp only [Act.put, zS]
   refine wpAnyH_ready (rs := [18]) (by kernel_rfl) (by simp) ?_
   refine (AllReadyH.cons (o := { dst := some 30, op := Op.buildSlice 52 1 #[(0, Operand.tmp 29)], type := 52, pos := "ref.go:285", after := #[{ on := 17, ground := Ground.data }], guard := none }) rfl (fun K hK => ?_) AllReadyH.nil)
   go_simp
   obtain ⟨wz18, hwz⟩ : ∃ v, v = wzd.alloc (Obj.cells #[.int .i64 c, .int .i64 m, .int .i64 x1, .int .i64 0, .int .i64 0, .int .i64 0] 151) := ⟨_, rfl⟩
   rw [← hwz]
   have hl : Below wzd.heap.size wzd wz18 := by rw [hwz]; exact below_new _ _
   have hbz18 := bthen hbzd hl
   have iN : Blk wz18 wzd.heap.size 151 [.int .i64 c, .int .i64 m, .int .i64 x1, .int .i64 0, .int .i64 0, .int .i64 0] := by rw [hwz]; exact Blk.new _ _ _
   generalize wzd.heap.size = G at iN ⊢
   clear hwz
   have hownS := hownS.carry hl
   have i1 := i1.carry hl
   clear hl
   refine hK.out _ _ ⟨i1.cell (j := 0) rfl, i1.cell (j := 1) rfl, cellb c0 (hbz18), cellb c1 (hbz18)⟩ (fun hHeld1 => ?_)
   clear hK K hHeld0
   try simp only [Act.put, zS]
   refine wpAnyH_ready (rs := [19]) (by kernel_rfl) (by simp) ?_
   refine (AllReadyH.cons (o := { dst := some 31, op := Op.call { callee := Callee.builtin Builtin.append, args := #[Operand.tmp 12, Operand.tmp 30], argTypes := #[52, 52] }, type := 52, pos := "ref.go:285", after := #[{ on := 0, ground := Ground.data }, { on := 18, ground := Ground.data }], guard := none }) rfl (fun K hK => ?_) AllReadyH.nil)
   have hsz : w.heap.size + 1 ≤ wz18.heap.size := i1.lt
   refine wp_append_own wz18 (.tmp 12) (.tmp 30) 52 rfl (w.heap.size + 1) 151 i0 (.agg #[.int .i64 0, .int .i64 0, .int .i64 0, .int .i64 0, .int .i64 0, .int .i64 0]) 6 48 Tryz.undZbipoleref01Telegram hi hz0 hz1 hz2 rfl (by decide) (.slice oa k oc) k _ rfl hownS.o ⟨G, 0, none⟩ 1 1 [.int .i64 c, .int .i64 m, .int .i64 x1, .int .i64 0, .int .i64 0, .int .i64 0] rfl rfl (fun j u hj => by rw [addr_add, Nat.zero_add]; exact iN.cell hj) (by simp [Value.oneCell']) (by unfold maxLen; omega) (by omega) hsz ?_
   intro v9 wz19 hown9 hgrow9 _
   have hbz19 := (hbz18).grown hgrow9 (by omega) (fun k' hk' => by have := (World.ownsRow.lt hownS.o k' hk').1; omega)
   have i1 := Blk.keptV i1 hownS.o (by omega) hgrow9
   have hownT : OwnS wz19 (w.heap.size + 1) 151 6 v9 (k + 1) (((l.take k).map (telG c)).flatMap tV ++ [.int .i64 c, .int .i64 m, .int .i64 x1, .int .i64 0, .int .i64 0, .int .i64 0]) := ⟨hown9⟩
   refine hK.out _ _ ⟨i1.cell (j := 0) rfl, i1.cell (j := 1) rfl, cellb c0 (hbz19), cellb c1 (hbz19)⟩ (fun hHeld2 => ?_)
   clear hK K hHeld1
   try simp only [Act.put, zS]
   refine wpAnyH_take (i := 20) (oi := { dst := some 3, op := Op.assign (Operand.tmp 31), type := 52, pos := "ref.go:285", after := #[{ on := 19, ground := Ground.data }, { on := 19, ground := Ground.chain }, { on := 0, ground := Ground.phase }, { on := 1, ground := Ground.phase }, { on := 2, ground := Ground.phase }, { on := 3, ground := Ground.phase }, { on := 4, ground := Ground.phase }, { on := 5, ground := Ground.phase }, { on := 6, ground := Ground.phase }, { on := 7, ground := Ground.phase }, { on := 8, ground := Ground.phase }, { on := 9, ground := Ground.phase }, { on := 10, ground := Ground.phase }, { on := 11, ground := Ground.phase }, { on := 12, ground := Ground.phase }, { on := 13, ground := Ground.phase }, { on := 14, ground := Ground.phase }, { on := 15, ground := Ground.phase }, { on := 16, ground := Ground.phase }, { on := 17, ground := Ground.phase }, { on := 18, ground := Ground.phase }, { on := 19, ground := Ground.phase }], guard := none }) (v := ?_) rfl (by kernel_rfl) (by kernel_rfl) (by kernel_rfl) (fun _ _ _ h => h) (Or.inl ⟨by rfl, ?_⟩) (by assumption) ?_
   rotate_left
   ·(intro w hSw; (try dsimp only at hSw); go_simp); (try with_reducible rfl)
   try simp only [Act.put, zS]
   refine wpAnyH_done (by kernel_rfl) ?_ _
   clear hHeld2
   have hbel9 := hbz19
   obtain ⟨W9, hW9⟩ : ∃ v, v = wz19 := ⟨_, rfl⟩
   rw [← hW9] at hbel9 i1 hownT ⊢
   clear hW9
   have hown2 := hownT.o
   rw [← HTS.out] at hown2
   clear hownT
   go_wp2
   go_roundw
   case rel => exact ⟨k + 1, by omega, by go_num, hown2, i1, hbel9⟩
   case measure => simp [intOf]; omega
  ·obtain rfl : k = n := by omega
   have hdk : ¬ (k : Int) < (k : Int) := by omega
   rw [List.take_of_length_le (by rw [HN.out]; exact Nat.le_refl _)] at hown
   have hout : Rw 6 tV wr u3 (l.map (telG c)) := (show OwR wr (w.heap.size + 1) 151 6 tV u3 (l.map (telG c)) by unfold OwR; rw [List.length_map, ← HN.out]; exact hown).rw tV_len
   clear hown i1
   go_wp2
   go_ret
   exact ⟨⟨_, rfl, hout⟩, hbel⟩
end
section
set_option linter.unusedSimpArgs false
set_option linter.unusedVariables false
open Go.RowKit
theorem rrE_no {src start : Int} {l : List Tg} (h : rcE2 src start l ≠ 0) : rrE src start l = rcE2 src start l ∧ rrR src start l = (0, []) := by
 have e : rrE src start l = rcE2 src start l := by unfold rrE; rw [if_neg h]
 exact ⟨e, by unfold rrR; rw [e, if_neg h]⟩
theorem rrE_many {src start : Int} {l : List Tg} (h : rcE2 src start l = 0) (h3 : 256 < (rcK src start l l.length).1.length) : rrE src start l = 5 ∧ rrR src start l = (0, []) := by
 have e : rrE src start l = 5 := by unfold rrE; rw [if_pos h, if_pos h3]
 exact ⟨e, by unfold rrR; rw [e, if_neg (by decide)]⟩
theorem rrE_ok {src start : Int} {l : List Tg} (h : rcE2 src start l = 0) (h3 : ¬ 256 < (rcK src start l l.length).1.length) : rrE src start l = 0 ∧ rrR src start l = (src, (rcK src start l l.length).1) := by
 have e : rrE src start l = 0 := by unfold rrE; rw [if_pos h, if_neg h3]
 exact ⟨e, by unfold rrR; rw [e, if_pos rfl]⟩
theorem Tryz.infoA4r : (Tryz.prog.info? 110).map (·.size) = some 4 := by kernel_rfl
/-- the tick, as the reference reckons it. -/
theorem tickR (F t1 : Int) (hF : 0 ≤ F ∧ F ≤ 100001) (h1 : 0 ≤ t1 ∧ t1 ≤ 65535) : rcTick F t1 = if F + Int.tmod (t1 - F) 65536 < F then F + Int.tmod (t1 - F) 65536 + 65536 else F + Int.tmod (t1 - F) 65536 := by
 have := (tick_rng F t1 hF h1).1
 unfold rcTick
 split <;> omega
set_option maxRecDepth 100000 in
set_option maxHeartbeats 4000000 in
theorem ReceivedR_any (v : Value) (src start : Int) (l : List Tg) (w : World) (hs : 0 ≤ start ∧ start ≤ 100000) (hl : l.length ≤ 1024) (hok : ∀ t ∈ l, (0 ≤ t.2.1 ∧ t.2.1 ≤ 65535) ∧ ∀ x ∈ tgL t, -32768 ≤ x ∧ x ≤ 32767) (hv : Rw 6 tV w v l) :
 Calls Tryz.prog 28 #[v, .int .i64 src, .int .i64 start] w fun r w' => (∃ a n cap, r = .returned (.tuple #[.agg #[.int .i64 (rrR src start l).1, .slice a n cap], .int .i64 (rrE src start l)]) ∧ Prs w' (.slice a n cap) (rrR src start l).2) ∧ Below w.heap.size w w' := by
 obtain ⟨i9, hi9, hz0, hz1, hz2⟩ := info_parts Tryz.infZbipoleref07Pulse
 have HV := Lib.hid hv
 have HOK := Lib.hid hok
 have HS := Lib.hid hs
 obtain ⟨a, cp, rfl, -⟩ := hv.slice
 obtain ⟨N, hN⟩ : ∃ N, N = l.length := ⟨_, rfl⟩
 rw [← hN] at HV hl ⊢
 have HN := Lib.hid hN
 obtain ⟨E, hE⟩ : ∃ e, e = rrE src start l := ⟨_, rfl⟩
 obtain ⟨R, hR⟩ : ∃ e, e = rrR src start l := ⟨_, rfl⟩
 rw [← hE, ← hR]
 have HN2 := Lib.hid (fun h => rrE_no (src := src) (start := start) (l := l) h)
 have HN3 := Lib.hid (fun h h3 => rrE_many (src := src) (start := start) (l := l) h h3)
 have HN4 := Lib.hid (fun h h3 => rrE_ok (src := src) (start := start) (l := l) h h3)
 rw [← hE, ← hR] at HN2 HN3 HN4
 rw [← hN] at HN3 HN4
 clear hv hok hs hN hE hR
 go_enter Tryz.func28, Tryz.ntmps28
 go_upto_region 3 with fail
 obtain ⟨W1, hW1⟩ : ∃ v, v = World.alloc w (Obj.cells #[.int .i64 0, .slice none 0 0] 24) := ⟨_, rfl⟩
 have kW1 : Below w.heap.size w W1 := by rw [hW1]; exact below_new _ _
 have iW1 : Blk W1 (w.heap.size) 24 [.int .i64 0, .slice none 0 0] := by rw [hW1]; exact Blk.new _ _ _
 have sW1 : W1.heap.size = w.heap.size + 1 := by rw [hW1]; simp
 rw [← hW1]
 clear hW1
 obtain ⟨W2, hW2⟩ : ∃ v, v = World.alloc W1 (Obj.cells #[.int .i64 src, .slice none 0 0] 24) := ⟨_, rfl⟩
 have kW2 : Below W1.heap.size W1 W2 := by rw [hW2]; exact below_new _ _
 have iW2 : Blk W2 (w.heap.size + 1) 24 [.int .i64 src, .slice none 0 0] := by rw [hW2, ← sW1]; exact Blk.new _ _ _
 have sW2 : W2.heap.size = w.heap.size + 1 + 1 := by rw [hW2]; simp [sW1]
 rw [← hW2]
 clear hW2
 have i6 := iW1.carry kW2
 have i8 := iW2
 have hB := bthen kW1 kW2
 clear iW1 iW2 kW1 kW2 sW1 sW2
 go_wp2_with fail
 go_loopw [9, 10] (fun f i wr => ∃ k : Nat, k ≤ N ∧ i = .int .i64 k ∧ f = .int .i64 (rcK src start l k).2 ∧ (∀ j, j < k → rcX src start l j = 0) ∧ (∃ oa oc, Blk wr (w.heap.size + 1) 24 [.int .i64 src, .slice oa (rcK src start l k).1.length oc] ∧ wr.ownsRow (w.heap.size + 2) 119 2 (.slice oa (rcK src start l k).1.length oc) (rcK src start l k).1.length ((rcK src start l k).1.flatMap pV)) ∧ Blk wr w.heap.size 24 [.int .i64 0, .slice none 0 0] ∧ Below w.heap.size w wr) (fun _ i _ => N - (intOf i).toNat)
 case atStart => exact ⟨0, by omega, rfl, rfl, by omega, ⟨none, 0, i8, World.ownsRow_nil _ _ _ _⟩, i6, hB⟩
 case round =>
  clear i8 i6 hB
  obtain ⟨k, hk, rfl, rfl, hx, ⟨oa, oc, i8, hown⟩, i6, hbel⟩ := hrel
  have HX := Lib.hid hx
  by_cases hlt : k < N
  ·obtain ⟨t, ht⟩ : ∃ t, l[k]? = some t := ⟨_, List.getElem?_eq_getElem (by rw [← HN.out]; exact hlt)⟩
   obtain ⟨b, off, cp, he, hcs⟩ := (HV.out.carry hbel).head (by rw [← HN.out]; omega)
   simp only [Value.slice.injEq] at he
   obtain ⟨rfl, -, rfl⟩ := he
   obtain ⟨d0, d1, d2, d3, d4, d5⟩ := rw6 (hcs k t ht) (show tV t = [.int .i64 t.1, .int .i64 t.2.1, .int .i64 t.2.2.1, .int .i64 t.2.2.2.1, .int .i64 t.2.2.2.2.1, .int .i64 t.2.2.2.2.2] from rfl)
   have hfr := rcK_rng HS.out (fun t ht => (HOK.out t ht).1) k hx
   have hml := rcK_len src start l k
   have htr := HOK.out t (List.mem_of_getElem? ht)
   have htk := tick_rng (rcK src start l k).2 t.2.1 hfr htr.1
   have htR := tickR (rcK src start l k).2 t.2.1 hfr htr.1
   have hsK : rcK src start l (k + 1) = if t.1 = src then ((rcK src start l k).1 ++ [(rcTick (rcK src start l k).2 t.2.1, t.2.2.1)], rcTick (rcK src start l k).2 t.2.1 + 1) else rcK src start l k := by simp only [rcK, ht, Option.getD_some]
   have hsX : rcX src start l k = if t.1 = src then (if rcBad t = true then 1 else if 100000 < rcTick (rcK src start l k).2 t.2.1 then 4 else 0) else 0 := by simp only [rcX, ht, Option.getD_some]
   have hst := fun h => rcE2_stop (src := src) (start := start) (l := l) (k := k) (by rw [← HN.out]; exact hlt) hx h
   obtain ⟨t0, t1, t2, t3, t4, t5⟩ := t
   have hbad := rcBad_eq t0 t1 t2 t3 t4 t5 (htr.2 t2 (by simp [tgL]))
   rw [hbad] at hsX
   have HSX := Lib.hid hsX
   have HSK := Lib.hid hsK
   have HST := Lib.hid hst
   obtain ⟨F, hF⟩ : ∃ z, z = (rcK src start l k).2 := ⟨_, rfl⟩
   obtain ⟨TR, hTR⟩ : ∃ z, z = (rcK src start l k).1 := ⟨_, rfl⟩
   have hpair : rcK src start l k = (TR, F) := by rw [hF, hTR]
   have HPAIR := Lib.hid hpair
   rw [← hF] at hfr htk htR ⊢
   rw [← hTR] at hown i8 hml
   obtain ⟨m, hm⟩ : ∃ z, z = TR.length := ⟨_, rfl⟩
   rw [← hm] at hown i8 hml
   have HM := Lib.hid hm
   obtain ⟨T, hT⟩ : ∃ z, z = rcTick F t1 := ⟨_, rfl⟩
   have HT := Lib.hid hT
   dsimp only at d0 d1 d2 d3 d4 d5 htr htk htR
   rw [← hT] at htk htR
   have HTR := Lib.hid htR
   have HFR := Lib.hid hfr
   have HTK := Lib.hid htk
   have hdk : (k : Int) < (N : Int) := by omega
   clear hF hTR hpair hm hT hbad htk htR hst hsX hsK hcs ht hx
   by_cases hs : t0 = src
   ·have b0 : (t0 != src) = false := by rw [bne_eq_false_iff_eq]; exact hs
    have TSet := Lib.hid (fun W => CheckSetR_any t2 W)
    obtain ⟨e2, he2⟩ : ∃ e, e = withinE t2 0 4095 := ⟨_, rfl⟩
    rw [← he2] at TSet HSX
    have hX2 : rcX src start l k = if (e2 != 0 || t3 != 0 || t4 != 0 || t5 != 0) = true then 1 else if 100000 < T then 4 else 0 := by
     rw [HSX.out, if_pos hs, HT.out, HPAIR.out]
    have hK2 : rcK src start l (k + 1) = (TR ++ [(T, t2)], T + 1) := by
     rw [HSK.out, if_pos hs, HPAIR.out, HT.out]
    have HX2 := Lib.hid hX2
    have HK2 := Lib.hid hK2
    clear hX2 hK2 hs he2
    go_upto_region 8 with (refine wpList_storeA rfl _ _ _ rfl wr.heap.size [t2, t3, t4, t5] (List.replicate 4 0) rfl rfl (BlkI.new wr 110 (List.replicate 4 0)) rfl Tryz.infoA4r ?_)
    obtain ⟨W9, hW9⟩ : ∃ v, v = World.setRow (World.alloc wr (Obj.cells #[.int .i64 0, .int .i64 0, .int .i64 0, .int .i64 0] 110)) wr.heap.size (ia ([t2, t3, t4, t5])) := ⟨_, rfl⟩
    have kW9 : Below wr.heap.size wr W9 := by rw [hW9]; exact zrow_below _ _ _ _
    have iW9 : BlkI W9 wr.heap.size 110 ([t2, t3, t4, t5]) := by rw [hW9]; exact zrow_blk wr _ (List.replicate 4 0) _
    rw [← hW9]
    clear hW9
    replace i6 := i6.carry kW9
    replace i8 := i8.carry kW9
    replace hown := own_below hown kW9
    replace d1 := cellb d1 kW9
    replace hbel := bthen hbel kW9
    have c0 := BlkI.cell iW9 (j := 0) (by simp)
    have c1 := BlkI.cell iW9 (j := 1) (by simp)
    have c2 := BlkI.cell iW9 (j := 2) (by simp)
    have c3 := BlkI.cell iW9 (j := 3) (by simp)
    simp only [List.getElem?_cons_zero, List.getElem?_cons_succ, Option.getD_some] at c0 c1 c2 c3
    clear d0 d2 d3 d4 d5 iW9 kW9
    go_wp2_with fail
    refine (TSet.out W9).mono ?_
    rintro e9 w9 ⟨rfl, rfl⟩
    clear TSet
    by_cases h2 : e2 = 0
    ·have z2 : (e2 != 0) = false := by rw [bne_eq_false_iff_eq]; exact h2
     by_cases h3 : t3 = 0
     ·have z3 : (t3 != 0) = false := by rw [bne_eq_false_iff_eq]; exact h3
      by_cases h4 : t4 = 0
      ·have z4 : (t4 != 0) = false := by rw [bne_eq_false_iff_eq]; exact h4
       by_cases h5 : t5 = 0
       ·have z5 : (t5 != 0) = false := by rw [bne_eq_false_iff_eq]; exact h5
        obtain ⟨M, hM⟩ : ∃ M, M = Int.tmod (t1 - F) 65536 := ⟨_, rfl⟩
        have htk := HTK.out
        have hfr := HFR.out
        rw [← hM] at htk
        have q1 : IntKind.i64.wrap (t1 - F) = t1 - F := IntWalk.i64_in _ (by omega)
        have q2 : Int.tmod (t1 - F) 65536 = M := hM.symm
        have q3 : IntKind.i64.wrap M = M := IntWalk.i64_in _ (by omega)
        have q4 : IntKind.i64.wrap (F + M) = F + M := IntWalk.i64_in _ (by omega)
        have q5 : IntKind.i64.wrap (F + M + 65536) = F + M + 65536 := IntWalk.i64_in _ (by omega)
        have hT := HTR.out
        rw [← hM] at hT
        have HT2 := Lib.hid hT
        clear hT hM htk hfr h2 h3 h4 h5
        go_upto_if 66 with fail
        clear q1 q2 q3 q4
        go_cut [12] from 67 to 68 (fun v12 wn => v12 = .int .i64 T ∧ W9 = wn)
        case first =>
         by_cases h9 : F + M < F
         ·have hT := HT2.out
          rw [if_pos h9] at hT
          have HT3 := Lib.hid hT
          clear hT
          go_wp2_with fail
          go_meet
          exact ⟨by rw [HT3.out], rfl⟩
         ·have hT := HT2.out
          rw [if_neg h9] at hT
          have HT3 := Lib.hid hT
          clear hT
          go_wp2_with fail
          go_meet
          exact ⟨by rw [HT3.out], rfl⟩
        case rest =>
         obtain ⟨rfl, rfl⟩ := hcut
         clear q5 HT2
         by_cases hbig : 100000 < T
         ·have hx2 : rcX src start l k = 4 := by rw [HX2.out, if_neg (by simp [z2, z3, z4, z5]), if_pos hbig]
          have hst := HST.out (by rw [hx2]; decide)
          obtain ⟨hE, rfl⟩ := HN2.out (by rw [hst, hx2]; decide)
          obtain rfl : E = 4 := by rw [hE, hst, hx2]
          clear hx2 hst hE HN2 HN3 HN4 HST
          have f0 := i6.frozen 0
          have f1 := i6.frozen 1
          have g0 := i6.cell (j := 0) (v := .int .i64 0) rfl
          have g1 := i6.cell (j := 1) (v := .slice none 0 0) rfl
          have j6 := (i6.set 0 (.int .i64 0)).set 1 (.slice none 0 0)
          have hb := below_setC (below_setC hbel w.heap.size 0 (Nat.le_refl _) (.int .i64 0)) w.heap.size 1 (Nat.le_refl _) (.slice none 0 0)
          have HZ0 := Lib.hid (j6.cell (j := 0) (v := .int .i64 0) rfl)
          have HZ1 := Lib.hid (j6.cell (j := 1) (v := .slice none 0 0) rfl)
          have HBB := Lib.hid hb
          clear j6 hb
          go_wp2
          have z0 := HZ0.out
          have z1 := HZ1.out
          exact bodyPost_ret (v := .tuple #[.agg #[.int .i64 0, .slice none 0 0], .int .i64 4]) (by simp [results, Tryz.f28, go_sem, z0, z1]) rfl ⟨⟨_, _, _, rfl, Rw.nil _ _ _ _ _⟩, HBB.out⟩
         ·have hx2 : rcX src start l k = 0 := by rw [HX2.out, if_neg (by simp [z2, z3, z4, z5]), if_neg hbig]
          have hX1 : ∀ j, j < k + 1 → rcX src start l j = 0 := fun j hj => by
           by_cases hjk : j = k
           ·subst hjk; exact hx2
           ·exact HX.out j (by omega)
          have HX1 := Lib.hid hX1
          have y1 := i8.cell (j := 1) (v := .slice oa m oc) rfl
          have hlt11 := i8.lt
          have q6 : IntKind.i64.wrap (T + 1) = T + 1 := IntWalk.i64_in _ (by have := HFR.out; have := HTK.out; omega)
          have kn := below_new W9 (.cells #[.int .i64 T, .int .i64 t2] 119)
          have hks := kn.size
          clear hx2 hX1
          go_wp2_with (at_builtin; refine wpList_append_own _ rfl _ _ 22 rfl (w.heap.size + 2) 119 i9 (.agg #[.int .i64 0, .int .i64 0]) 2 16 Tryz.undZbipoleref07Pulse hi9 hz0 hz1 hz2 rfl (by decide) _ _ _ rfl (own_below hown kn) ⟨W9.heap.size, 0, none⟩ 1 1 [.int .i64 T, .int .i64 t2] rfl rfl (fun j u hj => (Blk.new W9 119 [.int .i64 T, .int .i64 t2]).news j u hj) (by simp [Value.oneCell']) (by unfold maxLen; omega) (by omega) (by have := kn.size; omega) ?_; intro v9 w1 hown9 hgrow9 _; obtain ⟨va9, vc9, rfl⟩ := own_slice hown9; have j8 := Blk.keptV (i8.carry kn) (own_below hown kn) (by omega) hgrow9; have y2 := j8.cell (j := 1) (v := .slice oa m oc) rfl; have fz := j8.frozen 1)
          have hbel2 : Below w.heap.size w w1 := (bthen hbel kn).grown hgrow9 (by omega) (fun k' hk' => by have := (World.ownsRow.lt (own_below hown kn) k' hk').1; omega)
          have k8 := j8.set 1 (.slice va9 (m + 1) vc9)
          have k6 := Blk.other (Blk.keptV (i6.carry kn) (own_below hown kn) (by omega) hgrow9) (show w.heap.size ≠ w.heap.size + 1 by omega) (j := 1) (.slice va9 (m + 1) vc9)
          have hown10 := own_setCellV (j := 1) (x := .slice va9 (m + 1) vc9) hown9 (by omega : w.heap.size + 1 < w.heap.size + 2)
          have hbel3 := below_setC hbel2 (w.heap.size + 1) 1 (by omega) (.slice va9 (m + 1) vc9)
          have hlen2 : (rcK src start l (k + 1)).1.length = m + 1 := by rw [HK2.out, List.length_append, HM.out]; rfl
          have hfl2 : (rcK src start l (k + 1)).1.flatMap pV = TR.flatMap pV ++ [.int .i64 T, .int .i64 t2] := by rw [HK2.out, List.flatMap_append]; rfl
          refine ⟨⟨k + 1, by omega, by go_num, by rw [HK2.out], HX1.out, ⟨va9, vc9, ?_, ?_⟩, k6, hbel3⟩, by simp [intOf]; omega⟩
          ·rw [hlen2]; exact k8
          ·rw [hlen2, hfl2]; exact hown10
       ·have z5 : (t5 != 0) = true := by rw [bne_iff_ne]; exact h5
        have hx2 : rcX src start l k = 1 := by rw [HX2.out, if_pos (by simp [z2, z3, z4, z5])]
        have hst := HST.out (by rw [hx2]; decide)
        obtain ⟨hE, rfl⟩ := HN2.out (by rw [hst, hx2]; decide)
        obtain rfl : E = 1 := by rw [hE, hst, hx2]
        clear hx2 hst hE HN2 HN3 HN4 HST
        have f0 := i6.frozen 0
        have f1 := i6.frozen 1
        have g0 := i6.cell (j := 0) (v := .int .i64 0) rfl
        have g1 := i6.cell (j := 1) (v := .slice none 0 0) rfl
        have j6 := (i6.set 0 (.int .i64 0)).set 1 (.slice none 0 0)
        have hb := below_setC (below_setC hbel w.heap.size 0 (Nat.le_refl _) (.int .i64 0)) w.heap.size 1 (Nat.le_refl _) (.slice none 0 0)
        have HZ0 := Lib.hid (j6.cell (j := 0) (v := .int .i64 0) rfl)
        have HZ1 := Lib.hid (j6.cell (j := 1) (v := .slice none 0 0) rfl)
        have HBB := Lib.hid hb
        clear j6 hb
        go_wp2
        have z0 := HZ0.out
        have z1 := HZ1.out
        exact bodyPost_ret (v := .tuple #[.agg #[.int .i64 0, .slice none 0 0], .int .i64 1]) (by simp [results, Tryz.f28, go_sem, z0, z1]) rfl ⟨⟨_, _, _, rfl, Rw.nil _ _ _ _ _⟩, HBB.out⟩
      ·have z4 : (t4 != 0) = true := by rw [bne_iff_ne]; exact h4
       have hx2 : rcX src start l k = 1 := by rw [HX2.out, if_pos (by simp [z2, z3, z4])]
       have hst := HST.out (by rw [hx2]; decide)
       obtain ⟨hE, rfl⟩ := HN2.out (by rw [hst, hx2]; decide)
       obtain rfl : E = 1 := by rw [hE, hst, hx2]
       clear hx2 hst hE HN2 HN3 HN4 HST
       have f0 := i6.frozen 0
       have f1 := i6.frozen 1
       have g0 := i6.cell (j := 0) (v := .int .i64 0) rfl
       have g1 := i6.cell (j := 1) (v := .slice none 0 0) rfl
       have j6 := (i6.set 0 (.int .i64 0)).set 1 (.slice none 0 0)
       have hb := below_setC (below_setC hbel w.heap.size 0 (Nat.le_refl _) (.int .i64 0)) w.heap.size 1 (Nat.le_refl _) (.slice none 0 0)
       have HZ0 := Lib.hid (j6.cell (j := 0) (v := .int .i64 0) rfl)
       have HZ1 := Lib.hid (j6.cell (j := 1) (v := .slice none 0 0) rfl)
       have HBB := Lib.hid hb
       clear j6 hb
       go_wp2
       have z0 := HZ0.out
       have z1 := HZ1.out
       exact bodyPost_ret (v := .tuple #[.agg #[.int .i64 0, .slice none 0 0], .int .i64 1]) (by simp [results, Tryz.f28, go_sem, z0, z1]) rfl ⟨⟨_, _, _, rfl, Rw.nil _ _ _ _ _⟩, HBB.out⟩
     ·have z3 : (t3 != 0) = true := by rw [bne_iff_ne]; exact h3
      have hx2 : rcX src start l k = 1 := by rw [HX2.out, if_pos (by simp [z2, z3])]
      have hst := HST.out (by rw [hx2]; decide)
      obtain ⟨hE, rfl⟩ := HN2.out (by rw [hst, hx2]; decide)
      obtain rfl : E = 1 := by rw [hE, hst, hx2]
      clear hx2 hst hE HN2 HN3 HN4 HST
      have f0 := i6.frozen 0
      have f1 := i6.frozen 1
      have g0 := i6.cell (j := 0) (v := .int .i64 0) rfl
      have g1 := i6.cell (j := 1) (v := .slice none 0 0) rfl
      have j6 := (i6.set 0 (.int .i64 0)).set 1 (.slice none 0 0)
      have hb := below_setC (below_setC hbel w.heap.size 0 (Nat.le_refl _) (.int .i64 0)) w.heap.size 1 (Nat.le_refl _) (.slice none 0 0)
      have HZ0 := Lib.hid (j6.cell (j := 0) (v := .int .i64 0) rfl)
      have HZ1 := Lib.hid (j6.cell (j := 1) (v := .slice none 0 0) rfl)
      have HBB := Lib.hid hb
      clear j6 hb
      go_wp2
      have z0 := HZ0.out
      have z1 := HZ1.out
      exact bodyPost_ret (v := .tuple #[.agg #[.int .i64 0, .slice none 0 0], .int .i64 1]) (by simp [results, Tryz.f28, go_sem, z0, z1]) rfl ⟨⟨_, _, _, rfl, Rw.nil _ _ _ _ _⟩, HBB.out⟩
    ·have z2 : (e2 != 0) = true := by rw [bne_iff_ne]; exact h2
     have hx2 : rcX src start l k = 1 := by rw [HX2.out, if_pos (by simp [z2])]
     have hst := HST.out (by rw [hx2]; decide)
     obtain ⟨hE, rfl⟩ := HN2.out (by rw [hst, hx2]; decide)
     obtain rfl : E = 1 := by rw [hE, hst, hx2]
     clear hx2 hst hE HN2 HN3 HN4 HST
     have f0 := i6.frozen 0
     have f1 := i6.frozen 1
     have g0 := i6.cell (j := 0) (v := .int .i64 0) rfl
     have g1 := i6.cell (j := 1) (v := .slice none 0 0) rfl
     have j6 := (i6.set 0 (.int .i64 0)).set 1 (.slice none 0 0)
     have hb := below_setC (below_setC hbel w.heap.size 0 (Nat.le_refl _) (.int .i64 0)) w.heap.size 1 (Nat.le_refl _) (.slice none 0 0)
     have HZ0 := Lib.hid (j6.cell (j := 0) (v := .int .i64 0) rfl)
     have HZ1 := Lib.hid (j6.cell (j := 1) (v := .slice none 0 0) rfl)
     have HBB := Lib.hid hb
     clear j6 hb
     go_wp2
     have z0 := HZ0.out
     have z1 := HZ1.out
     exact bodyPost_ret (v := .tuple #[.agg #[.int .i64 0, .slice none 0 0], .int .i64 1]) (by simp [results, Tryz.f28, go_sem, z0, z1]) rfl ⟨⟨_, _, _, rfl, Rw.nil _ _ _ _ _⟩, HBB.out⟩
   ·have b0 : (t0 != src) = true := by rw [bne_iff_ne]; exact hs
    have hK1 : rcK src start l (k + 1) = (TR, F) := by rw [HSK.out, if_neg hs, HPAIR.out]
    have hX1 : ∀ j, j < k + 1 → rcX src start l j = 0 := fun j hj => by
     by_cases hjk : j = k
     ·subst hjk; rw [HSX.out, if_neg hs]
     ·exact HX.out j (by omega)
    have HK1 := Lib.hid hK1
    have HX1 := Lib.hid hX1
    clear hK1 hX1 hs
    go_wp2
    go_roundw
    case rel => exact ⟨k + 1, by omega, by go_num, by rw [HK1.out], HX1.out, ⟨oa, oc, by rw [HK1.out, ← HM.out]; exact i8, by rw [HK1.out, ← HM.out]; exact hown⟩, i6, hbel⟩
    case measure => simp [intOf]; omega
  ·obtain rfl : k = N := by omega
   have hE2 := rcE2_end (src := src) (start := start) (l := l) (by rw [← HN.out]; exact hx)
   obtain ⟨F, hF⟩ : ∃ z, z = (rcK src start l k).2 := ⟨_, rfl⟩
   obtain ⟨TR, hTR⟩ : ∃ z, z = (rcK src start l k).1 := ⟨_, rfl⟩
   have hn3 := HN3.out hE2
   have hn4 := HN4.out hE2
   rw [← hTR] at hn3 hn4
   rw [← hTR] at hown i8
   rw [← hF]
   obtain ⟨m, hm⟩ : ∃ z, z = TR.length := ⟨_, rfl⟩
   have HM := Lib.hid hm
   rw [← hm] at hown i8 hn3 hn4
   have y0 := i8.cell (j := 0) (v := .int .i64 src) rfl
   have y1 := i8.cell (j := 1) (v := .slice oa m oc) rfl
   have dd : ¬ ((k : Int) < (k : Int)) := by omega
   have f0 := i6.frozen 0
   have f1 := i6.frozen 1
   have g0 := i6.cell (j := 0) (v := .int .i64 0) rfl
   have g1 := i6.cell (j := 1) (v := .slice none 0 0) rfl
   clear hE2 hF hTR hm hlt hk hx HN2 HN3 HN4
   by_cases hbig : 256 < m
   ·obtain ⟨rfl, rfl⟩ := hn3 hbig
    have b9 : decide ((256 : Int) < (m : Int)) = true := by simp; omega
    clear hn3 hn4 hbig
    have j6 := (i6.set 0 (.int .i64 0)).set 1 (.slice none 0 0)
    have hb := below_setC (below_setC hbel w.heap.size 0 (Nat.le_refl _) (.int .i64 0)) w.heap.size 1 (Nat.le_refl _) (.slice none 0 0)
    have HZ0 := Lib.hid (j6.cell (j := 0) (v := .int .i64 0) rfl)
    have HZ1 := Lib.hid (j6.cell (j := 1) (v := .slice none 0 0) rfl)
    have HBB := Lib.hid hb
    clear j6 hb
    go_wp2
    have z0 := HZ0.out
    have z1 := HZ1.out
    exact bodyPost_ret (v := .tuple #[.agg #[.int .i64 0, .slice none 0 0], .int .i64 5]) (by simp [results, Tryz.f28, go_sem, z0, z1]) rfl ⟨⟨_, _, _, rfl, Rw.nil _ _ _ _ _⟩, HBB.out⟩
   ·obtain ⟨rfl, rfl⟩ := hn4 hbig
    have b9 : decide ((256 : Int) < (m : Int)) = false := by simp; omega
    clear hn3 hn4 hbig
    have hown2 := own_setCellV (j := 1) (x := .slice oa m oc) (own_setCellV (j := 0) (x := .int .i64 src) hown (by omega : w.heap.size < w.heap.size + 2)) (by omega : w.heap.size < w.heap.size + 2)
    have HPR := Lib.hid (Rw.of_own (l := TR) pV_len hown2 HM.out)
    clear hown2
    have j6 := (i6.set 0 (.int .i64 src)).set 1 (.slice oa m oc)
    have hb := below_setC (below_setC hbel w.heap.size 0 (Nat.le_refl _) (.int .i64 src)) w.heap.size 1 (Nat.le_refl _) (.slice oa m oc)
    have HZ0 := Lib.hid (j6.cell (j := 0) (v := .int .i64 src) rfl)
    have HZ1 := Lib.hid (j6.cell (j := 1) (v := .slice oa m oc) rfl)
    have HBB := Lib.hid hb
    clear j6 hb
    go_wp2
    have z0 := HZ0.out
    have z1 := HZ1.out
    exact bodyPost_ret (v := .tuple #[.agg #[.int .i64 src, .slice oa m oc], .int .i64 0]) (by simp [results, Tryz.f28, go_sem, z0, z1]) rfl ⟨⟨_, _, _, rfl, HPR.out⟩, HBB.out⟩
end
end Go.Proofs.YtgdkomgfalkihaaGreatDoor

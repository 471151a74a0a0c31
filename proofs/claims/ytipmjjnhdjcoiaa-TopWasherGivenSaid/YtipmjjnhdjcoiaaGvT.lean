/- Package flow: Ramp. -/
import Derived.Test.YtipmjjnhdjcoiaaGvS
namespace Go.Proofs.Ytipmjjnhdjcoiaa
set_option linter.unusedSimpArgs false
set_option linter.unusedVariables false
open Go.RowKit

set_option maxRecDepth 100000 in
set_option maxHeartbeats 2000000 in
theorem mapSR_any (g : S4 → Int) (v : Value) (l : List S4) (w : World) (hl : l.length ≤ 1000000) (hv : Rw 4 s4V w v l)
    (hf : ∀ x ∈ l, ∀ w1, Below w.heap.size w w1 → Calls Try.prog 33 #[.agg #[.int .i64 1000, .int .i64 0, .int .i64 1000], .agg #[.int .i64 x.1, .int .i64 x.2.1, .int .i64 x.2.2.1, .int .i64 x.2.2.2]] w1 fun r w2 => r = .returned (.int .i64 (g x)) ∧ Below w1.heap.size w1 w2) :
    Calls Try.prog 32 #[v, .func (.func 33) #[.agg #[.int .i64 1000, .int .i64 0, .int .i64 1000]] #[]] w fun r w' => (∃ u, r = .returned u ∧ OwR w' w.heap.size 36 1 nV u (l.map g)) ∧ Below w.heap.size w w' := by
  rcases Nat.eq_zero_or_pos l.length with h0 | h0
  · obtain rfl : l = [] := List.length_eq_zero_iff.1 h0
    obtain ⟨a, cp, rfl, _, _⟩ := hv
    go_enter Try.func32, Try.ntmps32
    go_wp2
    go_loop [5, 10] (fun v i => v = .slice none 0 0 ∧ i = .int .i64 0) (fun _ _ => 0)
    case atStart => exact ⟨rfl, rfl⟩
    case round =>
      obtain ⟨rfl, rfl⟩ := hrel
      go_wp2
      go_ret
      exact ⟨⟨_, rfl, World.ownsRow_nil _ _ _ _⟩, Below.refl _ _⟩
  · obtain ⟨b, off, cp, rfl, hcs⟩ := hv.head h0
    clear hv
    obtain ⟨i0, hi, hz0, hz1, hz2⟩ := info_parts Try.infZErr
    go_enter Try.func32, Try.ntmps32
    go_wp2
    go_loopw [5, 10] (fun v i wr => ∃ k : Nat, k ≤ l.length ∧ i = .int .i64 k ∧ wr.ownsRow w.heap.size 36 1 v k (((l.take k).map g).flatMap nV) ∧ Below w.heap.size w wr) (fun _ i _ => l.length - (intOf i).toNat)
    case atStart => exact ⟨0, by omega, rfl, World.ownsRow_nil _ _ _ _, Below.refl _ _⟩
    case round =>
      obtain ⟨k, hk, rfl, hown, hbel⟩ := hrel
      by_cases hlt : k < l.length
      · obtain ⟨x, hx⟩ : ∃ x, l[k]? = some x := ⟨_, List.getElem?_eq_getElem hlt⟩
        obtain ⟨c0, c1, c2, c3⟩ := rw4 (hcs k x hx) (show s4V x = [.int .i64 x.1, .int .i64 x.2.1, .int .i64 x.2.2.1, .int .i64 x.2.2.2] from rfl)
        have c0 := cellb c0 hbel
        have c1 := cellb c1 hbel
        have c2 := cellb c2 hbel
        have c3 := cellb c3 hbel
        have hts := flatMap_take_succ nV g l k x hx
        have hts : ((l.take (k + 1)).map g).flatMap nV = ((l.take k).map g).flatMap nV ++ [.int .i64 (g x)] := hts
        have TF := Lib.hid (fun W hE => hf x (List.mem_of_getElem? hx) W hE)
        obtain ⟨y0, hy0⟩ : ∃ y, y = (g x) := ⟨_, rfl⟩
        rw [← hy0] at TF hts
        have HTS := Lib.hid hts
        clear hcs hx hts hy0
        go_wp2_with fail
        have hbx := bthen hbel (below_new wr (Obj.cells #[Value.int IntKind.i64 x.1, Value.int IntKind.i64 x.2.1, Value.int IntKind.i64 x.2.2.1, Value.int IntKind.i64 x.2.2.2] 85))
        refine (TF.out _ hbx).mono ?_
        rintro e w2 ⟨rfl, hb2⟩
        have hbx2 := bthen hbx hb2
        have hown := own_below hown (bthen (below_new wr (Obj.cells #[Value.int IntKind.i64 x.1, Value.int IntKind.i64 x.2.1, Value.int IntKind.i64 x.2.2.1, Value.int IntKind.i64 x.2.2.2] 85)) hb2)
        clear hbx hb2 hbel c0 c1 c2 c3
        go_wp2_with (at_builtin; refine wpList_append_own _ rfl _ _ 82 rfl w.heap.size 36 i0 (.int .i64 0) 1 8 Try.undZErr hi hz0 hz1 hz2 rfl (by decide) _ _ _ rfl (own_below hown (below_new _ _)) ⟨w2.heap.size, 0, none⟩ 1 1 [.int .i64 y0] rfl rfl (fun j u hj => (Blk.new w2 36 [.int .i64 y0]).news j u hj) (by simp [Value.oneCell']) (by unfold maxLen; omega) (by omega) (by have := hbx2.size; simp; omega) ?_; intro v' w1 hown' hgrow _)
        have hbel' : Below w.heap.size w w1 := (bthen hbx2 (below_new w2 (.cells #[.int .i64 y0] 36))).trans (below_grow (own_below hown (below_new _ _)) (by have := hbx2.size; simp; omega) hgrow)
        have hown2 : w1.ownsRow w.heap.size 36 1 v' (k + 1) (((l.take (k + 1)).map g).flatMap nV) := by
          rw [HTS.out]; exact hown'
        clear hown hbx2 hown' hgrow
        go_wp2
        go_roundw
        case rel => exact ⟨k + 1, by omega, by go_num, hown2, hbel'⟩
        case measure => simp [intOf]; omega
      · obtain rfl : k = l.length := by omega
        have hout : OwR wr w.heap.size 36 1 nV u5 (l.map g) := by
          unfold OwR
          rw [List.take_length] at hown
          rw [List.length_map]; exact hown
        clear hown
        go_wp2
        go_ret
        exact ⟨⟨_, rfl, hout⟩, hbel⟩
/-- a row of the call's own. -/
structure OwnG (w : World) (base e : Nat) (v : Value) (n : Nat) (xs : List Value) : Prop where
  o : w.ownsRow base e 1 v n xs
theorem OwnG.carry {w w' : World} {base e n : Nat} {v : Value} {xs : List Value} (h : OwnG w base e v n xs) (hb : Below w.heap.size w w') : OwnG w' base e v n xs := ⟨own_below h.o hb⟩
def gmpL (l : List P2) (n : Nat) : List Int := (List.range n).map fun (k : Nat) => rmpG l (k : Int)
theorem gmpL_succ (l : List P2) (n : Nat) : (gmpL l (n + 1)).map (Value.int .i64) = (gmpL l n).map (Value.int .i64) ++ [.int .i64 (rmpG l (n : Int))] := by simp [gmpL, List.range_succ]
theorem gmpL_len (l : List P2) (n : Nat) : (gmpL l n).length = n := by simp [gmpL]
theorem findX_find {α : Type} (g : α → Bool) (L : List α) : (∃ (i : Nat) (s : α), findX g L = (i : Int) ∧ L[i]? = some s ∧ g s = true ∧ L.find? g = some s) ∨ (findX g L = -1 ∧ L.find? g = none) := by
  unfold findX
  cases h : L.findIdx? g with
  | none =>
    right
    rw [List.findIdx?_eq_none_iff] at h
    exact ⟨rfl, List.find?_eq_none.2 (fun x hx => by simp [h x hx])⟩
  | some i =>
    left
    rw [List.findIdx?_eq_some_iff_getElem] at h
    obtain ⟨hi, hg, hlt⟩ := h
    refine ⟨i, L[i], rfl, List.getElem?_eq_getElem hi, hg, ?_⟩
    rw [List.find?_eq_some_iff_getElem]
    exact ⟨hg, i, hi, rfl, fun j hj => by simpa using hlt j hj⟩
theorem Try.enterRmp1 (args : Array Value) (w : World) : Sem.run Try.prog (callFunc 35 args) w = .ok (.enter 35 args) w :=
  MuLone.run_callFunc_enter Try.func35 (by kernel_rfl) rfl args w
set_option maxRecDepth 100000 in
set_option maxHeartbeats 8000000 in
theorem RampG_any (v : Value) (l : List P2) (w : World) (hv : Prs w v l) (hok : RpOk l) :
    Calls Try.prog 10 #[.agg #[.int .i64 1000, .int .i64 0, .int .i64 1000], .int .i64 0, v, .int .i64 62] w fun e w' => (∃ u, e = .returned (.tuple #[u, .int .i64 0]) ∧ Ints w' u (gmpL l 62)) ∧ Below w.heap.size w w' := by
  have HOK := Lib.hid hok
  have hlen := hok.len
  have TC := Lib.hid (fun W h => checkG_ok v l W h hok.od)
  have T2 := Lib.hid (fun W => within0F (n := 62) (lo := 1) (hi := 256) (by omega) W)
  have TS := Lib.hid (fun W h => stepsG_any v l W (by omega) h)
  have hst : ∀ x ∈ stpL l, StOk x := fun x hx => by
    obtain ⟨k, hk, rfl⟩ := List.mem_iff_getElem.1 hx
    exact hok.sts (List.getElem?_eq_getElem hk)
  have HST := Lib.hid hst
  have TM := Lib.hid (fun (u : Value) (W : World) (h : Rw 4 s4V W u (stpL l)) => mapSR_any (fun _ => 0) u (stpL l) W (by rw [stpL_len]; omega) h (fun x hx w1 _ => refusedG_ok x.1 x.2.1 x.2.2.1 x.2.2.2 w1 (hst x hx)))
  have TG := Lib.hid (fun (u : Value) (W : World) (h : Ints W u ((stpL l).map fun _ => (0 : Int))) => firstF_any u _ W (by rw [List.length_map, stpL_len]; unfold maxLen; omega) h)
  have hz0 : firstE ((stpL l).map fun _ => (0 : Int)) = 0 := by
    generalize stpL l = L
    induction L with
    | nil => rfl
    | cons x L ih => simpa [firstE] using ih
  rw [hz0] at TG
  obtain ⟨i0, hi, hz0, hz1, hz2⟩ := info_parts Try.infZint
  have hNS := stpL_len l
  obtain ⟨NS, hN⟩ : ∃ n, n = (stpL l).length := ⟨_, rfl⟩
  have HN := Lib.hid hN
  have HNL := Lib.hid (show NS = l.length by rw [hN, hNS])
  have hns : NS ≤ 12 := by rw [hN, hNS]; exact hlen
  clear hok hst hNS hN hlen
  go_enter Try.func10, Try.ntmps10
  go_upto_region 1 with fail
  obtain ⟨W1, hW1⟩ : ∃ v, v = World.alloc w (Obj.cells #[.int .i64 1000, .int .i64 0, .int .i64 1000] 42) := ⟨_, rfl⟩
  have kW1 : Below w.heap.size w W1 := by rw [hW1]; exact below_new _ _
  have iW1 : Blk W1 (w.heap.size) 42 [.int .i64 1000, .int .i64 0, .int .i64 1000] := by rw [hW1]; exact Blk.new _ _ _
  have sW1 : W1.heap.size = w.heap.size + 1 := by rw [hW1]; simp
  rw [← hW1]
  clear hW1
  have a0 := iW1.cell (j := 0) (v := .int .i64 1000) rfl
  have a1 := iW1.cell (j := 1) (v := .int .i64 0) rfl
  have a2 := iW1.cell (j := 2) (v := .int .i64 1000) rfl
  replace hv := hv.carry kW1
  have hB := kW1
  clear iW1 kW1 sW1
  go_wp2_with fail
  refine (TC.out W1 hv).mono ?_
  rintro e w2 ⟨rfl, hb2⟩
  replace hv := hv.carry hb2
  replace hB := bthen hB hb2
  have a0 := cellb a0 hb2
  have a1 := cellb a1 hb2
  have a2 := cellb a2 hb2
  clear hb2
  go_wp2_with fail
  refine (T2.out _).mono ?_
  rintro e w3 ⟨rfl, rfl⟩
  go_wp2_with fail
  refine (zero2F _ _ (Ints.lit w2 36 [0, 0] 2 rfl)).mono ?_
  rintro e W4 ⟨rfl, hw4⟩
  have k4 : Below w2.heap.size w2 W4 := by rw [← hw4]; exact below_new _ _
  clear hw4
  replace hv := hv.carry k4
  replace hB := bthen hB k4
  have a0 := cellb a0 k4
  have a1 := cellb a1 k4
  have a2 := cellb a2 k4
  clear k4
  go_wp2_with fail
  refine (TS.out W4 hv).mono ?_
  rintro e w5 ⟨⟨u, rfl, hu⟩, hb5⟩
  replace hB := bthen hB hb5
  have a0 := cellb a0 hb5
  have a1 := cellb a1 hb5
  have a2 := cellb a2 hb5
  clear hb5 hv
  go_wp2_with fail
  refine (TM.out u w5 hu).mono ?_
  rintro e w6 ⟨⟨x, rfl, hx⟩, hb6⟩
  replace hB := bthen hB hb6
  replace hu := hu.carry hb6
  replace a0 := cellb a0 hb6
  clear a1 a2 hb6
  go_wp2_with fail
  refine (TG.out x w6 (hx.rw nV_len).ints).mono ?_
  rintro e w7 ⟨rfl, rfl⟩
  clear hx
  have HU := Lib.hid hu
  obtain ⟨ua, uc, rfl, -⟩ := hu.slice
  rw [← HN.out] at HU ⊢
  clear hu TC T2 TS TM TG
  go_wp2_with fail
  have HA0 := Lib.hid a0
  clear a0
  go_loopw [13, 39] (fun o i wx => ∃ k : Nat, k ≤ 62 ∧ i = .int .i64 k ∧ wx.ownsRow w6.heap.size 3 1 o k ((gmpL l k).map (Value.int .i64)) ∧ Below w6.heap.size w6 wx) (fun _ i _ => 62 - (intOf i).toNat)
  case atStart => exact ⟨0, by omega, rfl, World.ownsRow_nil _ _ _ _, Below.refl _ _⟩
  case round =>
    obtain ⟨k, hk, rfl, hown, hbel⟩ := hrel
    by_cases hlt : k < 62
    · have hdk : (k : Int) < 62 := by omega
      go_upto_region 12 with fail
      obtain ⟨W8, hW8⟩ : ∃ v, v = World.alloc wr (Obj.cells #[.int .i64 (k : Int)] 3) := ⟨_, rfl⟩
      have kW8 : Below wr.heap.size wr W8 := by rw [hW8]; exact below_new _ _
      have iW8 : Blk W8 (wr.heap.size) 3 [.int .i64 (k : Int)] := by rw [hW8]; exact Blk.new _ _ _
      have sW8 : W8.heap.size = wr.heap.size + 1 := by rw [hW8]; simp
      rw [← hW8]
      clear hW8
      have HGO := Lib.hid (fun g e => (World.ownsRow.lt hown g e).2)
      have hown1 := own_below hown kW8
      have hbel1 := bthen hbel kW8
      have i8 := iW8
      have hu8 := HU.out.carry hbel1
      have c8 := i8.cell (j := 0) (v := .int .i64 (k : Int)) rfl
      have TI := Lib.hid (IndexS_any 35 #[.pointer (some ⟨wr.heap.size, 0, none⟩)] Try.enterRmp1 (fun s => decide ((k : Int) ≤ s.1)) (.slice ua NS uc) (stpL l) W8 (by rw [← HN.out]; omega) hu8 (fun s _ W hE => Ramp1G_any s.1 s.2.1 s.2.2.1 s.2.2.2 (k : Int) wr.heap.size W (cellb c8 hE)))
      clear iW8 kW8 sW8 hown hbel hu8
      have hs8 : w6.heap.size ≤ W8.heap.size := hbel1.size
      have hrv : rmpG l (k : Int) = (match (stpL l).find? (fun s => decide ((k : Int) ≤ s.1)) with | some s => stA s (k : Int) | none => (lasT l l.length).2) := rfl
      rcases findX_find (fun s : S4 => decide ((k : Int) ≤ s.1)) (stpL l) with ⟨i, s, hfx, hsi, hsg, hfi⟩ | ⟨hfx, hfi⟩
      · rw [hfi] at hrv
        rw [hfx] at TI
        have hso := HST.out s (List.mem_of_getElem? hsi)
        have hin : i < NS := by rw [HN.out]; exact (List.getElem?_eq_some_iff.1 hsi).1
        have hin2 : (i : Int) < (NS : Int) := by omega
        obtain ⟨t, p, b, z⟩ := s
        have hkt : (k : Int) ≤ t := by simpa using hsg
        have TA := Lib.hid (fun W => atG_any t p b z (k : Int) W hso (by omega))
        dsimp only at hrv
        obtain ⟨R, hR⟩ : ∃ R, R = stA (t, p, b, z) (k : Int) := ⟨_, rfl⟩
        rw [← hR] at TA hrv
        have HRV := Lib.hid hrv
        clear hR hrv hfx hfi hsg hso
        obtain ⟨ub, uo, xc, hxe, hcs⟩ := HU.out.head (by rw [← HN.out]; omega)
        simp only [Value.slice.injEq] at hxe
        obtain ⟨rfl, -, rfl⟩ := hxe
        obtain ⟨c0, c1, c2, c3⟩ := rw4 (hcs i (t, p, b, z) hsi) (show s4V (t, p, b, z) = [.int .i64 t, .int .i64 p, .int .i64 b, .int .i64 z] from rfl)
        have a0 := HA0.out
        have hGo : ∀ g, u13.ownBlock = some g → g < wr.heap.size := HGO.out
        clear hcs hsi
        go_wp2_with fail
        refine TI.out.mono ?_
        rintro e w9 ⟨rfl, hb9⟩
        have hown2 := own_below hown1 hb9
        have hbel2 := bthen hbel1 hb9
        replace i8 := i8.carry hb9
        obtain ⟨oa, oc, rfl⟩ := own_slice hown2
        obtain ⟨B8, hB8⟩ : ∃ B, B = wr.heap.size := ⟨_, rfl⟩
        rw [← hB8] at i8 hGo ⊢
        have hown2 : OwnG w9 w6.heap.size 3 (.slice oa k oc) k ((gmpL l k).map (Value.int .i64)) := ⟨hown2⟩
        clear hb9 hown1 hbel1 hB8 c8 TI
        go_upto_region 15 with fail
        refine wp_region_held_drew (S := (fun W => Blk W B8 3 [.int .i64 (k : Int)] ∧ W.cell? ⟨ub, uo + i * 4, none⟩ = some (.int .i64 t) ∧ W.cell? ⟨ub, uo + i * 4 + 1, none⟩ = some (.int .i64 p) ∧ W.cell? ⟨ub, uo + i * 4 + 2, none⟩ = some (.int .i64 b) ∧ W.cell? ⟨ub, uo + i * 4 + 3, none⟩ = some (.int .i64 z) ∧ W.cell? ⟨w.heap.size, 0, none⟩ = some (.int .i64 1000))) (by kernel_rfl) ⟨i8, cellb c0 hbel2.drew, cellb c1 hbel2.drew, cellb c2 hbel2.drew, cellb c3 hbel2.drew, cellb a0 hbel2.drew⟩ (fun hHeld0 => ?_)
        obtain ⟨wzd, hwz⟩ : ∃ v, v = w9.drew := ⟨_, rfl⟩
        rw [← hwz] at hHeld0 ⊢
        have hbzd : Below w6.heap.size w6 wzd := by rw [hwz]; exact hbel2.drew
        have hlzd : Below w9.heap.size w9 wzd := by rw [hwz]; exact (Below.refl _ _).drew
        have hown2 := hown2.carry hlzd
        have i8 := i8.carry hlzd
        clear hwz hlzd
        refine wpAnyH_take (i := 0) (oi := { dst := some 52, op := Op.move (Operand.tmp 13), type := 26, pos := "order.go:165", after := #[], guard := none }) (v := ?_) rfl (by kernel_rfl) (by kernel_rfl) (by kernel_rfl) (fun _ _ _ h => h) (Or.inl ⟨by rfl, ?_⟩) (by assumption) ?_
        rotate_left
        · (intro w hSw; (try dsimp only at hSw); go_simp); (try with_reducible rfl)
        try simp only [Act.put, List.setIfInBounds_toArray, List.set_cons_zero, List.set_cons_succ]
        refine wpAnyH_take (i := 1) (oi := { dst := some 53, op := Op.move (Operand.tmp 11), type := 80, pos := "order.go:165", after := #[], guard := none }) (v := ?_) rfl (by kernel_rfl) (by kernel_rfl) (by kernel_rfl) (fun _ _ _ h => h) (Or.inl ⟨by rfl, ?_⟩) (by assumption) ?_
        rotate_left
        · (intro w hSw; (try dsimp only at hSw); go_simp); (try with_reducible rfl)
        try simp only [Act.put, List.setIfInBounds_toArray, List.set_cons_zero, List.set_cons_succ]
        refine wpAnyH_take (i := 2) (oi := { dst := some 54, op := Op.move (Operand.tmp 15), type := 3, pos := "order.go:165", after := #[], guard := none }) (v := ?_) rfl (by kernel_rfl) (by kernel_rfl) (by kernel_rfl) (fun _ _ _ h => h) (Or.inl ⟨by rfl, ?_⟩) (by assumption) ?_
        rotate_left
        · (intro w hSw; (try dsimp only at hSw); go_simp); (try with_reducible rfl)
        try simp only [Act.put, List.setIfInBounds_toArray, List.set_cons_zero, List.set_cons_succ]
        refine wpAnyH_take (i := 3) (oi := { dst := some 55, op := Op.indexAddr 80 (Operand.tmp 53) (Operand.tmp 54), type := 0, pos := "order.go:165", after := #[{ on := 1, ground := Ground.data }, { on := 2, ground := Ground.data }], guard := none }) (v := ?_) rfl (by kernel_rfl) (by kernel_rfl) (by kernel_rfl) (fun _ _ _ h => h) (Or.inl ⟨by rfl, ?_⟩) (by assumption) ?_
        rotate_left
        · (intro w hSw; (try dsimp only at hSw); go_simp); (try with_reducible rfl)
        try simp only [Act.put, List.setIfInBounds_toArray, List.set_cons_zero, List.set_cons_succ]
        refine wpAnyH_take (i := 4) (oi := { dst := some 56, op := Op.load 85 (Operand.tmp 55), type := 85, pos := "order.go:165", after := #[{ on := 3, ground := Ground.data }], guard := none }) (v := ?_) rfl (by kernel_rfl) (by kernel_rfl) (by kernel_rfl) (fun _ _ _ h => h) (Or.inl ⟨by rfl, ?_⟩) (by assumption) ?_
        rotate_left
        · (intro w hSw; (try dsimp only at hSw); go_simp); (try with_reducible rfl)
        try simp only [Act.put, List.setIfInBounds_toArray, List.set_cons_zero, List.set_cons_succ]
        refine wpAnyH_take (i := 5) (oi := { dst := some 57, op := Op.fieldAddr 42 (Operand.tmp 4) 0, type := 0, pos := "order.go:165", after := #[], guard := none }) (v := ?_) rfl (by kernel_rfl) (by kernel_rfl) (by kernel_rfl) (fun _ _ _ h => h) (Or.inl ⟨by rfl, ?_⟩) (by assumption) ?_
        rotate_left
        · (intro w hSw; (try dsimp only at hSw); go_simp); (try with_reducible rfl)
        try simp only [Act.put, List.setIfInBounds_toArray, List.set_cons_zero, List.set_cons_succ]
        refine wpAnyH_take (i := 6) (oi := { dst := some 58, op := Op.load 3 (Operand.tmp 57), type := 3, pos := "order.go:165", after := #[{ on := 5, ground := Ground.data }], guard := none }) (v := ?_) rfl (by kernel_rfl) (by kernel_rfl) (by kernel_rfl) (fun _ _ _ h => h) (Or.inl ⟨by rfl, ?_⟩) (by assumption) ?_
        rotate_left
        · (intro w hSw; (try dsimp only at hSw); go_simp); (try with_reducible rfl)
        try simp only [Act.put, List.setIfInBounds_toArray, List.set_cons_zero, List.set_cons_succ]
        refine wpAnyH_take (i := 7) (oi := { dst := some 59, op := Op.load 3 (Operand.tmp 14), type := 3, pos := "order.go:165", after := #[], guard := none }) (v := ?_) rfl (by kernel_rfl) (by kernel_rfl) (by kernel_rfl) (fun _ _ _ h => h) (Or.inl ⟨by rfl, ?_⟩) (by assumption) ?_
        rotate_left
        · (intro w hSw; (try dsimp only at hSw); have q0 := hSw.1.cell (j := 0) (v := .int .i64 (k : Int)) rfl; clear hSw; go_simp); (try with_reducible rfl)
        try simp only [Act.put, List.setIfInBounds_toArray, List.set_cons_zero, List.set_cons_succ]
        refine wpAnyH_ready (rs := [8]) (by kernel_rfl) (by simp) ?_
        refine (AllReadyH.cons (o := { dst := some 60, op := Op.call { callee := Callee.value (Operand.func 36), args := #[Operand.tmp 56, Operand.tmp 58, Operand.tmp 59], argTypes := #[85, 3, 3] }, type := 3, pos := "order.go:165", after := #[{ on := 4, ground := Ground.data }, { on := 6, ground := Ground.data }, { on := 7, ground := Ground.data }], guard := none }) rfl (fun K hK => ?_) AllReadyH.nil)
        go_simp
        refine (TA.out wzd).mono ?_
        rintro e wz8 ⟨rfl, hl⟩
        (try go_wp2_with fail)
        have hbz8 := bthen hbzd hl
        have hown2 := hown2.carry hl
        have i8 := i8.carry hl
        clear hl
        refine hK.out _ _ ⟨i8, cellb c0 hbz8, cellb c1 hbz8, cellb c2 hbz8, cellb c3 hbz8, cellb a0 hbz8⟩ (fun hHeld1 => ?_)
        clear hK K hHeld0
        try simp only [Act.put, List.setIfInBounds_toArray, List.set_cons_zero, List.set_cons_succ]
        refine wpAnyH_ready (rs := [9]) (by kernel_rfl) (by simp) ?_
        refine (AllReadyH.cons (o := { dst := some 61, op := Op.buildSlice 26 1 #[(0, Operand.tmp 60)], type := 26, pos := "order.go:165", after := #[{ on := 8, ground := Ground.data }], guard := none }) rfl (fun K hK => ?_) AllReadyH.nil)
        go_simp
        obtain ⟨wz9, hwz⟩ : ∃ v, v = wz8.alloc (Obj.cells #[.int .i64 R] 3) := ⟨_, rfl⟩
        rw [← hwz]
        have hl : Below wz8.heap.size wz8 wz9 := by rw [hwz]; exact below_new _ _
        have hbz9 := bthen hbz8 hl
        have iN : Blk wz9 wz8.heap.size 3 [.int .i64 R] := by rw [hwz]; exact Blk.new _ _ _
        generalize wz8.heap.size = G at iN ⊢
        clear hwz
        have hown2 := hown2.carry hl
        have i8 := i8.carry hl
        clear hl
        refine hK.out _ _ ⟨i8, cellb c0 hbz9, cellb c1 hbz9, cellb c2 hbz9, cellb c3 hbz9, cellb a0 hbz9⟩ (fun hHeld2 => ?_)
        clear hK K hHeld1
        try simp only [Act.put, List.setIfInBounds_toArray, List.set_cons_zero, List.set_cons_succ]
        refine wpAnyH_ready (rs := [10]) (by kernel_rfl) (by simp) ?_
        refine (AllReadyH.cons (o := { dst := some 62, op := Op.call { callee := Callee.builtin Builtin.append, args := #[Operand.tmp 52, Operand.tmp 61], argTypes := #[26, 26] }, type := 26, pos := "order.go:165", after := #[{ on := 0, ground := Ground.data }, { on := 9, ground := Ground.data }, { on := 8, ground := Ground.chain }], guard := none }) rfl (fun K hK => ?_) AllReadyH.nil)
        have hsz := (hbz9).size
        refine wp_append_own wz9 (.tmp 52) (.tmp 61) 26 rfl w6.heap.size 3 i0 (.int .i64 0) 1 8 Try.undZint hi hz0 hz1 hz2 rfl (by decide) (.slice oa k oc) k _ rfl hown2.o ⟨G, 0, none⟩ 1 1 [.int .i64 R] rfl rfl (fun j u hj => by rw [addr_add, Nat.zero_add]; exact iN.cell hj) (by simp [Value.oneCell']) (by unfold maxLen; omega) (by omega) hsz ?_
        intro v9 wz10 hown9 hgrow9 _
        have hbz10 := (hbz9).grown hgrow9 hsz (fun k' hk' => (World.ownsRow.lt hown2.o k' hk').1)
        replace i8 := Blk.kept i8 hgrow9 (fun e => Nat.lt_irrefl _ (hGo B8 e.symm))
        refine hK.out _ _ ⟨i8, cellb c0 hbz10, cellb c1 hbz10, cellb c2 hbz10, cellb c3 hbz10, cellb a0 hbz10⟩ (fun hHeld3 => ?_)
        clear hK K hHeld2
        try simp only [Act.put, List.setIfInBounds_toArray, List.set_cons_zero, List.set_cons_succ]
        refine wpAnyH_take (i := 11) (oi := { dst := some 13, op := Op.assign (Operand.tmp 62), type := 26, pos := "order.go:165", after := #[{ on := 10, ground := Ground.data }, { on := 10, ground := Ground.chain }, { on := 0, ground := Ground.phase }, { on := 1, ground := Ground.phase }, { on := 2, ground := Ground.phase }, { on := 3, ground := Ground.phase }, { on := 4, ground := Ground.phase }, { on := 5, ground := Ground.phase }, { on := 6, ground := Ground.phase }, { on := 7, ground := Ground.phase }, { on := 8, ground := Ground.phase }, { on := 9, ground := Ground.phase }, { on := 10, ground := Ground.phase }], guard := none }) (v := ?_) rfl (by kernel_rfl) (by kernel_rfl) (by kernel_rfl) (fun _ _ _ h => h) (Or.inl ⟨by rfl, ?_⟩) (by assumption) ?_
        rotate_left
        · (intro w hSw; (try dsimp only at hSw); go_simp); (try with_reducible rfl)
        try simp only [Act.put, List.setIfInBounds_toArray, List.set_cons_zero, List.set_cons_succ]
        refine wpAnyH_done (by kernel_rfl) ?_ _
        clear hHeld3
        have hB9 := hbz10
        obtain ⟨W4, hW4⟩ : ∃ v, v = wz10 := ⟨_, rfl⟩
        rw [← hW4] at hB9 hown9 ⊢
        clear hW4
        have hown4 : W4.ownsRow w6.heap.size 3 1 v9 (k + 1) ((gmpL l (k + 1)).map (Value.int .i64)) := by
          rw [gmpL_succ, HRV.out]; exact hown9
        clear hown9 c0 c1 c2 c3 a0
        go_wp2_with fail
        go_roundw
        case rel => exact ⟨k + 1, by omega, by go_num, hown4, hB9⟩
        case measure => simp [intOf]; omega
      · rw [hfi] at hrv
        rw [hfx] at TI
        dsimp only at hrv
        clear hfi hfx
        go_wp2_with fail
        refine TI.out.mono ?_
        rintro e w9 ⟨rfl, hb9⟩
        have hown2 := own_below hown1 hb9
        have hbel2 := bthen hbel1 hb9
        have hs9 : w6.heap.size ≤ w9.heap.size := hbel2.size
        obtain ⟨oa, oc, rfl⟩ := own_slice hown2
        clear hb9 hown1 hbel1 c8 i8 TI
        cases NS with
        | zero =>
          rw [show l.length = 0 from HNL.out.symm] at hrv
          have HRV := Lib.hid (show rmpG l (k : Int) = 0 from hrv)
          clear hrv
          go_wp2_with (at_builtin; refine wpList_append_own _ rfl (.tmp 45) (.tmp 47) 26 rfl w6.heap.size 3 i0 _ 1 8 Try.undZint hi hz0 hz1 hz2 rfl (by decide) (.slice oa k oc) k _ rfl (own_below hown2 (below_new _ _)) ⟨w9.heap.size, 0, none⟩ 1 1 [.int .i64 0] rfl rfl (cell_one_new _ _ _) (by simp [Value.oneCell']) (by unfold maxLen; omega) (by omega) (by simp; omega) ?_; intro v9 W4 hown9 hgrow9 _)
          have hB9 : Below w6.heap.size w6 W4 := (bthen hbel2 (below_new w9 (.cells #[.int .i64 0] 3))).trans ((Below.refl _ _).grown hgrow9 (by simp; omega) (fun k hk => (World.ownsRow.lt hown2 k hk).1))
          have hown4 : W4.ownsRow w6.heap.size 3 1 v9 (k + 1) ((gmpL l (k + 1)).map (Value.int .i64)) := by
            rw [gmpL_succ, HRV.out]; exact hown9
          clear hown9 hown2 hbel2 hgrow9
          go_wp2_with fail
          go_roundw
          case rel => exact ⟨k + 1, by omega, by go_num, hown4, hB9⟩
          case measure => simp [intOf]; omega
        | succ m =>
          obtain ⟨y, hy⟩ : ∃ y, l[m]? = some y := ⟨_, List.getElem?_eq_getElem (by rw [← HNL.out]; omega)⟩
          rw [show l.length = m + 1 from HNL.out.symm, lasT_succ hy] at hrv
          have hsm := stpL_get hy
          have HRV := Lib.hid hrv
          obtain ⟨ub, uo, xc, hxe, hcs⟩ := (HU.out.carry hbel2).head (by rw [← HN.out]; omega)
          simp only [Value.slice.injEq] at hxe
          obtain ⟨rfl, -, rfl⟩ := hxe
          obtain ⟨-, c1, -, -⟩ := rw4 (hcs m _ hsm) (show s4V (stpS l m y) = [.int .i64 y.1, .int .i64 y.2, .int .i64 (lasT l m).2, .int .i64 (lasT l m).1] from rfl)
          have r1 : IntKind.i64.wrap ((m : Int) + 1 - 1) = (m : Int) := by rw [show (m : Int) + 1 - 1 = m by omega]; exact IntWalk.i64_in _ (by omega)
          have r2 : IntKind.i64.wrap (m : Int) = (m : Int) := IntWalk.i64_in _ (by omega)
          have r3 : (0 : Int) ≤ (m : Int) := by omega
          have r4 : (m : Int) < (m : Int) + 1 := by omega
          have r5 : (0 : Int) < (m : Int) + 1 := by omega
          clear hrv hcs hsm hy
          go_wp2_with (at_builtin; refine wpList_append_own _ rfl (.tmp 67) (.tmp 76) 26 rfl w6.heap.size 3 i0 _ 1 8 Try.undZint hi hz0 hz1 hz2 rfl (by decide) (.slice oa k oc) k _ rfl (own_below hown2 (below_new _ _)) ⟨w9.heap.size, 0, none⟩ 1 1 [.int .i64 y.2] rfl rfl (cell_one_new _ _ _) (by simp [Value.oneCell']) (by unfold maxLen; omega) (by omega) (by simp; omega) ?_; intro v9 W4 hown9 hgrow9 _)
          have hB9 : Below w6.heap.size w6 W4 := (bthen hbel2 (below_new w9 (.cells #[.int .i64 y.2] 3))).trans ((Below.refl _ _).grown hgrow9 (by simp; omega) (fun k hk => (World.ownsRow.lt hown2 k hk).1))
          have hown4 : W4.ownsRow w6.heap.size 3 1 v9 (k + 1) ((gmpL l (k + 1)).map (Value.int .i64)) := by
            rw [gmpL_succ, HRV.out]; exact hown9
          clear hown9 hown2 hbel2 hgrow9 c1
          go_wp2_with fail
          go_roundw
          case rel => exact ⟨k + 1, by omega, by go_num, hown4, hB9⟩
          case measure => simp [intOf]; omega
    · have hk5 : k = 62 := by omega
      have hP : Ints wr u13 (gmpL l 62) := by
        rw [hk5] at hown
        exact Ints.of_own (n := 62) hown (by rw [gmpL_len])
      have hd5 : ¬ (k : Int) < 62 := by omega
      clear hown hk5
      go_wp2
      go_ret2
      exact ⟨⟨_, rfl, hP⟩, hB.trans (hbel.mono hB.size)⟩
end Go.Proofs.Ytipmjjnhdjcoiaa

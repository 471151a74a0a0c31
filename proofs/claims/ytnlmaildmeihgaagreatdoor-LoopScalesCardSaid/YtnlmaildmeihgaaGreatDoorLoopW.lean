/- Strength. -/
import Derived.Test.YtnlmaildmeihgaaGreatDoorLoopV
import Derived.Deep.DeepCutAuto
namespace Go.Proofs.YtnlmaildmeihgaaGreatDoor
open Go.RowKit

set_option maxHeartbeats 400000 in
theorem mappedN_any (K : Nat) (cap : Array Value) (henter : ∀ args w, Sem.run Tryz.prog (callFunc K args) w = .ok (.enter K args) w) (g : Int → Int) (v : Value) (l : List Int) (w : World) (hl : l.length * 8 ≤ 140737488351232) (hv : Ints w v l)
    (hf : ∀ x ∈ l, ∀ w1, Below w.heap.size w w1 → Calls Tryz.prog K (#[.int .i64 x] ++ cap) w1 fun r w2 => r = .returned (.int .i64 (g x)) ∧ w1 = w2) :
    Calls Tryz.prog 101 #[v, .func (.func K) #[] cap] w fun r w' => (∃ u, r = .returned u ∧ Ints w' u (l.map g)) ∧ Below w.heap.size w w' := by
  obtain ⟨a, cp, rfl, hc, hv⟩ := hv
  rcases Nat.eq_zero_or_pos l.length with h0 | h0
  · obtain rfl : l = [] := List.length_eq_zero_iff.1 h0
    go_enter Tryz.func101, Tryz.ntmps101
    go_wp2
    go_loop [5, 10] (fun v i => v = .slice none 0 0 ∧ i = .int .i64 0) (fun _ _ => 0)
    case atStart => exact ⟨rfl, rfl⟩
    case round =>
      obtain ⟨rfl, rfl⟩ := hrel
      go_wp2
      go_ret
      exact ⟨⟨_, rfl, Ints.nil _⟩, Below.refl _ _⟩
  · obtain ⟨b, off, rfl, hcs⟩ := hv h0
    clear hv
    obtain ⟨i0, hi, hz0, hz1, hz2⟩ := info_parts Tryz.infoInt
    go_enter Tryz.func101, Tryz.ntmps101
    go_wp2
    go_loopw [5, 10] (fun v i wr => ∃ k : Nat, k ≤ l.length ∧ i = .int .i64 k ∧ wr.ownsRow w.heap.size 3 1 v k ((l.take k).map fun x => Value.int .i64 (g x)) ∧ Below w.heap.size w wr) (fun _ i _ => l.length - (intOf i).toNat)
    case atStart => exact ⟨0, by omega, rfl, World.ownsRow_nil _ _ _ _, Below.refl _ _⟩
    case round =>
      obtain ⟨k, hk, rfl, hown, hbel⟩ := hrel
      by_cases hlt : k < l.length
      · have hcell := hcs k hlt
        have hcell2 : wr.cell? ⟨b, off + k, none⟩ = some (.int .i64 (l[k]?.getD 0)) := (hbel.cell (p := ⟨b, off + k, none⟩) (lt_of_cellSome hcell)).trans hcell
        clear hcs hcell
        generalize hx : l[k]?.getD 0 = x at hcell2
        have HX := Lib.hid hx
        clear hx
        go_wp2_with fail
        refine (hf x (by rw [← HX.out]; simp [hlt]) wr hbel).mono ?_
        rintro e w2 ⟨rfl, rfl⟩
        go_wp2_with (at_builtin; refine wpList_append_own _ rfl _ _ 22 rfl w.heap.size 3 i0 (.int .i64 0) 1 8 Tryz.underlying22 hi hz0 hz1 hz2 rfl (by decide) _ _ _ rfl (hown.alloc _) ⟨wr.heap.size, 0, none⟩ 1 1 [.int .i64 (g x)] rfl rfl (cell_one_new _ _ _) (by simp [Value.oneCell']) (by unfold maxLen; omega) (by omega) (by have := hbel.size; simp; omega) ?_; intro v' w1 hown' hgrow _)
        have hbel' := below_own hbel hown hgrow
        have hown2 : w1.ownsRow w.heap.size 3 1 v' (k + 1) ((l.take (k + 1)).map fun x => Value.int .i64 (g x)) := by
          rw [take_succ_map _ _ _ x (getElem?_of_getD hlt HX.out)]; exact hown'
        clear hown hbel hown' hgrow
        go_wp2
        go_roundw
        case rel => exact ⟨k + 1, by omega, by go_num, hown2, hbel'⟩
        case measure => simp [intOf]; omega
      · obtain rfl : k = l.length := by omega
        have hout : Ints wr u5 (l.map g) := Ints.of_own (n := l.length) (by rw [List.take_length] at hown; rw [List.map_map]; exact hown) (by simp)
        clear hown
        go_wp2
        go_ret
        exact ⟨⟨_, rfl, hout⟩, hbel⟩

set_option maxHeartbeats 400000 in
theorem Strength1_any (x n : Int) (B : Nat) (w : World) (hc : w.cell? ⟨B, 0, none⟩ = some (.int .i64 n)) :
    Calls Tryz.prog 102 #[.int .i64 x, .pointer (some ⟨B, 0, none⟩)] w fun e w' => e = .returned (.int .i64 (wrap64 (n * x))) ∧ w = w' := by
  go_enter Tryz.func102, Tryz.ntmps102
  go_wp2
  go_ret
  exact ⟨rfl, rfl⟩

theorem Tryz.enterStrength1 (args : Array Value) (w : World) : Sem.run Tryz.prog (callFunc 102 args) w = .ok (.enter 102 args) w :=
  MuLone.run_callFunc_enter Tryz.func102 (by kernel_rfl) rfl args w

def strP (a b c d : List Int) (n : Int) : List Int := closedW (a.map fun x => wrap64 (n * x)) b c d
def strL (a b c d : List Int) : Nat → Int → Int × Int
  | 0, _ => (0, 7)
  | f + 1, n => if (strP a b c d n).any largeB then (0, 4) else if stableB (strP a b c d n) then strL a b c d f (n + 1) else (n, 0)
def str1E (a b c d : List Int) (most : Int) : Int := firstE [checkLoopE a b c d, withinE most 1 20]
def strengthRE (a b c d : List Int) (most : Int) : Int × Int := if str1E a b c d most ≠ 0 then (0, str1E a b c d most) else strL a b c d most.toNat 1

/-- the value in the cell to which a pointer leads. -/
def cellAt (v : Value) (w : World) : Value := match v with | .pointer (some a) => (w.cell? a).getD undef | _ => undef

set_option maxRecDepth 100000 in
set_option maxHeartbeats 4000000 in
theorem Strength_any (va vb vc vd : Value) (a b c d : List Int) (most : Int) (w : World) (ha : Ints w va a) (hb : Ints w vb b) (hc : Ints w vc c) (hd : Ints w vd d)
    (ha2 : a.length ≤ 100000) (hb2 : b.length ≤ 100000) (hc2 : c.length ≤ 100000) (hd2 : d.length ≤ 100000) :
    Calls Tryz.prog 28 #[.agg #[va, vb, vc, vd], .int .i64 most] w fun e w' => e = .returned (.tuple #[.int .i64 (strengthRE a b c d most).1, .int .i64 (strengthRE a b c d most).2]) ∧ Below w.heap.size w w' := by
  obtain ⟨xa, ca, rfl, _⟩ := id ha
  obtain ⟨xb, cb, rfl, _⟩ := id hb
  obtain ⟨xc, cc, rfl, _⟩ := id hc
  obtain ⟨xd, cd, rfl, _⟩ := id hd
  go_enter Tryz.func28, Tryz.ntmps28
  go_wp2_with fail
  obtain ⟨w1, hw1⟩ : ∃ v, v = World.alloc w (Obj.cells #[.slice xa a.length ca, .slice xb b.length cb, .slice xc c.length cc, .slice xd d.length cd] 44) := ⟨_, rfl⟩
  have kw1 : Below w.heap.size w w1 := by rw [hw1]; exact below_new _ _
  have iw1 : Blk w1 (w.heap.size) 44 [.slice xa a.length ca, .slice xb b.length cb, .slice xc c.length cc, .slice xd d.length cd] := by rw [hw1]; exact Blk.new _ _ _
  have sw1 : w1.heap.size = w.heap.size + 1 := by rw [hw1]; simp
  rw [← hw1]
  clear hw1
  have q0 := iw1.cell (j := 0) rfl
  have q1 := iw1.cell (j := 1) rfl
  have q2 := iw1.cell (j := 2) rfl
  have q3 := iw1.cell (j := 3) rfl
  go_wp2_with fail
  clear q0 q1 q2 q3
  refine (CheckLoop_any _ _ _ _ a b c d w1 (ha.carry kw1) (hb.carry kw1) (hc.carry kw1) (hd.carry kw1) ha2 hb2 hc2 hd2).mono ?_
  rintro e w2 ⟨rfl, h2⟩
  go_wp2_with fail
  refine (within_any _ _ _ _).mono ?_
  rintro e w' ⟨rfl, rfl⟩
  go_wp2_with fail
  refine (first2 _ _ _ _).mono ?_
  rintro e w' ⟨rfl, rfl⟩
  have h3 := bthen h2 (below_new w2 (.cells #[.int .i64 (checkLoopE a b c d), .int .i64 (withinE most 1 20)] 27))
  have hV := bthen kw1 h3
  have z := iw1.carry h3
  generalize w2.alloc _ = V at h3 hV z ⊢
  have hE : firstE [checkLoopE a b c d, withinE most 1 20] = str1E a b c d most := rfl
  rw [hE]
  clear h2 h3 kw1 iw1 sw1 hE
  by_cases he : str1E a b c d most = 0
  · obtain ⟨e1, e2⟩ := firstE_cons_ok (show firstE [checkLoopE a b c d, withinE most 1 20] = 0 from he)
    obtain ⟨e2, _⟩ := firstE_cons_ok e2
    obtain ⟨m1, m2⟩ := withinE_ok e2
    obtain ⟨⟨a1, a5⟩, ⟨bb1, b5⟩, ⟨c1, c5⟩, ⟨d1, d5⟩⟩ := checkLoopE_len e1
    have HR := Lib.hid (show strengthRE a b c d most = strL a b c d most.toNat 1 by rw [strengthRE, if_neg (by rw [he]; simp)])
    rw [he]
    clear he e1 e2
    go_wp2_with fail
    obtain ⟨v1, hv1⟩ : ∃ v, v = World.alloc V (Obj.cells #[.int .i64 1] 3) := ⟨_, rfl⟩
    have kv1 : Below V.heap.size V v1 := by rw [hv1]; exact below_new _ _
    have iv1 : Blk v1 (V.heap.size) 3 [.int .i64 1] := by rw [hv1]; exact Blk.new _ _ _
    have sv1 : v1.heap.size = V.heap.size + 1 := by rw [hv1]; simp
    rw [← hv1]
    clear hv1
    go_loopw [7] (fun v7 wr => ∃ (k B : Nat), v7 = .pointer (some ⟨B, 0, none⟩) ∧ (k : Int) ≤ most ∧ Blk wr B 3 [.int .i64 (1 + k)] ∧ V.heap.size ≤ B ∧ Below V.heap.size V wr ∧ strL a b c d most.toNat 1 = strL a b c d (most.toNat - k) (1 + k)) (fun v7 wr => (most + 1 - intOf (cellAt v7 wr)).toNat)
    case atStart => exact ⟨0, V.heap.size, rfl, by omega, iv1, Nat.le_refl _, kv1, rfl⟩
    case round =>
      obtain ⟨k, B, rfl, hk, hbx, hB, hbr, hst⟩ := hrel
      have zr := z.carry hbr
      have hbw := bthen hV hbr
      have c0 := hbx.cell (j := 0) rfl
      have HST := Lib.hid hst
      clear hst
      by_cases hle : 1 + (k : Int) ≤ most
      · obtain ⟨f, hf⟩ : ∃ f, most.toNat - k = f + 1 := ⟨most.toNat - k - 1, by omega⟩
        have HF := Lib.hid hf
        clear hf
        obtain ⟨n, hn⟩ : ∃ n : Int, n = 1 + k := ⟨_, rfl⟩
        have HN := Lib.hid hn
        rw [← hn] at hbx c0 hle
        have n1 : 1 ≤ n := by omega
        clear hn
        have q0 := zr.cell (j := 0) rfl
        have q1 := zr.cell (j := 1) rfl
        have q2 := zr.cell (j := 2) rfl
        have q3 := zr.cell (j := 3) rfl
        go_upto_region 7 with fail
        go_cut [8] from 23 to 29 (fun v8 wx => Ints wx v8 (strP a b c d n) ∧ Below wr.heap.size wr wx)
        case first =>
          have hD : Below wr.heap.size wr wr.drew := (Below.refl _ _).drew
          have t1 := Lib.hid (mappedN_any 102 #[.pointer (some ⟨B, 0, none⟩)] Tryz.enterStrength1 (fun x => wrap64 (n * x)) _ a wr.drew (by omega) (ha.carry (bthen hbw hD)) (fun x _ w1 h1 => Strength1_any x n B w1 (cellb (cellb c0 hD) h1)))
          have HZ := Lib.hid zr
          refine wp_region_held_drew (S := (fun w' => w'.cell? ⟨w.heap.size, 0, none⟩ = some (.slice xa a.length ca) ∧ w'.cell? ⟨w.heap.size, 1, none⟩ = some (.slice xb b.length cb) ∧ w'.cell? ⟨w.heap.size, 2, none⟩ = some (.slice xc c.length cc) ∧ w'.cell? ⟨w.heap.size, 3, none⟩ = some (.slice xd d.length cd))) (by kernel_rfl) ?_ (fun hHeld0 => ?_)
          · (try dsimp only); (first | go_keep | exact ⟨(HZ.out.carry h5).cell rfl, (HZ.out.carry h5).cell rfl, (HZ.out.carry h5).cell rfl, (HZ.out.carry h5).cell rfl⟩ | exact ⟨(HZ.out.carry h6).cell rfl, (HZ.out.carry h6).cell rfl, (HZ.out.carry h6).cell rfl, (HZ.out.carry h6).cell rfl⟩ | exact ⟨(HZ.out.carry h7).cell rfl, (HZ.out.carry h7).cell rfl, (HZ.out.carry h7).cell rfl, (HZ.out.carry h7).cell rfl⟩)
          refine wpAnyH_take (i := 0) (oi := { dst := some 23, op := Op.load 44 (Operand.tmp 2), type := 44, pos := "loop.go:414", after := #[], guard := none }) (v := ?_) rfl (by kernel_rfl) (by kernel_rfl) (by kernel_rfl) (fun _ _ _ h => h) (Or.inl ⟨by rfl, ?_⟩) (by assumption) ?_
          rotate_left
          · (intro w hSw; (try dsimp only at hSw); go_simp); (try with_reducible rfl)
          try simp only [Act.put, List.setIfInBounds_toArray, List.set_cons_zero, List.set_cons_succ]
          refine wpAnyH_take (i := 1) (oi := { dst := some 24, op := Op.fieldAddr 44 (Operand.tmp 2) 0, type := 0, pos := "loop.go:414", after := #[], guard := none }) (v := ?_) rfl (by kernel_rfl) (by kernel_rfl) (by kernel_rfl) (fun _ _ _ h => h) (Or.inl ⟨by rfl, ?_⟩) (by assumption) ?_
          rotate_left
          · (intro w hSw; (try dsimp only at hSw); go_simp); (try with_reducible rfl)
          try simp only [Act.put, List.setIfInBounds_toArray, List.set_cons_zero, List.set_cons_succ]
          refine wpAnyH_take (i := 2) (oi := { dst := some 25, op := Op.load 26 (Operand.tmp 24), type := 26, pos := "loop.go:414", after := #[{ on := 1, ground := Ground.data }], guard := none }) (v := ?_) rfl (by kernel_rfl) (by kernel_rfl) (by kernel_rfl) (fun _ _ _ h => h) (Or.inl ⟨by rfl, ?_⟩) (by assumption) ?_
          rotate_left
          · (intro w hSw; (try dsimp only at hSw); go_simp); (try with_reducible rfl)
          try simp only [Act.put, List.setIfInBounds_toArray, List.set_cons_zero, List.set_cons_succ]
          refine wpAnyH_take (i := 3) (oi := { dst := some 26, op := Op.makeFunc (Fn.func 102) #[] #[Operand.tmp 7], type := 159, pos := "loop.go:414", after := #[], guard := none }) (v := ?_) rfl (by kernel_rfl) (by kernel_rfl) (by kernel_rfl) (fun _ _ _ h => h) (Or.inl ⟨by rfl, ?_⟩) (by assumption) ?_
          rotate_left
          · (intro w hSw; (try dsimp only at hSw); go_simp); (try with_reducible rfl)
          try simp only [Act.put, List.setIfInBounds_toArray, List.set_cons_zero, List.set_cons_succ]
          refine wpAnyH_ready (rs := [4]) (by kernel_rfl) (by simp) ?_
          refine (AllReadyH.cons (o := { dst := some 27, op := Op.call { callee := Callee.value (Operand.func 101), args := #[Operand.tmp 25, Operand.tmp 26], argTypes := #[22, 159] }, type := 22, pos := "loop.go:414", after := #[{ on := 2, ground := Ground.data }, { on := 3, ground := Ground.data }], guard := none }) rfl (fun K hK => ?_) AllReadyH.nil)
          go_simp
          (first | (go_at_call 101; (with_reducible refine t1.out.mono ?_); rintro e w5 ⟨⟨u5, rfl, hu5⟩, h5'⟩; have h5 := bthen hD h5'; clear h5'; obtain ⟨ua5, uc5, rfl, _⟩ := id hu5; rw [List.length_map] at hu5) | (go_at_call 100; (with_reducible refine (with_any _ _ _ _ _ _ a b c d w5 hu5 (ha.carry (bthen hbw h5)) (hb.carry (bthen hbw h5)) (hc.carry (bthen hbw h5)) (hd.carry (bthen hbw h5))).mono ?_); rintro e w6 ⟨rfl, h6'⟩; have h6 := bthen h5 h6'; have hu6 := hu5.carry h6'; clear h6') | (go_at_call 98; (with_reducible refine (closed_any _ _ _ _ _ b c d w6 hu6 (hb.carry (bthen hbw h6)) (hc.carry (bthen hbw h6)) (hd.carry (bthen hbw h6)) (by simp; omega) bb1 c1 d1 (by simp; omega) (by omega) (by omega) (by omega)).mono ?_); rintro e w7 ⟨⟨u7, rfl, hu7⟩, h7'⟩; have h7 := bthen h6 h7'; clear h7'))
          (try go_wp2_with fail)
          refine hK.out _ _ ?_ (fun hHeld1 => ?_)
          · (try dsimp only); (first | go_keep | exact ⟨(HZ.out.carry h5).cell rfl, (HZ.out.carry h5).cell rfl, (HZ.out.carry h5).cell rfl, (HZ.out.carry h5).cell rfl⟩ | exact ⟨(HZ.out.carry h6).cell rfl, (HZ.out.carry h6).cell rfl, (HZ.out.carry h6).cell rfl, (HZ.out.carry h6).cell rfl⟩ | exact ⟨(HZ.out.carry h7).cell rfl, (HZ.out.carry h7).cell rfl, (HZ.out.carry h7).cell rfl, (HZ.out.carry h7).cell rfl⟩)
          clear hK K hHeld0
          try simp only [Act.put, List.setIfInBounds_toArray, List.set_cons_zero, List.set_cons_succ]
          refine wpAnyH_ready (rs := [5]) (by kernel_rfl) (by simp) ?_
          refine (AllReadyH.cons (o := { dst := some 28, op := Op.call { callee := Callee.value (Operand.func 100), args := #[Operand.tmp 23, Operand.tmp 27], argTypes := #[44, 26] }, type := 44, pos := "loop.go:414", after := #[{ on := 0, ground := Ground.data }, { on := 4, ground := Ground.data }, { on := 4, ground := Ground.chain }], guard := none }) rfl (fun K hK => ?_) AllReadyH.nil)
          go_simp
          (first | (go_at_call 101; (with_reducible refine t1.out.mono ?_); rintro e w5 ⟨⟨u5, rfl, hu5⟩, h5'⟩; have h5 := bthen hD h5'; clear h5'; obtain ⟨ua5, uc5, rfl, _⟩ := id hu5; rw [List.length_map] at hu5) | (go_at_call 100; (with_reducible refine (with_any _ _ _ _ _ _ a b c d w5 hu5 (ha.carry (bthen hbw h5)) (hb.carry (bthen hbw h5)) (hc.carry (bthen hbw h5)) (hd.carry (bthen hbw h5))).mono ?_); rintro e w6 ⟨rfl, h6'⟩; have h6 := bthen h5 h6'; have hu6 := hu5.carry h6'; clear h6') | (go_at_call 98; (with_reducible refine (closed_any _ _ _ _ _ b c d w6 hu6 (hb.carry (bthen hbw h6)) (hc.carry (bthen hbw h6)) (hd.carry (bthen hbw h6)) (by simp; omega) bb1 c1 d1 (by simp; omega) (by omega) (by omega) (by omega)).mono ?_); rintro e w7 ⟨⟨u7, rfl, hu7⟩, h7'⟩; have h7 := bthen h6 h7'; clear h7'))
          (try go_wp2_with fail)
          refine hK.out _ _ ?_ (fun hHeld2 => ?_)
          · (try dsimp only); (first | go_keep | exact ⟨(HZ.out.carry h5).cell rfl, (HZ.out.carry h5).cell rfl, (HZ.out.carry h5).cell rfl, (HZ.out.carry h5).cell rfl⟩ | exact ⟨(HZ.out.carry h6).cell rfl, (HZ.out.carry h6).cell rfl, (HZ.out.carry h6).cell rfl, (HZ.out.carry h6).cell rfl⟩ | exact ⟨(HZ.out.carry h7).cell rfl, (HZ.out.carry h7).cell rfl, (HZ.out.carry h7).cell rfl, (HZ.out.carry h7).cell rfl⟩)
          clear hK K hHeld1
          try simp only [Act.put, List.setIfInBounds_toArray, List.set_cons_zero, List.set_cons_succ]
          refine wpAnyH_ready (rs := [6]) (by kernel_rfl) (by simp) ?_
          refine (AllReadyH.cons (o := { dst := some 29, op := Op.call { callee := Callee.value (Operand.func 98), args := #[Operand.tmp 28], argTypes := #[44] }, type := 26, pos := "loop.go:414", after := #[{ on := 5, ground := Ground.data }, { on := 5, ground := Ground.chain }], guard := none }) rfl (fun K hK => ?_) AllReadyH.nil)
          go_simp
          (first | (go_at_call 101; (with_reducible refine t1.out.mono ?_); rintro e w5 ⟨⟨u5, rfl, hu5⟩, h5'⟩; have h5 := bthen hD h5'; clear h5'; obtain ⟨ua5, uc5, rfl, _⟩ := id hu5; rw [List.length_map] at hu5) | (go_at_call 100; (with_reducible refine (with_any _ _ _ _ _ _ a b c d w5 hu5 (ha.carry (bthen hbw h5)) (hb.carry (bthen hbw h5)) (hc.carry (bthen hbw h5)) (hd.carry (bthen hbw h5))).mono ?_); rintro e w6 ⟨rfl, h6'⟩; have h6 := bthen h5 h6'; have hu6 := hu5.carry h6'; clear h6') | (go_at_call 98; (with_reducible refine (closed_any _ _ _ _ _ b c d w6 hu6 (hb.carry (bthen hbw h6)) (hc.carry (bthen hbw h6)) (hd.carry (bthen hbw h6)) (by simp; omega) bb1 c1 d1 (by simp; omega) (by omega) (by omega) (by omega)).mono ?_); rintro e w7 ⟨⟨u7, rfl, hu7⟩, h7'⟩; have h7 := bthen h6 h7'; clear h7'))
          (try go_wp2_with fail)
          refine hK.out _ _ ?_ (fun hHeld3 => ?_)
          · (try dsimp only); (first | go_keep | exact ⟨(HZ.out.carry h5).cell rfl, (HZ.out.carry h5).cell rfl, (HZ.out.carry h5).cell rfl, (HZ.out.carry h5).cell rfl⟩ | exact ⟨(HZ.out.carry h6).cell rfl, (HZ.out.carry h6).cell rfl, (HZ.out.carry h6).cell rfl, (HZ.out.carry h6).cell rfl⟩ | exact ⟨(HZ.out.carry h7).cell rfl, (HZ.out.carry h7).cell rfl, (HZ.out.carry h7).cell rfl, (HZ.out.carry h7).cell rfl⟩)
          clear hK K hHeld2
          try simp only [Act.put, List.setIfInBounds_toArray, List.set_cons_zero, List.set_cons_succ]
          refine wpAnyH_take (i := 7) (oi := { dst := some 8, op := Op.assign (Operand.tmp 29), type := 26, pos := "loop.go:414", after := #[{ on := 6, ground := Ground.data }, { on := 6, ground := Ground.chain }, { on := 0, ground := Ground.phase }, { on := 1, ground := Ground.phase }, { on := 2, ground := Ground.phase }, { on := 3, ground := Ground.phase }, { on := 4, ground := Ground.phase }, { on := 5, ground := Ground.phase }, { on := 6, ground := Ground.phase }], guard := none }) (v := ?_) rfl (by kernel_rfl) (by kernel_rfl) (by kernel_rfl) (fun _ _ _ h => h) (Or.inl ⟨by rfl, ?_⟩) (by assumption) ?_
          rotate_left
          · (intro w hSw; (try dsimp only at hSw); go_simp); (try with_reducible rfl)
          try simp only [Act.put, List.setIfInBounds_toArray, List.set_cons_zero, List.set_cons_succ]
          refine wpAnyH_done (by kernel_rfl) ?_ _
          clear hHeld3
          (go_wp2_with fail; go_meet; exact ⟨hu7, h7⟩)
        case rest =>
          obtain ⟨hu, hbc⟩ := hcut
          obtain ⟨wo, rfl⟩ : ∃ v, v = wc := ⟨_, rfl⟩
          have hx2 := hbx.carry hbc
          have hbr2 := hbr.trans (hbc.mono hbr.size)
          have hbw2 := bthen hbw hbc
          have hsl : (strP a b c d n).length ≤ 100000 := by
            have := closedW_length (a.map fun x => wrap64 (n * x)) b c d
            simp only [List.length_map] at this
            unfold strP; omega
          obtain ⟨ua, uc, rfl, _⟩ := id hu
          have C0 := Lib.hid c0
          clear q0 q1 q2 q3 c0 hbx zr
          have c0 := hx2.cell (j := 0) rfl
          by_cases hg : (strP a b c d n).any largeB = true
          · have HR2 := Lib.hid (show strL a b c d most.toNat 1 = (0, 4) by rw [HST.out, HF.out, ← HN.out, strL, if_pos hg])
            have HG := Lib.hid (isLarge_any _ (strP a b c d n) wo (by omega) hu)
            rw [hg] at HG
            clear hg
            go_wp2_with fail
            refine (HG.out).mono ?_
            rintro e w' ⟨rfl, rfl⟩
            go_wp2
            go_ret2
            exact ⟨by rw [HR.out, HR2.out]; rfl, hbw2⟩
          · have hg' : (strP a b c d n).any largeB = false := by simpa using hg
            have HG := Lib.hid (isLarge_any _ (strP a b c d n) wo (by omega) hu)
            rw [hg'] at HG
            have hi := isStable_any _ (strP a b c d n) wo hu (by omega)
            by_cases hs : stableB (strP a b c d n) = true
            · have HR2 := Lib.hid (show strL a b c d most.toNat 1 = strL a b c d (most.toNat - (k + 1)) (1 + ((k + 1 : Nat) : Int)) by
                rw [HST.out, HF.out, ← HN.out, strL, if_neg hg, if_pos hs, show most.toNat - (k + 1) = f from by have := HF.out; omega, show n + 1 = 1 + ((k + 1 : Nat) : Int) from by have := HN.out; omega])
              rw [hs] at hi
              have HI := Lib.hid hi
              clear hg hg' hs hi
              go_wp2_with fail
              refine (HG.out).mono ?_
              rintro e w' ⟨rfl, rfl⟩
              go_wp2_with fail
              refine (HI.out).mono ?_
              rintro e w9 ⟨rfl, h9⟩
              have c1 := cellb c0 h9
              clear c0
              go_wp2
              go_roundw
              case rel =>
                refine ⟨k + 1, w9.heap.size, rfl, by have := HN.out; omega, ?_, ?_, ?_, HR2.out⟩
                · have h := Blk.new w9 3 [.int .i64 (n + 1)]
                  rw [show n + 1 = 1 + ((k + 1 : Nat) : Int) from by have := HN.out; omega] at h ⊢
                  exact h
                · have := hbr2.size; have := h9.size; omega
                · exact (hbr2.trans (h9.mono hbr2.size)).trans ((below_new w9 _).mono (by have := hbr2.size; have := h9.size; omega))
              case measure =>
                have e1 : cellAt (.pointer (some ⟨w9.heap.size, 0, none⟩)) (w9.alloc (.cells #[.int .i64 (n + 1)] 3)) = .int .i64 (n + 1) := by
                  show ((World.cell? _ _).getD undef) = _
                  rw [cell_new]; rfl
                have e2 : cellAt (.pointer (some ⟨B, 0, none⟩)) wr = .int .i64 n := by
                  show ((World.cell? _ _).getD undef) = _
                  rw [C0.out]; rfl
                rw [e1, e2]; simp only [intOf]; omega
            · have hs' : stableB (strP a b c d n) = false := by simpa using hs
              have HR2 := Lib.hid (show strL a b c d most.toNat 1 = (n, 0) by rw [HST.out, HF.out, ← HN.out, strL, if_neg hg, if_neg hs])
              rw [hs'] at hi
              have HI := Lib.hid hi
              clear hg hg' hs hs' hi
              go_wp2_with fail
              refine (HG.out).mono ?_
              rintro e w' ⟨rfl, rfl⟩
              go_wp2_with fail
              refine (HI.out).mono ?_
              rintro e w9 ⟨rfl, h9⟩
              have c1 := cellb c0 h9
              clear c0
              go_wp2
              go_ret2
              exact ⟨by rw [HR.out, HR2.out]; rfl, bthen hbw2 h9⟩
      · have hk2 : (k : Int) = most := by omega
        have HR2 := Lib.hid (show strL a b c d most.toNat 1 = (0, 7) by rw [HST.out, show most.toNat - k = 0 from by omega, strL])
        clear hk2
        go_wp2
        go_ret2
        exact ⟨by rw [HR.out, HR2.out]; rfl, hbw⟩
  · have HR := Lib.hid (show strengthRE a b c d most = (0, str1E a b c d most) by rw [strengthRE, if_pos he])
    go_wp2
    go_ret2
    exact ⟨by rw [HR.out]; rfl, hV⟩

end Go.Proofs.YtnlmaildmeihgaaGreatDoor

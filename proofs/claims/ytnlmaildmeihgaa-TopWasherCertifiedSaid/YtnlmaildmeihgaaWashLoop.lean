/- washerLoop. -/
import Derived.Test.YtnlmaildmeihgaaWashCert
import Derived.Test.YtnlmaildmeihgaaAppend
namespace Go.Proofs.Ytnlmaildmeihgaa
open Go.RowKit

set_option maxHeartbeats 1000000 in
theorem washerLoop1_any (v : Value) (l : List Int) (w : World) (hv : Ints w v l) (hl : l.length ≤ 1000000) :
    Calls Try.prog 30 #[v] w (GivesInts w l) := by
  obtain ⟨i0, hi, hz0, hz1, hz2⟩ := info_parts Try.infoInt
  obtain ⟨a, cap, rfl, _⟩ := id hv
  go_enter Try.func30, Try.ntmps30
  go_wp2_with (at_builtin; refine wpList_append_fresh rfl (.tmp 3) (.tmp 4) 25 24 3 3 rfl i0 (.int .i64 0) Try.underlying25 Try.underlying24 hi hz0 hz1 hz2 w.heap.size 0 rfl _ l rfl (hv.alloc _) (by omega) ?_; intro b1 o1 c1 w1 hi1 hl1)
  go_ret
  exact ⟨⟨_, rfl, hi1⟩, bthen (below_new w (.cells #[] 3)) hl1⟩

/-- a store into a block that holds no integers leaves a slice of integers as it was. -/
theorem Ints.store {w : World} {v : Value} {l : List Int} {B j : Nat} {T : TypeId} {vs : List Value} {x : Value} (h : Ints w v l) (hb : Blk w B T vs) (hne : ∀ u ∈ vs, ∀ n, u ≠ .int .i64 n) : Ints (w.setCell ⟨B, j, none⟩ x) v l := by
  obtain ⟨a, cap, hv, hc, h⟩ := h
  refine ⟨a, cap, hv, hc, fun hl => ?_⟩
  obtain ⟨b, off, ha, h⟩ := h hl
  refine ⟨b, off, ha, fun i hi => ?_⟩
  have hc := h i hi
  have hbB : b ≠ B := by
    rintro rfl
    have hh := hc
    simp only [World.cell?, show w.heap[b]? = _ from hb] at hh
    have hm : Value.int .i64 (l[i]?.getD 0) ∈ vs := by
      have : vs.toArray[off + i]? = some (Value.int .i64 (l[i]?.getD 0)) := by simpa using hh
      rw [List.getElem?_toArray] at this
      exact List.mem_of_getElem? this
    exact hne _ hm _ rfl
  exact (World.cell?_of_block (a := ⟨b, off + i, none⟩) (Below.heap_setCell _ _ _ _ hbB)).trans hc

set_option maxHeartbeats 4000000 in
theorem washerLoop_any (va vb vc vd : Value) (a b c d : List Int) (w : World) (ha : Ints w va a) (hb : Ints w vb b) (hc : Ints w vc c) (hd : Ints w vd d)
    (ha2 : a.length ≤ 100000) (hb2 : b.length ≤ 100000) (hc2 : c.length ≤ 100000) (hd2 : d.length ≤ 100000) :
    Calls Try.prog 12 #[.agg #[va, vb, vc, vd]] w fun e w' => (∃ ua ub uc ud, e = .returned (.agg #[ua, ub, uc, ud]) ∧ Ints w' ua a ∧ Ints w' ub b ∧ Ints w' uc c ∧ Ints w' ud d) ∧ Below w.heap.size w w' := by
  obtain ⟨xa, ca, rfl, _⟩ := id ha
  obtain ⟨xb, cb, rfl, _⟩ := id hb
  obtain ⟨xc, cc, rfl, _⟩ := id hc
  obtain ⟨xd, cd, rfl, _⟩ := id hd
  go_enter Try.func12, Try.ntmps12
  go_wp2_with fail
  obtain ⟨w1, hw1⟩ : ∃ v, v = w.alloc (Obj.cells #[.slice xa a.length ca, .slice xb b.length cb, .slice xc c.length cc, .slice xd d.length cd] 43) := ⟨_, rfl⟩
  have b1 : Below w.heap.size w w1 := by rw [hw1]; exact below_new _ _
  have s1 : w1.heap.size = w.heap.size + 1 := by rw [hw1]; simp
  have z1 : Blk w1 w.heap.size 43 [.slice xa a.length ca, .slice xb b.length cb, .slice xc c.length cc, .slice xd d.length cd] := by rw [hw1]; exact Blk.new _ _ _
  rw [← hw1]
  obtain ⟨W, hW⟩ : ∃ v, v = w1.alloc (Obj.cells #[Value.slice none 0 0, Value.slice none 0 0, Value.slice none 0 0, Value.slice none 0 0] 51) := ⟨_, rfl⟩
  have b2 : Below w1.heap.size w1 W := by rw [hW]; exact below_new _ _
  have y : Blk W (w.heap.size + 1) 51 [.slice none 0 0, .slice none 0 0, .slice none 0 0, .slice none 0 0] := by rw [hW, ← s1]; exact Blk.new _ _ _
  rw [← hW]
  have hbW := bthen b1 b2
  have z := z1.carry b2
  clear hW hw1 b1 b2 z1 s1
  have HZ := Lib.hid z
  have HY := Lib.hid y
  have k0 := z.cell (j := 0) rfl
  have k1 := z.cell (j := 1) rfl
  have k2 := z.cell (j := 2) rfl
  have k3 := z.cell (j := 3) rfl
  clear z y
  have ha := ha.carry hbW
  have hb := hb.carry hbW
  have hc := hc.carry hbW
  have hd := hd.carry hbW
  have T1 := Lib.hid (washerLoop1_any _ a W.drew ha.drew (by omega))
  have HB := Lib.hid hb
  have HC := Lib.hid hc
  have HD := Lib.hid hd
  refine wp_region_held_drew (S := (fun w' => w'.cell? ⟨w.heap.size, 0, none⟩ = some (.slice xa a.length ca) ∧ w'.cell? ⟨w.heap.size, 1, none⟩ = some (.slice xb b.length cb) ∧ w'.cell? ⟨w.heap.size, 2, none⟩ = some (.slice xc c.length cc) ∧ w'.cell? ⟨w.heap.size, 3, none⟩ = some (.slice xd d.length cd))) (by kernel_rfl) ?_ (fun hHeld0 => ?_)
  · (try dsimp only); (first | go_keep | exact ⟨(HZ.out.carry h2).cell rfl, (HZ.out.carry h2).cell rfl, (HZ.out.carry h2).cell rfl, (HZ.out.carry h2).cell rfl⟩ | exact ⟨(HZ.out.carry h3).cell rfl, (HZ.out.carry h3).cell rfl, (HZ.out.carry h3).cell rfl, (HZ.out.carry h3).cell rfl⟩ | exact ⟨(HZ.out.carry h4).cell rfl, (HZ.out.carry h4).cell rfl, (HZ.out.carry h4).cell rfl, (HZ.out.carry h4).cell rfl⟩ | exact ⟨(HZ.out.carry h5).cell rfl, (HZ.out.carry h5).cell rfl, (HZ.out.carry h5).cell rfl, (HZ.out.carry h5).cell rfl⟩ | exact ⟨(zz _ _ _ _).cell rfl, (zz _ _ _ _).cell rfl, (zz _ _ _ _).cell rfl, (zz _ _ _ _).cell rfl⟩)
  refine wpAnyH_take (i := 0) (oi := { dst := some 4, op := Op.move (Operand.tmp 3), type := 72, pos := "top03_wt47d.go:19", after := #[], guard := none }) (v := ?_) rfl (by kernel_rfl) (by kernel_rfl) (by kernel_rfl) (fun _ _ _ h => h) (Or.inl ⟨by rfl, ?_⟩) (by assumption) ?_
  rotate_left
  · (intro w hSw; (try dsimp only at hSw); go_simp); (try with_reducible rfl)
  try simp only [Act.put, List.setIfInBounds_toArray, List.set_cons_zero, List.set_cons_succ]
  refine wpAnyH_take (i := 1) (oi := { dst := some 5, op := Op.fieldAddr 43 (Operand.tmp 1) 0, type := 0, pos := "top03_wt47d.go:19", after := #[], guard := none }) (v := ?_) rfl (by kernel_rfl) (by kernel_rfl) (by kernel_rfl) (fun _ _ _ h => h) (Or.inl ⟨by rfl, ?_⟩) (by assumption) ?_
  rotate_left
  · (intro w hSw; (try dsimp only at hSw); go_simp); (try with_reducible rfl)
  try simp only [Act.put, List.setIfInBounds_toArray, List.set_cons_zero, List.set_cons_succ]
  refine wpAnyH_take (i := 2) (oi := { dst := some 6, op := Op.load 24 (Operand.tmp 5), type := 24, pos := "top03_wt47d.go:19", after := #[{ on := 1, ground := Ground.data }], guard := none }) (v := ?_) rfl (by kernel_rfl) (by kernel_rfl) (by kernel_rfl) (fun _ _ _ h => h) (Or.inl ⟨by rfl, ?_⟩) (by assumption) ?_
  rotate_left
  · (intro w hSw; (try dsimp only at hSw); go_simp); (try with_reducible rfl)
  try simp only [Act.put, List.setIfInBounds_toArray, List.set_cons_zero, List.set_cons_succ]
  refine wpAnyH_take (i := 4) (oi := { dst := some 8, op := Op.move (Operand.tmp 3), type := 72, pos := "top03_wt47d.go:19", after := #[], guard := none }) (v := ?_) rfl (by kernel_rfl) (by kernel_rfl) (by kernel_rfl) (fun _ _ _ h => h) (Or.inl ⟨by rfl, ?_⟩) (by assumption) ?_
  rotate_left
  · (intro w hSw; (try dsimp only at hSw); go_simp); (try with_reducible rfl)
  try simp only [Act.put, List.setIfInBounds_toArray, List.set_cons_zero, List.set_cons_succ]
  refine wpAnyH_take (i := 5) (oi := { dst := some 9, op := Op.fieldAddr 43 (Operand.tmp 1) 1, type := 0, pos := "top03_wt47d.go:19", after := #[], guard := none }) (v := ?_) rfl (by kernel_rfl) (by kernel_rfl) (by kernel_rfl) (fun _ _ _ h => h) (Or.inl ⟨by rfl, ?_⟩) (by assumption) ?_
  rotate_left
  · (intro w hSw; (try dsimp only at hSw); go_simp); (try with_reducible rfl)
  try simp only [Act.put, List.setIfInBounds_toArray, List.set_cons_zero, List.set_cons_succ]
  refine wpAnyH_take (i := 6) (oi := { dst := some 10, op := Op.load 24 (Operand.tmp 9), type := 24, pos := "top03_wt47d.go:19", after := #[{ on := 5, ground := Ground.data }], guard := none }) (v := ?_) rfl (by kernel_rfl) (by kernel_rfl) (by kernel_rfl) (fun _ _ _ h => h) (Or.inl ⟨by rfl, ?_⟩) (by assumption) ?_
  rotate_left
  · (intro w hSw; (try dsimp only at hSw); go_simp); (try with_reducible rfl)
  try simp only [Act.put, List.setIfInBounds_toArray, List.set_cons_zero, List.set_cons_succ]
  refine wpAnyH_take (i := 8) (oi := { dst := some 12, op := Op.move (Operand.tmp 3), type := 72, pos := "top03_wt47d.go:19", after := #[], guard := none }) (v := ?_) rfl (by kernel_rfl) (by kernel_rfl) (by kernel_rfl) (fun _ _ _ h => h) (Or.inl ⟨by rfl, ?_⟩) (by assumption) ?_
  rotate_left
  · (intro w hSw; (try dsimp only at hSw); go_simp); (try with_reducible rfl)
  try simp only [Act.put, List.setIfInBounds_toArray, List.set_cons_zero, List.set_cons_succ]
  refine wpAnyH_take (i := 9) (oi := { dst := some 13, op := Op.fieldAddr 43 (Operand.tmp 1) 2, type := 0, pos := "top03_wt47d.go:19", after := #[], guard := none }) (v := ?_) rfl (by kernel_rfl) (by kernel_rfl) (by kernel_rfl) (fun _ _ _ h => h) (Or.inl ⟨by rfl, ?_⟩) (by assumption) ?_
  rotate_left
  · (intro w hSw; (try dsimp only at hSw); go_simp); (try with_reducible rfl)
  try simp only [Act.put, List.setIfInBounds_toArray, List.set_cons_zero, List.set_cons_succ]
  refine wpAnyH_take (i := 10) (oi := { dst := some 14, op := Op.load 24 (Operand.tmp 13), type := 24, pos := "top03_wt47d.go:19", after := #[{ on := 9, ground := Ground.data }], guard := none }) (v := ?_) rfl (by kernel_rfl) (by kernel_rfl) (by kernel_rfl) (fun _ _ _ h => h) (Or.inl ⟨by rfl, ?_⟩) (by assumption) ?_
  rotate_left
  · (intro w hSw; (try dsimp only at hSw); go_simp); (try with_reducible rfl)
  try simp only [Act.put, List.setIfInBounds_toArray, List.set_cons_zero, List.set_cons_succ]
  refine wpAnyH_take (i := 12) (oi := { dst := some 16, op := Op.move (Operand.tmp 3), type := 72, pos := "top03_wt47d.go:19", after := #[], guard := none }) (v := ?_) rfl (by kernel_rfl) (by kernel_rfl) (by kernel_rfl) (fun _ _ _ h => h) (Or.inl ⟨by rfl, ?_⟩) (by assumption) ?_
  rotate_left
  · (intro w hSw; (try dsimp only at hSw); go_simp); (try with_reducible rfl)
  try simp only [Act.put, List.setIfInBounds_toArray, List.set_cons_zero, List.set_cons_succ]
  refine wpAnyH_take (i := 13) (oi := { dst := some 17, op := Op.fieldAddr 43 (Operand.tmp 1) 3, type := 0, pos := "top03_wt47d.go:19", after := #[], guard := none }) (v := ?_) rfl (by kernel_rfl) (by kernel_rfl) (by kernel_rfl) (fun _ _ _ h => h) (Or.inl ⟨by rfl, ?_⟩) (by assumption) ?_
  rotate_left
  · (intro w hSw; (try dsimp only at hSw); go_simp); (try with_reducible rfl)
  try simp only [Act.put, List.setIfInBounds_toArray, List.set_cons_zero, List.set_cons_succ]
  refine wpAnyH_take (i := 14) (oi := { dst := some 18, op := Op.load 24 (Operand.tmp 17), type := 24, pos := "top03_wt47d.go:19", after := #[{ on := 13, ground := Ground.data }], guard := none }) (v := ?_) rfl (by kernel_rfl) (by kernel_rfl) (by kernel_rfl) (fun _ _ _ h => h) (Or.inl ⟨by rfl, ?_⟩) (by assumption) ?_
  rotate_left
  · (intro w hSw; (try dsimp only at hSw); go_simp); (try with_reducible rfl)
  try simp only [Act.put, List.setIfInBounds_toArray, List.set_cons_zero, List.set_cons_succ]
  refine wpAnyH_ready (rs := [3]) (by kernel_rfl) (by simp) ?_
  refine (AllReadyH.cons (o := { dst := some 7, op := Op.call { callee := Callee.value (Operand.tmp 4), args := #[Operand.tmp 6], argTypes := #[24] }, type := 25, pos := "top03_wt47d.go:19", after := #[{ on := 0, ground := Ground.data }, { on := 2, ground := Ground.data }], guard := none }) rfl (fun K hK => ?_) AllReadyH.nil)
  go_simp
  (go_at_call 30; (with_reducible refine T1.out.mono ?_); rintro e w2 ⟨⟨ua, rfl, hua⟩, h2'⟩; have h2 := below_drew h2'; clear h2'; obtain ⟨aa, ac, rfl, _⟩ := id hua)
  (try go_wp2_with fail)
  refine hK.out _ _ ?_ (fun hHeld1 => ?_)
  · (try dsimp only); (first | go_keep | exact ⟨(HZ.out.carry h2).cell rfl, (HZ.out.carry h2).cell rfl, (HZ.out.carry h2).cell rfl, (HZ.out.carry h2).cell rfl⟩ | exact ⟨(HZ.out.carry h3).cell rfl, (HZ.out.carry h3).cell rfl, (HZ.out.carry h3).cell rfl, (HZ.out.carry h3).cell rfl⟩ | exact ⟨(HZ.out.carry h4).cell rfl, (HZ.out.carry h4).cell rfl, (HZ.out.carry h4).cell rfl, (HZ.out.carry h4).cell rfl⟩ | exact ⟨(HZ.out.carry h5).cell rfl, (HZ.out.carry h5).cell rfl, (HZ.out.carry h5).cell rfl, (HZ.out.carry h5).cell rfl⟩ | exact ⟨(zz _ _ _ _).cell rfl, (zz _ _ _ _).cell rfl, (zz _ _ _ _).cell rfl, (zz _ _ _ _).cell rfl⟩)
  clear hK K hHeld0
  try simp only [Act.put, List.setIfInBounds_toArray, List.set_cons_zero, List.set_cons_succ]
  refine wpAnyH_ready (rs := [7]) (by kernel_rfl) (by simp) ?_
  refine (AllReadyH.cons (o := { dst := some 11, op := Op.call { callee := Callee.value (Operand.tmp 8), args := #[Operand.tmp 10], argTypes := #[24] }, type := 25, pos := "top03_wt47d.go:19", after := #[{ on := 4, ground := Ground.data }, { on := 6, ground := Ground.data }, { on := 3, ground := Ground.chain }], guard := none }) rfl (fun K hK => ?_) AllReadyH.nil)
  go_simp
  (go_at_call 30; (with_reducible refine (washerLoop1_any _ b w2 (HB.out.carry h2) (by omega)).mono ?_); rintro e w3 ⟨⟨ub, rfl, hub⟩, h3'⟩; have h3 := bthen h2 h3'; have hua3 := hua.carry h3'; clear h3'; obtain ⟨ba, bc, rfl, _⟩ := id hub)
  (try go_wp2_with fail)
  refine hK.out _ _ ?_ (fun hHeld2 => ?_)
  · (try dsimp only); (first | go_keep | exact ⟨(HZ.out.carry h2).cell rfl, (HZ.out.carry h2).cell rfl, (HZ.out.carry h2).cell rfl, (HZ.out.carry h2).cell rfl⟩ | exact ⟨(HZ.out.carry h3).cell rfl, (HZ.out.carry h3).cell rfl, (HZ.out.carry h3).cell rfl, (HZ.out.carry h3).cell rfl⟩ | exact ⟨(HZ.out.carry h4).cell rfl, (HZ.out.carry h4).cell rfl, (HZ.out.carry h4).cell rfl, (HZ.out.carry h4).cell rfl⟩ | exact ⟨(HZ.out.carry h5).cell rfl, (HZ.out.carry h5).cell rfl, (HZ.out.carry h5).cell rfl, (HZ.out.carry h5).cell rfl⟩ | exact ⟨(zz _ _ _ _).cell rfl, (zz _ _ _ _).cell rfl, (zz _ _ _ _).cell rfl, (zz _ _ _ _).cell rfl⟩)
  clear hK K hHeld1
  try simp only [Act.put, List.setIfInBounds_toArray, List.set_cons_zero, List.set_cons_succ]
  refine wpAnyH_ready (rs := [11]) (by kernel_rfl) (by simp) ?_
  refine (AllReadyH.cons (o := { dst := some 15, op := Op.call { callee := Callee.value (Operand.tmp 12), args := #[Operand.tmp 14], argTypes := #[24] }, type := 25, pos := "top03_wt47d.go:19", after := #[{ on := 8, ground := Ground.data }, { on := 10, ground := Ground.data }, { on := 7, ground := Ground.chain }], guard := none }) rfl (fun K hK => ?_) AllReadyH.nil)
  go_simp
  (go_at_call 30; (with_reducible refine (washerLoop1_any _ c w3 (HC.out.carry h3) (by omega)).mono ?_); rintro e w4 ⟨⟨uc, rfl, huc⟩, h4'⟩; have h4 := bthen h3 h4'; have hua4 := hua3.carry h4'; have hub4 := hub.carry h4'; clear h4'; obtain ⟨xca, xcc, rfl, _⟩ := id huc)
  (try go_wp2_with fail)
  refine hK.out _ _ ?_ (fun hHeld3 => ?_)
  · (try dsimp only); (first | go_keep | exact ⟨(HZ.out.carry h2).cell rfl, (HZ.out.carry h2).cell rfl, (HZ.out.carry h2).cell rfl, (HZ.out.carry h2).cell rfl⟩ | exact ⟨(HZ.out.carry h3).cell rfl, (HZ.out.carry h3).cell rfl, (HZ.out.carry h3).cell rfl, (HZ.out.carry h3).cell rfl⟩ | exact ⟨(HZ.out.carry h4).cell rfl, (HZ.out.carry h4).cell rfl, (HZ.out.carry h4).cell rfl, (HZ.out.carry h4).cell rfl⟩ | exact ⟨(HZ.out.carry h5).cell rfl, (HZ.out.carry h5).cell rfl, (HZ.out.carry h5).cell rfl, (HZ.out.carry h5).cell rfl⟩ | exact ⟨(zz _ _ _ _).cell rfl, (zz _ _ _ _).cell rfl, (zz _ _ _ _).cell rfl, (zz _ _ _ _).cell rfl⟩)
  clear hK K hHeld2
  try simp only [Act.put, List.setIfInBounds_toArray, List.set_cons_zero, List.set_cons_succ]
  refine wpAnyH_ready (rs := [15]) (by kernel_rfl) (by simp) ?_
  refine (AllReadyH.cons (o := { dst := some 19, op := Op.call { callee := Callee.value (Operand.tmp 16), args := #[Operand.tmp 18], argTypes := #[24] }, type := 25, pos := "top03_wt47d.go:19", after := #[{ on := 12, ground := Ground.data }, { on := 14, ground := Ground.data }, { on := 11, ground := Ground.chain }], guard := none }) rfl (fun K hK => ?_) AllReadyH.nil)
  go_simp
  (go_at_call 30; (with_reducible refine (washerLoop1_any _ d w4 (HD.out.carry h4) (by omega)).mono ?_); rintro e w5 ⟨⟨ud, rfl, hud⟩, h5'⟩; have h5 := bthen h4 h5'; have hua5 := hua4.carry h5'; have hub5 := hub4.carry h5'; have huc5 := huc.carry h5'; clear h5'; obtain ⟨xda, xdc, rfl, _⟩ := id hud; have y5 := HY.out.carry h5; have y0 := y5.cell (j := 0) rfl; have y1 := y5.cell (j := 1) rfl; have y2 := y5.cell (j := 2) rfl; have y3 := y5.cell (j := 3) rfl; have g0 := y5.frozen 0; have g1 := y5.frozen 1; have g2 := y5.frozen 2; have g3 := y5.frozen 3; have zz := fun (p q r s : Value) => ((((HZ.out.carry h5).other (B' := w.heap.size + 1) (j := 0) (by simp) p).other (B' := w.heap.size + 1) (j := 1) (by simp) q).other (B' := w.heap.size + 1) (j := 2) (by simp) r).other (B' := w.heap.size + 1) (j := 3) (by simp) s)
  (try go_wp2_with fail)
  refine hK.out _ _ ?_ (fun hHeld4 => ?_)
  · (try dsimp only); (first | go_keep | exact ⟨(HZ.out.carry h2).cell rfl, (HZ.out.carry h2).cell rfl, (HZ.out.carry h2).cell rfl, (HZ.out.carry h2).cell rfl⟩ | exact ⟨(HZ.out.carry h3).cell rfl, (HZ.out.carry h3).cell rfl, (HZ.out.carry h3).cell rfl, (HZ.out.carry h3).cell rfl⟩ | exact ⟨(HZ.out.carry h4).cell rfl, (HZ.out.carry h4).cell rfl, (HZ.out.carry h4).cell rfl, (HZ.out.carry h4).cell rfl⟩ | exact ⟨(HZ.out.carry h5).cell rfl, (HZ.out.carry h5).cell rfl, (HZ.out.carry h5).cell rfl, (HZ.out.carry h5).cell rfl⟩ | exact ⟨(zz _ _ _ _).cell rfl, (zz _ _ _ _).cell rfl, (zz _ _ _ _).cell rfl, (zz _ _ _ _).cell rfl⟩)
  clear hK K hHeld3
  try simp only [Act.put, List.setIfInBounds_toArray, List.set_cons_zero, List.set_cons_succ]
  refine wpAnyH_take (i := 16) (oi := { dst := some 20, op := Op.build 51 #[(0, Operand.tmp 7), (1, Operand.tmp 11), (2, Operand.tmp 15), (3, Operand.tmp 19)], type := 51, pos := "top03_wt47d.go:19", after := #[{ on := 3, ground := Ground.data }, { on := 7, ground := Ground.data }, { on := 11, ground := Ground.data }, { on := 15, ground := Ground.data }], guard := none }) (v := ?_) rfl (by kernel_rfl) (by kernel_rfl) (by kernel_rfl) (fun _ _ _ h => h) (Or.inl ⟨by rfl, ?_⟩) (by assumption) ?_
  rotate_left
  · (intro w hSw; (try dsimp only at hSw); go_simp); (try with_reducible rfl)
  try simp only [Act.put, List.setIfInBounds_toArray, List.set_cons_zero, List.set_cons_succ]
  refine wpAnyH_ready (rs := [17]) (by kernel_rfl) (by simp) ?_
  refine (AllReadyH.cons (o := { dst := none, op := Op.store 51 (Operand.tmp 2) (Operand.tmp 20), type := 0, pos := "top03_wt47d.go:19", after := #[{ on := 16, ground := Ground.data }, { on := 15, ground := Ground.chain }, { on := 0, ground := Ground.phase }, { on := 1, ground := Ground.phase }, { on := 2, ground := Ground.phase }, { on := 3, ground := Ground.phase }, { on := 4, ground := Ground.phase }, { on := 5, ground := Ground.phase }, { on := 6, ground := Ground.phase }, { on := 7, ground := Ground.phase }, { on := 8, ground := Ground.phase }, { on := 9, ground := Ground.phase }, { on := 10, ground := Ground.phase }, { on := 11, ground := Ground.phase }, { on := 12, ground := Ground.phase }, { on := 13, ground := Ground.phase }, { on := 14, ground := Ground.phase }, { on := 15, ground := Ground.phase }, { on := 16, ground := Ground.phase }], guard := none }) rfl (fun K hK => ?_) AllReadyH.nil)
  go_simp
  refine hK.out _ _ ?_ (fun hHeld5 => ?_)
  · (try dsimp only); (first | go_keep | exact ⟨(HZ.out.carry h2).cell rfl, (HZ.out.carry h2).cell rfl, (HZ.out.carry h2).cell rfl, (HZ.out.carry h2).cell rfl⟩ | exact ⟨(HZ.out.carry h3).cell rfl, (HZ.out.carry h3).cell rfl, (HZ.out.carry h3).cell rfl, (HZ.out.carry h3).cell rfl⟩ | exact ⟨(HZ.out.carry h4).cell rfl, (HZ.out.carry h4).cell rfl, (HZ.out.carry h4).cell rfl, (HZ.out.carry h4).cell rfl⟩ | exact ⟨(HZ.out.carry h5).cell rfl, (HZ.out.carry h5).cell rfl, (HZ.out.carry h5).cell rfl, (HZ.out.carry h5).cell rfl⟩ | exact ⟨(zz _ _ _ _).cell rfl, (zz _ _ _ _).cell rfl, (zz _ _ _ _).cell rfl, (zz _ _ _ _).cell rfl⟩)
  clear hK K hHeld4
  try simp only [Act.put, List.setIfInBounds_toArray, List.set_cons_zero, List.set_cons_succ]
  refine wpAnyH_done (by kernel_rfl) ?_ _
  clear hHeld5
  go_wp2
  have q0 := y5.set 0 (.slice aa a.length ac)
  have q1 := q0.set 1 (.slice ba b.length bc)
  have q2 := q1.set 2 (.slice xca c.length xcc)
  have q3 := q2.set 3 (.slice xda d.length xdc)
  have r0 := q3.cell (j := 0) rfl
  have r1 := q3.cell (j := 1) rfl
  have r2 := q3.cell (j := 2) rfl
  have r3 := q3.cell (j := 3) rfl
  have keep : ∀ (v : Value) (l : List Int), Ints w5 v l → Ints ((((w5.setCell ⟨w.heap.size + 1, 0, none⟩ (.slice aa a.length ac)).setCell ⟨w.heap.size + 1, 1, none⟩ (.slice ba b.length bc)).setCell ⟨w.heap.size + 1, 2, none⟩ (.slice xca c.length xcc)).setCell ⟨w.heap.size + 1, 3, none⟩ (.slice xda d.length xdc)) v l := fun v l h =>
    (((h.store y5 (by simp)).store q0 (by simp)).store q1 (by simp)).store q2 (by simp)
  refine bodyPost_ret (v := .agg #[.slice aa a.length ac, .slice ba b.length bc, .slice xca c.length xcc, .slice xda d.length xdc]) ?_ rfl ⟨⟨_, _, _, _, rfl, keep _ _ hua5, keep _ _ hub5, keep _ _ huc5, keep _ _ hud⟩, ?_⟩
  · simp [results, Try.f12, go_sem, r0, r1, r2, r3]
  · exact ((((bthen hbW h5).setCell (by simp) _).setCell (by simp) _).setCell (by simp) _).setCell (by simp) _

/-- two steps, one behind the other. -/
theorem geo_pair (c den first : Int) (hc : -70 ≤ c ∧ c ≤ 70) (hd : 1 ≤ den ∧ den ≤ 9) (hf : 1 ≤ first ∧ first ≤ 200) (k : Nat) (hk1 : 1 ≤ k) (hk5 : k < 5) :
    ∃ x y : Int, first * (-c) ^ k = y ∧ first * (-c) ^ (k - 1) = x ∧ y = -c * x ∧ (x = 0 → c = 0) ∧ IntKind.i64.wrap (-c) = -c ∧ IntKind.i64.wrap (-x) = -x ∧ IntKind.i64.wrap (-y) = -y ∧ IntKind.i64.wrap (-c * x) = y ∧ IntKind.i64.wrap (den * if x < -x then -x else x) = den * max x (-x) ∧ (x ≠ 0 → decide ((if y < -y then -y else y) < den * max x (-x)) = fallsC den c) := by
  refine ⟨_, _, rfl, rfl, ?_, ?_, IntWalk.i64_in _ (by omega), ?_⟩
  · obtain ⟨j, rfl⟩ : ∃ j, k = j + 1 := ⟨k - 1, by omega⟩
    rw [Nat.add_sub_cancel, Int.pow_succ]; grind
  · intro h
    rcases Int.mul_eq_zero.1 h with h | h
    · omega
    · by_cases hc0 : c = 0
      · exact hc0
      · exact absurd h (Int.pow_ne_zero (by omega))
  · have hbd : (first * (-c) ^ (k - 1)).natAbs ≤ 200 * 70 ^ 4 :=
      Nat.le_trans (geo_bd first (-c) 200 70 (by omega) (by omega) (k - 1)) (Nat.mul_le_mul_left _ (Nat.pow_le_pow_right (by omega) (by omega)))
    have hyx : first * (-c) ^ k = -c * (first * (-c) ^ (k - 1)) := by
      obtain ⟨j, rfl⟩ : ∃ j, k = j + 1 := ⟨k - 1, by omega⟩
      rw [Nat.add_sub_cancel, Int.pow_succ]; grind
    rw [hyx]
    have hst := falls_step c den (first * (-c) ^ (k - 1))
    generalize first * (-c) ^ (k - 1) = x at hbd hst
    have hmx : ∀ z : Int, (if z < -z then -z else z) = max z (-z) := fun z => by split <;> omega
    rw [hmx x, hmx (-c * x)]
    have hcx : (-c * x).natAbs ≤ 70 * (200 * 70 ^ 4) := by rw [Int.natAbs_mul]; exact Nat.mul_le_mul (by omega) hbd
    have hdm : (den * max x (-x)).natAbs ≤ 9 * (200 * 70 ^ 4) := by rw [Int.natAbs_mul]; exact Nat.mul_le_mul (by omega) (by omega)
    generalize -c * x = y at hcx hst
    generalize den * max x (-x) = z at hdm hst
    exact ⟨IntWalk.i64_in _ (by omega), IntWalk.i64_in _ (by omega), IntWalk.i64_in _ (by omega), IntWalk.i64_in _ (by omega), hst⟩

theorem falls_ite (den c : Int) : decide ((if c < -c then -c else c) < den) = fallsC den c := by
  unfold fallsC; congr 1; rw [eq_iff_iff]; split <;> omega

theorem stepped_or (c den x : Int) (hc : -70 ≤ c ∧ c ≤ 70) (hx : 1 ≤ x ∧ x ≤ 200) (hcp : checkPolyE [c, den] = 0) :
    (steppedE [c, den] [x] 4 = 0 ∧ steppedR [c, den] [x] 4 = geo x (-c) 5) ∨ steppedE [c, den] [x] 4 = 4 := by
  rcases steps_or c den x hc hx 5 with ⟨h, _⟩ | h
  · exact .inl (stepped_of (n := 1) (st := 4) hcp rfl (by omega) rfl (by simp; omega) (by omega) h)
  · right
    have h1 : checkFirstE [c, den] [x] = 0 := by
      have : withinE x (-1000) 1000 = 0 := by unfold withinE; rw [if_neg (by omega)]
      simp [checkFirstE, firstE, this]
    have h2 : withinE 4 0 24 = 0 := by decide
    have h4 : step2E [c, den] [x] 4 = 0 := by rw [step2E, h1, h2]; rfl
    rw [steppedE, if_neg (by rw [hcp]; simp), if_neg (by rw [h4]; simp)]
    show (match stepL [c, den] [x] 1 5 with | none => 4 | some _ => 0) = (4 : Int)
    rw [h]

end Go.Proofs.Ytnlmaildmeihgaa

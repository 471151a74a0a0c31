/- CheckBox. -/
import Derived.Test.YtnlmaildmeihgaaGreatDoorMembers
import Derived.Deep.DeepCutAuto
namespace Go.Proofs.YtnlmaildmeihgaaGreatDoor
open Go.RowKit Go.Shelf

attribute [local go_sem] Oper.semAt_some

def box1E (a b c d : List Int) (bx : List (Int × Int)) : Int := firstE [checkLoopE a b c d, whenE ((bx.length : Int) != (a.length : Int)) 2, intervalsE bx]
def lastP (bx : List (Int × Int)) : Int × Int := bx[bx.length - 1]?.getD (0, 0)
def box2E (bx : List (Int × Int)) : Int := firstE [whenE (decide ((lastP bx).1 ≤ 0 ∧ 0 ≤ (lastP bx).2)) 6, whenE (decide (256 < manyW bx bx.length)) 5]
def checkBoxE (a b c d : List Int) (bx : List (Int × Int)) : Int :=
  if box1E a b c d bx ≠ 0 then box1E a b c d bx else if box2E bx ≠ 0 then box2E bx else if (membersW bx).any (fun p => (closedW p b c d).any largeB) then 4 else 0

theorem whenE_ok {c : Bool} {e : Int} (h : whenE c e = 0) (he : e ≠ 0) : c = false := by
  cases c
  · rfl
  · exact absurd h he
theorem firstE_map_ok {α : Type} {g : α → Int} {l : List α} (h : firstE (l.map g) = 0) : ∀ x ∈ l, g x = 0 := by
  induction l with
  | nil => intro x hx; simp at hx
  | cons y l ih =>
    obtain ⟨h1, h2⟩ := firstE_cons_ok h
    intro x hx
    rcases List.mem_cons.1 hx with rfl | hx
    · exact h1
    · exact ih h2 x hx
theorem intervalsE_ok {bx : List (Int × Int)} (h : intervalsE bx = 0) : ∀ x ∈ bx, -100 ≤ x.1 ∧ x.1 ≤ 100 ∧ -100 ≤ x.2 ∧ x.2 ≤ 100 ∧ x.1 ≤ x.2 := fun x hx => by
  have h := firstE_map_ok h x hx
  obtain ⟨h1, h⟩ := firstE_cons_ok h
  obtain ⟨h2, h⟩ := firstE_cons_ok h
  obtain ⟨h3, h⟩ := firstE_cons_ok h
  have h1 := withinE_ok h1
  have h2 := withinE_ok h2
  have h3 := whenE_ok h3 (by decide)
  simp at h3
  omega
theorem checkLoopE_len {a b c d : List Int} (h : checkLoopE a b c d = 0) : (1 ≤ a.length ∧ a.length ≤ 5) ∧ (1 ≤ b.length ∧ b.length ≤ 5) ∧ (1 ≤ c.length ∧ c.length ≤ 5) ∧ (1 ≤ d.length ∧ d.length ≤ 5) := by
  obtain ⟨h1, h2, h3, h4⟩ := checkLoopE_ok h
  exact ⟨checkPolyE_ok h1, checkPolyE_ok h2, checkPolyE_ok h3, checkPolyE_ok h4⟩
theorem box1E_ok {a b c d : List Int} {bx : List (Int × Int)} (h : box1E a b c d bx = 0) : checkLoopE a b c d = 0 ∧ bx.length = a.length ∧ intervalsE bx = 0 := by
  obtain ⟨h1, h⟩ := firstE_cons_ok h
  obtain ⟨h2, h⟩ := firstE_cons_ok h
  obtain ⟨h3, _⟩ := firstE_cons_ok h
  have h2 := whenE_ok h2 (by decide)
  exact ⟨h1, by rw [bne_eq_false_iff_eq] at h2; omega, h3⟩

set_option maxRecDepth 100000 in
set_option maxHeartbeats 4000000 in
theorem CheckBox_any (va vb vc vd vx : Value) (a b c d : List Int) (bx : List (Int × Int)) (w : World) (ha : Ints w va a) (hb : Ints w vb b) (hc : Ints w vc c) (hd : Ints w vd d) (hx : Pairs w vx bx)
    (ha2 : a.length ≤ 100000) (hb2 : b.length ≤ 100000) (hc2 : c.length ≤ 100000) (hd2 : d.length ≤ 100000) (hx2 : bx.length ≤ 100000) :
    Calls Tryz.prog 40 #[.agg #[va, vb, vc, vd], vx] w fun e w' => e = .returned (.int .i64 (checkBoxE a b c d bx)) ∧ Below w.heap.size w w' := by
  obtain ⟨xa, ca, rfl, _⟩ := id ha
  obtain ⟨xb, cb, rfl, _⟩ := id hb
  obtain ⟨xc, cc, rfl, _⟩ := id hc
  obtain ⟨xd, cd, rfl, _⟩ := id hd
  obtain ⟨xx, cx, rfl, _⟩ := id hx
  refine calls_of_postR Tryz.func40 rfl ?_
  simp only [Tryz.ntmps40, List.size_toArray, List.length_cons, List.length_nil, Nat.reduceAdd, Nat.reduceSub, Array.replicate_succ, Array.replicate_zero, List.push_toArray, List.append_toArray, List.nil_append, List.cons_append]
  go_wp2_with fail
  obtain ⟨w1, hw1⟩ : ∃ v, v = w.alloc (Obj.cells #[.slice xa a.length ca, .slice xb b.length cb, .slice xc c.length cc, .slice xd d.length cd] 44) := ⟨_, rfl⟩
  have b1 : Below w.heap.size w w1 := by rw [hw1]; exact below_new _ _
  have s1 : w1.heap.size = w.heap.size + 1 := by rw [hw1]; simp
  have z1 : Blk w1 w.heap.size 44 [.slice xa a.length ca, .slice xb b.length cb, .slice xc c.length cc, .slice xd d.length cd] := by rw [hw1]; exact Blk.new _ _ _
  rw [← hw1]
  obtain ⟨W, hW⟩ : ∃ v, v = w1.alloc (Obj.cells #[Value.int IntKind.i64 0] 27) := ⟨_, rfl⟩
  have b2 : Below w1.heap.size w1 W := by rw [hW]; exact below_new _ _
  have y2 : Blk W (w.heap.size + 1) 27 [.int .i64 0] := by rw [hW, ← s1]; exact Blk.new _ _ _
  rw [← hW]
  have hbW := bthen b1 b2
  have z4 := z1.carry b2
  have h4 : Four W w.heap.size (.slice xa a.length ca) (.slice xb b.length cb) (.slice xc c.length cc) (.slice xd d.length cd) := ⟨z4.cell rfl, z4.cell rfl, z4.cell rfl, z4.cell rfl⟩
  have HZ := Lib.hid z4
  clear hW hw1 b1 b2 z1 z4 s1
  have hF := Lib.hid h4
  have hszW : w.heap.size + 1 < W.heap.size := y2.lt
  have HY := Lib.hid y2
  clear y2
  obtain ⟨k0, k1, k2, k3⟩ := h4
  have t1 := CheckLoop_any _ _ _ _ a b c d W.drew (ha.below hbW).drew (hb.below hbW).drew (hc.below hbW).drew (hd.below hbW).drew ha2 hb2 hc2 hd2
  have T1 := Lib.hid t1
  clear t1
  refine wp_region_held_drew (S := (fun w' => w'.cell? ⟨w.heap.size, 0, none⟩ = some (.slice xa a.length ca) ∧ w'.cell? ⟨w.heap.size, 1, none⟩ = some (.slice xb b.length cb) ∧ w'.cell? ⟨w.heap.size, 2, none⟩ = some (.slice xc c.length cc) ∧ w'.cell? ⟨w.heap.size, 3, none⟩ = some (.slice xd d.length cd))) (by kernel_rfl) ?_ (fun hHeld0 => ?_)
  · (try dsimp only); (first | go_keep | exact Four.below hF.out h2 | exact Four.below hF.out h3)
  refine wpAnyH_take (i := 0) (oi := { dst := some 9, op := Op.load 44 (Operand.tmp 2), type := 44, pos := "loop.go:377", after := #[], guard := none }) (v := ?_) rfl (by kernel_rfl) (by kernel_rfl) (by kernel_rfl) (fun _ _ _ h => h) (Or.inl ⟨by rfl, ?_⟩) (by assumption) ?_
  rotate_left
  · (intro w hSw; (try dsimp only at hSw); go_simp); (try with_reducible rfl)
  try simp only [Act.put, List.setIfInBounds_toArray, List.set_cons_zero, List.set_cons_succ]
  refine wpAnyH_take (i := 2) (oi := { dst := some 11, op := Op.move (Operand.tmp 1), type := 67, pos := "loop.go:377", after := #[], guard := none }) (v := ?_) rfl (by kernel_rfl) (by kernel_rfl) (by kernel_rfl) (fun _ _ _ h => h) (Or.inl ⟨by rfl, ?_⟩) (by assumption) ?_
  rotate_left
  · (intro w hSw; (try dsimp only at hSw); go_simp); (try with_reducible rfl)
  try simp only [Act.put, List.setIfInBounds_toArray, List.set_cons_zero, List.set_cons_succ]
  refine wpAnyH_take (i := 3) (oi := { dst := some 12, op := Op.call { callee := Callee.builtin Builtin.len, args := #[Operand.tmp 11], argTypes := #[67] }, type := 3, pos := "loop.go:377", after := #[{ on := 2, ground := Ground.data }], guard := none }) (v := ?_) rfl (by kernel_rfl) (by kernel_rfl) (by kernel_rfl) (fun _ _ _ h => h) (Or.inl ⟨by rfl, ?_⟩) (by assumption) ?_
  rotate_left
  · (intro w hSw; (try dsimp only at hSw); go_simp); (try with_reducible rfl)
  try simp only [Act.put, List.setIfInBounds_toArray, List.set_cons_zero, List.set_cons_succ]
  refine wpAnyH_take (i := 4) (oi := { dst := some 13, op := Op.fieldAddr 44 (Operand.tmp 2) 0, type := 0, pos := "loop.go:377", after := #[], guard := none }) (v := ?_) rfl (by kernel_rfl) (by kernel_rfl) (by kernel_rfl) (fun _ _ _ h => h) (Or.inl ⟨by rfl, ?_⟩) (by assumption) ?_
  rotate_left
  · (intro w hSw; (try dsimp only at hSw); go_simp); (try with_reducible rfl)
  try simp only [Act.put, List.setIfInBounds_toArray, List.set_cons_zero, List.set_cons_succ]
  refine wpAnyH_take (i := 5) (oi := { dst := some 14, op := Op.load 26 (Operand.tmp 13), type := 26, pos := "loop.go:377", after := #[{ on := 4, ground := Ground.data }], guard := none }) (v := ?_) rfl (by kernel_rfl) (by kernel_rfl) (by kernel_rfl) (fun _ _ _ h => h) (Or.inl ⟨by rfl, ?_⟩) (by assumption) ?_
  rotate_left
  · (intro w hSw; (try dsimp only at hSw); go_simp); (try with_reducible rfl)
  try simp only [Act.put, List.setIfInBounds_toArray, List.set_cons_zero, List.set_cons_succ]
  refine wpAnyH_take (i := 6) (oi := { dst := some 15, op := Op.call { callee := Callee.builtin Builtin.len, args := #[Operand.tmp 14], argTypes := #[26] }, type := 3, pos := "loop.go:377", after := #[{ on := 5, ground := Ground.data }], guard := none }) (v := ?_) rfl (by kernel_rfl) (by kernel_rfl) (by kernel_rfl) (fun _ _ _ h => h) (Or.inl ⟨by rfl, ?_⟩) (by assumption) ?_
  rotate_left
  · (intro w hSw; (try dsimp only at hSw); go_simp); (try with_reducible rfl)
  try simp only [Act.put, List.setIfInBounds_toArray, List.set_cons_zero, List.set_cons_succ]
  refine wpAnyH_take (i := 7) (oi := { dst := some 16, op := Op.binOp BinOp.neq 3 (Operand.tmp 12) (Operand.tmp 15) 3, type := 4, pos := "loop.go:377", after := #[{ on := 3, ground := Ground.data }, { on := 6, ground := Ground.data }], guard := none }) (v := ?_) rfl (by kernel_rfl) (by kernel_rfl) (by kernel_rfl) (fun _ _ _ h => h) (Or.inl ⟨by rfl, ?_⟩) (by assumption) ?_
  rotate_left
  · (intro w hSw; (try dsimp only at hSw); go_simp); (try with_reducible rfl)
  try simp only [Act.put, List.setIfInBounds_toArray, List.set_cons_zero, List.set_cons_succ]
  refine wpAnyH_take (i := 9) (oi := { dst := some 18, op := Op.move (Operand.tmp 1), type := 67, pos := "loop.go:377", after := #[], guard := none }) (v := ?_) rfl (by kernel_rfl) (by kernel_rfl) (by kernel_rfl) (fun _ _ _ h => h) (Or.inl ⟨by rfl, ?_⟩) (by assumption) ?_
  rotate_left
  · (intro w hSw; (try dsimp only at hSw); go_simp); (try with_reducible rfl)
  try simp only [Act.put, List.setIfInBounds_toArray, List.set_cons_zero, List.set_cons_succ]
  refine wpAnyH_ready (rs := [1]) (by kernel_rfl) (by simp) ?_
  refine (AllReadyH.cons (o := { dst := some 10, op := Op.call { callee := Callee.value (Operand.func 35), args := #[Operand.tmp 9], argTypes := #[44] }, type := 27, pos := "loop.go:377", after := #[{ on := 0, ground := Ground.data }], guard := none }) rfl (fun K hK => ?_) AllReadyH.nil)
  go_simp
  (first | (go_at_call 35; (with_reducible refine T1.out.mono ?_); rintro e w2 ⟨rfl, h2'⟩; have h2 := below_drew h2'; clear h2') | (go_at_call 107; (with_reducible refine (when_any _ _ _).mono ?_); rintro e w' ⟨rfl, rfl⟩) | (go_at_call 110; (with_reducible refine (checkIntervals_any _ bx _ (hx.carry (bthen hbW h2)) (by omega)).mono ?_); rintro e w3 ⟨rfl, h3'⟩; have h3 := bthen h2 h3'; clear h3') | (go_at_call 90; (with_reducible refine (first3 _ _ _ _ _).mono ?_); rintro e w' ⟨rfl, rfl⟩))
  (try go_wp2_with fail)
  refine hK.out _ _ ?_ (fun hHeld1 => ?_)
  · (try dsimp only); (first | go_keep | exact Four.below hF.out h2 | exact Four.below hF.out h3)
  clear hK K hHeld0
  try simp only [Act.put, List.setIfInBounds_toArray, List.set_cons_zero, List.set_cons_succ]
  refine wpAnyH_ready (rs := [8]) (by kernel_rfl) (by simp) ?_
  refine (AllReadyH.cons (o := { dst := some 17, op := Op.call { callee := Callee.value (Operand.func 107), args := #[Operand.tmp 16, Operand.const (Value.int IntKind.i64 2)], argTypes := #[4, 27] }, type := 27, pos := "loop.go:377", after := #[{ on := 7, ground := Ground.data }, { on := 1, ground := Ground.chain }], guard := none }) rfl (fun K hK => ?_) AllReadyH.nil)
  go_simp
  (first | (go_at_call 35; (with_reducible refine T1.out.mono ?_); rintro e w2 ⟨rfl, h2'⟩; have h2 := below_drew h2'; clear h2') | (go_at_call 107; (with_reducible refine (when_any _ _ _).mono ?_); rintro e w' ⟨rfl, rfl⟩) | (go_at_call 110; (with_reducible refine (checkIntervals_any _ bx _ (hx.carry (bthen hbW h2)) (by omega)).mono ?_); rintro e w3 ⟨rfl, h3'⟩; have h3 := bthen h2 h3'; clear h3') | (go_at_call 90; (with_reducible refine (first3 _ _ _ _ _).mono ?_); rintro e w' ⟨rfl, rfl⟩))
  (try go_wp2_with fail)
  refine hK.out _ _ ?_ (fun hHeld2 => ?_)
  · (try dsimp only); (first | go_keep | exact Four.below hF.out h2 | exact Four.below hF.out h3)
  clear hK K hHeld1
  try simp only [Act.put, List.setIfInBounds_toArray, List.set_cons_zero, List.set_cons_succ]
  refine wpAnyH_ready (rs := [10]) (by kernel_rfl) (by simp) ?_
  refine (AllReadyH.cons (o := { dst := some 19, op := Op.call { callee := Callee.value (Operand.func 110), args := #[Operand.tmp 18], argTypes := #[67] }, type := 27, pos := "loop.go:377", after := #[{ on := 9, ground := Ground.data }, { on := 8, ground := Ground.chain }], guard := none }) rfl (fun K hK => ?_) AllReadyH.nil)
  go_simp
  (first | (go_at_call 35; (with_reducible refine T1.out.mono ?_); rintro e w2 ⟨rfl, h2'⟩; have h2 := below_drew h2'; clear h2') | (go_at_call 107; (with_reducible refine (when_any _ _ _).mono ?_); rintro e w' ⟨rfl, rfl⟩) | (go_at_call 110; (with_reducible refine (checkIntervals_any _ bx _ (hx.carry (bthen hbW h2)) (by omega)).mono ?_); rintro e w3 ⟨rfl, h3'⟩; have h3 := bthen h2 h3'; clear h3') | (go_at_call 90; (with_reducible refine (first3 _ _ _ _ _).mono ?_); rintro e w' ⟨rfl, rfl⟩))
  (try go_wp2_with fail)
  refine hK.out _ _ ?_ (fun hHeld3 => ?_)
  · (try dsimp only); (first | go_keep | exact Four.below hF.out h2 | exact Four.below hF.out h3)
  clear hK K hHeld2
  try simp only [Act.put, List.setIfInBounds_toArray, List.set_cons_zero, List.set_cons_succ]
  refine wpAnyH_ready (rs := [11]) (by kernel_rfl) (by simp) ?_
  refine (AllReadyH.cons (o := { dst := some 20, op := Op.buildSlice 174 3 #[(0, Operand.tmp 10), (1, Operand.tmp 17), (2, Operand.tmp 19)], type := 174, pos := "loop.go:377", after := #[{ on := 1, ground := Ground.data }, { on := 8, ground := Ground.data }, { on := 10, ground := Ground.data }], guard := none }) rfl (fun K hK => ?_) AllReadyH.nil)
  go_simp
  refine hK.out _ _ ?_ (fun hHeld4 => ?_)
  · (try dsimp only); (first | go_keep | exact Four.below hF.out h2 | exact Four.below hF.out h3)
  clear hK K hHeld3
  try simp only [Act.put, List.setIfInBounds_toArray, List.set_cons_zero, List.set_cons_succ]
  refine wpAnyH_ready (rs := [12]) (by kernel_rfl) (by simp) ?_
  refine (AllReadyH.cons (o := { dst := some 21, op := Op.call { callee := Callee.value (Operand.func 90), args := #[Operand.tmp 20], argTypes := #[174] }, type := 27, pos := "loop.go:377", after := #[{ on := 11, ground := Ground.data }, { on := 10, ground := Ground.chain }], guard := none }) rfl (fun K hK => ?_) AllReadyH.nil)
  go_simp
  (first | (go_at_call 35; (with_reducible refine T1.out.mono ?_); rintro e w2 ⟨rfl, h2'⟩; have h2 := below_drew h2'; clear h2') | (go_at_call 107; (with_reducible refine (when_any _ _ _).mono ?_); rintro e w' ⟨rfl, rfl⟩) | (go_at_call 110; (with_reducible refine (checkIntervals_any _ bx _ (hx.carry (bthen hbW h2)) (by omega)).mono ?_); rintro e w3 ⟨rfl, h3'⟩; have h3 := bthen h2 h3'; clear h3') | (go_at_call 90; (with_reducible refine (first3 _ _ _ _ _).mono ?_); rintro e w' ⟨rfl, rfl⟩))
  (try go_wp2_with fail)
  refine hK.out _ _ ?_ (fun hHeld5 => ?_)
  · (try dsimp only); (first | go_keep | exact Four.below hF.out h2 | exact Four.below hF.out h3)
  clear hK K hHeld4
  try simp only [Act.put, List.setIfInBounds_toArray, List.set_cons_zero, List.set_cons_succ]
  refine wpAnyH_take (i := 13) (oi := { dst := some 5, op := Op.assign (Operand.tmp 21), type := 27, pos := "loop.go:377", after := #[{ on := 12, ground := Ground.data }, { on := 12, ground := Ground.chain }, { on := 0, ground := Ground.phase }, { on := 1, ground := Ground.phase }, { on := 2, ground := Ground.phase }, { on := 3, ground := Ground.phase }, { on := 4, ground := Ground.phase }, { on := 5, ground := Ground.phase }, { on := 6, ground := Ground.phase }, { on := 7, ground := Ground.phase }, { on := 8, ground := Ground.phase }, { on := 9, ground := Ground.phase }, { on := 10, ground := Ground.phase }, { on := 11, ground := Ground.phase }, { on := 12, ground := Ground.phase }], guard := none }) (v := ?_) rfl (by kernel_rfl) (by kernel_rfl) (by kernel_rfl) (fun _ _ _ h => h) (Or.inl ⟨by rfl, ?_⟩) (by assumption) ?_
  rotate_left
  · (intro w hSw; (try dsimp only at hSw); go_simp); (try with_reducible rfl)
  try simp only [Act.put, List.setIfInBounds_toArray, List.set_cons_zero, List.set_cons_succ]
  refine wpAnyH_done (by kernel_rfl) ?_ _
  clear hHeld5
  have hV := bthen hbW (bthen h3 (below_new w3 (.cells #[.int .i64 (checkLoopE a b c d), .int .i64 (whenE ((bx.length : Int) != (a.length : Int)) 2), .int .i64 (intervalsE bx)] 27)))
  have h4 := HZ.out.carry (bthen h3 (below_new w3 (.cells #[.int .i64 (checkLoopE a b c d), .int .i64 (whenE ((bx.length : Int) != (a.length : Int)) 2), .int .i64 (intervalsE bx)] 27)))
  have hy := HY.out.carry (bthen h3 (below_new w3 (.cells #[.int .i64 (checkLoopE a b c d), .int .i64 (whenE ((bx.length : Int) != (a.length : Int)) 2), .int .i64 (intervalsE bx)] 27)))
  generalize w3.alloc _ = V at hV h4 hy ⊢
  have hE : firstE [checkLoopE a b c d, whenE ((bx.length : Int) != (a.length : Int)) 2, intervalsE bx] = box1E a b c d bx := rfl
  rw [hE]
  clear hE T1 k0 k1 k2 k3 h2 h3 HY hF hbW hszW
  by_cases he : box1E a b c d bx = 0
  · obtain ⟨e1, e2, e3⟩ := box1E_ok he
    replace e3 := intervalsE_ok e3
    obtain ⟨⟨a1, a5⟩, ⟨bb1, b5⟩, ⟨c1, c5⟩, ⟨d1, d5⟩⟩ := checkLoopE_len e1
    rw [he]
    have HE := Lib.hid he
    have HI := Lib.hid e3
    have HL := Lib.hid e2
    clear e1 e2 e3 he
    have hxl : 0 < bx.length := by rw [HL.out]; omega
    have hxi : Pairs V (.slice xx bx.length cx) bx := hx.carry hV
    obtain ⟨xb', xo, _, hxe, hxc⟩ := hxi.head hxl
    cases hxe
    obtain ⟨⟨lo, up⟩, hlast⟩ : ∃ x, bx[bx.length - 1]? = some x := ⟨_, List.getElem?_eq_getElem (by omega)⟩
    obtain ⟨x0, x1⟩ := hxc _ _ hlast
    have hlp : lastP bx = (lo, up) := by rw [lastP, hlast]; rfl
    have HLP := Lib.hid hlp
    clear hxc hlast hlp
    have g1 : IntKind.i64.wrap ((bx.length : Int) - 1) = (bx.length : Int) - 1 := IntWalk.i64_in _ (by omega)
    have g2 : (1 : Int) ≤ (bx.length : Int) := by omega
    have g3 : ((bx.length : Int) - 1).toNat = bx.length - 1 := by omega
    have hm := fun (w1 : World) (h1 : Below V.heap.size V w1) => many_any _ bx w1 (hxi.carry h1) (by omega)
    have HM := Lib.hid hm
    clear hm
    go_upto_region 5 with fail
    have hb5 := below_new V (.cells #[.int .i64 lo, .int .i64 up] 148)
    have hx5 := Box2.new V 148 (.int .i64 lo) (.int .i64 up)
    obtain ⟨V5, hV5⟩ : ∃ v, v = V.alloc (.cells #[.int .i64 lo, .int .i64 up] 148) := ⟨_, rfl⟩
    rw [← hV5] at hb5 hx5 ⊢
    clear hV5 x0 x1
    obtain ⟨x0, x1, _, _⟩ := hx5
    go_cut [7] from 31 to 45 (fun v7 wx => v7 = .int .i64 (box2E bx) ∧ Below V.heap.size V wx)
    case first =>
      by_cases h1 : lo ≤ 0
      · by_cases h2 : 0 ≤ up
        · go_wp2_with fail
          refine (when_any _ _ _).mono ?_
          rintro e w' ⟨rfl, rfl⟩
          go_wp2_with fail
          refine (HM.out _ hb5).mono ?_
          rintro e w6 ⟨rfl, hb6'⟩
          have hb6 := bthen hb5 hb6'
          go_wp2_with fail
          refine (when_any _ _ _).mono ?_
          rintro e w' ⟨rfl, rfl⟩
          go_wp2_with fail
          refine (first2 _ _ _ _).mono ?_
          rintro e w' ⟨rfl, rfl⟩
          go_wp2_with fail
          go_meet
          exact ⟨by rw [box2E, HLP.out, decide_eq_true (And.intro h1 h2)], bthen hb6 (below_new _ _)⟩
        · have h2' : decide (0 ≤ up) = false := by simpa using h2
          go_wp2_with fail
          refine (when_any _ _ _).mono ?_
          rintro e w' ⟨rfl, rfl⟩
          go_wp2_with fail
          refine (HM.out _ hb5).mono ?_
          rintro e w6 ⟨rfl, hb6'⟩
          have hb6 := bthen hb5 hb6'
          go_wp2_with fail
          refine (when_any _ _ _).mono ?_
          rintro e w' ⟨rfl, rfl⟩
          go_wp2_with fail
          refine (first2 _ _ _ _).mono ?_
          rintro e w' ⟨rfl, rfl⟩
          go_wp2_with fail
          go_meet
          exact ⟨by rw [box2E, HLP.out, decide_eq_false (show ¬ (lo ≤ 0 ∧ 0 ≤ up) from by omega)], bthen hb6 (below_new _ _)⟩
      · have h1' : decide (lo ≤ 0) = false := by simpa using h1
        go_wp2_with fail
        refine (when_any _ _ _).mono ?_
        rintro e w' ⟨rfl, rfl⟩
        go_wp2_with fail
        refine (HM.out _ hb5).mono ?_
        rintro e w6 ⟨rfl, hb6'⟩
        have hb6 := bthen hb5 hb6'
        go_wp2_with fail
        refine (when_any _ _ _).mono ?_
        rintro e w' ⟨rfl, rfl⟩
        go_wp2_with fail
        refine (first2 _ _ _ _).mono ?_
        rintro e w' ⟨rfl, rfl⟩
        go_wp2_with fail
        go_meet
        exact ⟨by rw [box2E, HLP.out, decide_eq_false (show ¬ (lo ≤ 0 ∧ 0 ≤ up) from by omega)], bthen hb6 (below_new _ _)⟩
    case rest =>
      obtain ⟨rfl, hb6⟩ := hcut
      have h4 := h4.carry hb6
      have hy := hy.carry hb6
      have hV := bthen hV hb6
      obtain ⟨V6, rfl⟩ : ∃ v, v = wc := ⟨_, rfl⟩
      clear x0 x1 hb5 HM HLP hb6 hxi
      have e0 := hy.cell (j := 0) rfl
      have f0 := hy.frozen 0
      by_cases he2 : box2E bx = 0
      · rw [he2]
        have HE2 := Lib.hid he2
        clear he2
        clear e0 f0
        go_wp2_with fail
        refine (members_any _ _ _ _).mono ?_
        rintro e w' ⟨rfl, rfl⟩
        have hcb := cell_new V6 #[.slice (some ⟨xb', xo, none⟩) bx.length cx] 67 0
        have hB6 := below_new V6 (.cells #[.slice (some ⟨xb', xo, none⟩) bx.length cx] 67)
        obtain ⟨Wr, hWr⟩ : ∃ v, v = V6.alloc (.cells #[.slice (some ⟨xb', xo, none⟩) bx.length cx] 67) := ⟨_, rfl⟩
        have hsW : Wr.heap.size = V6.heap.size + 1 := by rw [hWr]; simp
        rw [← hWr] at hcb hB6 ⊢
        clear hWr
        have h4 := h4.carry hB6
        have hy := hy.carry hB6
        have hs4 := h4.lt
        have hsy := hy.lt
        have hV0 := hV
        have hV := bthen hV hB6
        have hsV := hV.size
        have hwV : w.heap.size ≤ V6.heap.size := hV0.size
        go_wp2_with fail
        refine wp_rangeS (s := 8) (gf := 148) (lb := #[.pointer (some ⟨V6.heap.size, 0, none⟩)]) rfl (enters_of Tryz.func148 (by kernel_rfl) rfl)
          (members_seq 4 (by omega) w w.heap.size V6.heap.size (.slice (some ⟨xb', xo, none⟩) bx.length cx) bx (fun x hx => by have := HI.out x hx; omega) (by omega) hxl hx (Nat.le_refl _) Wr Wr.heap.size rfl (by omega) (by omega) hV hcb)
          KMem.trans (fun W l o o' hl h h1 _ => KMem.turn W l o o' (by omega) (by omega) h h1) (KMem.refl _ _ _) (Below.refl _ _)
          (fun pre W => (Blk W w.heap.size 44 [.slice xa a.length ca, .slice xb b.length cb, .slice xc c.length cc, .slice xd d.length cd] ∧ Blk W (w.heap.size + 1) 27 [.int .i64 0]) ∧ (∀ x ∈ pre, (closedW x.2 b c d).any largeB = false) ∧ Below w.heap.size Wr W)
          (fun co pre W => (co = .ret ∧ ∃ x ∈ pre, (closedW x.2 b c d).any largeB = true) ∧ Blk W (w.heap.size + 1) 27 [.int .i64 4] ∧ Below w.heap.size w W)
          (StableFrom.and (StableFrom.and (Blk.stable (by omega) _ (fun _ => [_, _, _, _])) (Blk.stable (by omega) _ (fun _ => [_]))) (StableFrom.and (StableFrom.pure _ (fun pre : List (Value × List Int) => ∀ x ∈ pre, (closedW x.2 b c d).any largeB = false)) (StableFrom.below (by omega) (by omega))))
          (fun co => StableFrom.own (StableFrom.and (StableFrom.pure _ (fun pre : List (Value × List Int) => co = .ret ∧ ∃ x ∈ pre, (closedW x.2 b c d).any largeB = true)) (StableFrom.and (Blk.stable (by omega) _ (fun _ => [_])) (StableFrom.below (by omega) (Nat.le_refl _)))))
          ⟨⟨h4, hy⟩, fun x hx => by simp at hx, Below.refl _ _⟩ (fun pre _ A B row hs hg hr => ⟨hs.1.kint (kint_of_grown hg (fun r e => (hr r e).2)), hs.2⟩) ?assign ?body ?done ?stop
        case assign =>
          intro l v W K hK
          gi_wp2
          exact hK
        case body =>
          rintro l pre ⟨xv, xl⟩ W ⟨⟨z, y⟩, hall, hBr⟩ ⟨hx, hxn⟩
          have hB := hV.trans hBr
          have hsr := hBr.size
          simp only [List.setIfInBounds_toArray, List.set_cons_succ, List.set_cons_zero]
          have hwf : ∀ f, (Fence.wide.inRound l).fn f := fun _ => trivial
          have q0 := z.cell (j := 0) rfl
          have q1 := z.cell (j := 1) rfl
          have q2 := z.cell (j := 2) rfl
          have q3 := z.cell (j := 3) rfl
          have hcx := Lib.hid (closedW_length xl b c d)
          simp only at hxn
          have HW := Lib.hid (with_any _ _ _ _ _ xl a b c d W hx.ints (ha.carry hB) (hb.carry hB) (hc.carry hB) (hd.carry hB))
          obtain ⟨xa', xc', hxv, _⟩ := hx.ints
          simp only at hxv
          subst hxv
          have hxl1 : 1 ≤ xl.length := by omega
          have hxl2 : xl.length ≤ 100000 := by omega
          clear hxn
          gi_wp2_with fail
          refine (((callsIn_wide (n := 2)).2 HW.out).inRound l).mono ?_
          rintro e w7 ⟨rfl, hb7⟩
          gi_wp2_with fail
          refine (((callsIn_wide (n := 2)).2 (closed_any _ _ _ _ xl b c d w7 (hx.carry hb7).ints (hb.carry (bthen hB hb7)) (hc.carry (bthen hB hb7)) (hd.carry (bthen hB hb7)) hxl1 bb1 c1 d1 hxl2 (by omega) (by omega) (by omega))).inRound l).mono ?_
          rintro e w8 ⟨⟨u, rfl, hu⟩, hb8⟩
          have hb78 := bthen hb7 hb8
          have HG := Lib.hid (isLarge_any u (closedW xl b c d) w8 (by have := hcx.out; omega) hu)
          by_cases hg : (closedW xl b c d).any largeB = true
          · rw [hg] at HG
            have y8 := y.carry hb78
            have e0 := y8.cell (j := 0) rfl
            have f0 := y8.frozen 0
            clear q0 q1 q2 q3
            gi_wp2_with fail
            refine (((callsIn_wide (n := 2)).2 HG.out).inRound l).mono ?_
            rintro e w9 ⟨rfl, rfl⟩
            gi_wp2
            exact ⟨((keeps_of_below hb78).trans (KeepsOthers.setCell _ _ _)).from _, ⟨rfl, _, List.mem_append_right _ (List.mem_singleton.2 rfl), hg⟩, y8.set 0 _, (bthen hB hb78).setCell (by simp) _⟩
          · have hg' : (closedW xl b c d).any largeB = false := by simpa using hg
            rw [hg'] at HG
            clear q0 q1 q2 q3 hg
            gi_wp2_with fail
            refine (((callsIn_wide (n := 2)).2 HG.out).inRound l).mono ?_
            rintro e w9 ⟨rfl, rfl⟩
            gi_wp2
            refine ⟨(keeps_of_below hb78).from _, KMem.below hb78 hB.size (by omega), ⟨z.carry hb78, y.carry hb78⟩, ?_, hBr.trans (hb78.mono (by omega))⟩
            intro x hx
            rcases List.mem_append.1 hx with hx | hx
            · exact hall x hx
            · obtain rfl := List.mem_singleton.1 hx
              exact hg'
        case done =>
          rintro D ys W hD hS ⟨⟨z, y⟩, hall, hBr⟩ hK
          have hB := hV.trans hBr
          have e0 := y.cell (j := 0) rfl
          have f0 := y.frozen 0
          have hany : (membersW bx).any (fun p => (closedW p b c d).any largeB) = false := by
            rw [← hS, List.any_eq_false]
            intro p hp
            obtain ⟨x, hx, rfl⟩ := List.mem_map.1 hp
            rw [hall x hx]; simp
          have hE0 : checkBoxE a b c d bx = 0 := by rw [checkBoxE, if_neg (by rw [HE.out]; simp), if_neg (by rw [HE2.out]; simp), hany]; rfl
          have HE0 := Lib.hid hE0
          clear hE0 hany hS
          go_wp2
          have hK' := (KeepsOthers.setCell W ⟨w.heap.size + 1, 0, none⟩ (.int .i64 0)).same D _ hK rfl
          have hr := (Blk.kept (y.set 0 (.int .i64 0)) (grownBy_putObj' _ D (.deferred none)) (by simp; omega)).cell (j := 0) rfl
          refine postR_mark (v := .int .i64 0) hK' rfl ?_ ⟨by rw [HE0.out], (hB.setCell (by simp) _).trans (belowK_b (w := w) (Nat.le_refl _) _ D _ _ (by omega) hK' rfl rfl)⟩
          simp [results, Tryz.f40, go_sem, hr]
        case stop =>
          rintro D co pre W hD hSp ⟨⟨rfl, x, hx, hlx⟩, y, hB⟩ hK
          have hany : (membersW bx).any (fun p => (closedW p b c d).any largeB) = true := by
            rw [List.any_eq_true]
            obtain ⟨t, ht⟩ := hSp
            exact ⟨x.2, by rw [← ht]; exact List.mem_append_left _ (List.mem_map_of_mem hx), hlx⟩
          have hE4 : checkBoxE a b c d bx = 4 := by rw [checkBoxE, if_neg (by rw [HE.out]; simp), if_neg (by rw [HE2.out]; simp), hany]; rfl
          have HE4 := Lib.hid hE4
          clear hE4 hany hSp hlx
          go_wp2
          have hr := (Blk.kept y (grownBy_putObj' _ D (.deferred none)) (by simp; omega)).cell (j := 0) rfl
          refine postR_mark (v := .int .i64 4) hK rfl ?_ ⟨by rw [HE4.out], hB.trans (belowK_b (w := w) (Nat.le_refl _) _ D _ _ (by omega) hK rfl rfl)⟩
          simp [results, Tryz.f40, go_sem, hr]
      · go_wp2
        have hr := (hy.set 0 (.int .i64 (box2E bx))).cell (j := 0) rfl
        refine postR_ret (v := .int .i64 (box2E bx)) ?_ rfl ⟨ret_int (by rw [checkBoxE, if_neg (by rw [HE.out]; simp), if_pos he2]), hV.setCell (by simp) _⟩
        simp [results, Tryz.f40, go_sem, hr]
  · have e0 := hy.cell (j := 0) rfl
    have f0 := hy.frozen 0
    go_wp2
    have hr := (hy.set 0 (.int .i64 (box1E a b c d bx))).cell (j := 0) rfl
    refine postR_ret (v := .int .i64 (box1E a b c d bx)) ?_ rfl ⟨ret_int (by rw [checkBoxE, if_pos he]), hV.setCell (by simp) _⟩
    simp [results, Tryz.f40, go_sem, hr]

end Go.Proofs.YtnlmaildmeihgaaGreatDoor

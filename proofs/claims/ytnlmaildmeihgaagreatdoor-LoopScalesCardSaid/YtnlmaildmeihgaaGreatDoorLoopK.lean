import Derived.Test.YtnlmaildmeihgaaGreatDoorLoopJ
namespace Go.Proofs.YtnlmaildmeihgaaGreatDoor
open Go.RowKit

def valueE (p : List Int) (zr zi : Int) : Int := firstE [checkPolyE p, withinE zr (-8) 8, withinE zi (-8) 8]
def valueR (p : List Int) (zr zi : Int) : Int × Int := if valueE p zr zi ≠ 0 then (0, 0) else if zr = 0 ∧ zi = 0 then (p[0]?.getD 0, 0) else atW p zr zi

set_option maxHeartbeats 1000000 in
theorem Value_any (v : Value) (p : List Int) (zr zi : Int) (w : World) (hp : Ints w v p) (hl : p.length * 8 ≤ 140737488351232) :
    Calls Tryz.prog 61 #[v, .agg #[.int .i64 zr, .int .i64 zi]] w fun r w' => r = .returned (.tuple #[.agg #[.int .i64 (valueR p zr zi).1, .int .i64 (valueR p zr zi).2], .int .i64 (valueE p zr zi)]) ∧ Below w.heap.size w w' := by
  go_enter Tryz.func61, Tryz.ntmps61
  go_wp2_with fail
  obtain ⟨w1, hw1⟩ : ∃ w1, w1 = w.alloc (Obj.cells #[Value.int IntKind.i64 zr, Value.int IntKind.i64 zi] 59) := ⟨_, rfl⟩
  have z := Box2.new w 59 (.int .i64 zr) (.int .i64 zi)
  have b1 := below_new w (Obj.cells #[Value.int IntKind.i64 zr, Value.int IntKind.i64 zi] 59)
  have s1 : w1.heap.size = w.heap.size + 1 := by rw [hw1]; simp
  rw [← hw1] at z b1 ⊢
  obtain ⟨W, hW⟩ : ∃ W, W = w1.alloc (Obj.cells #[Value.int IntKind.i64 0, Value.int IntKind.i64 0] 59) := ⟨_, rfl⟩
  have r := Box2.new w1 59 (.int .i64 0) (.int .i64 0)
  have z := z.alloc (Obj.cells #[Value.int IntKind.i64 0, Value.int IntKind.i64 0] 59)
  have hB := bthen b1 (below_new w1 (Obj.cells #[Value.int IntKind.i64 0, Value.int IntKind.i64 0] 59))
  rw [← hW] at z r hB ⊢
  clear hW hw1 b1
  rw [s1] at r
  clear s1
  have z' := z
  obtain ⟨z0, z1, _, _⟩ := z
  have t1 := CheckPoly_any v p W.drew hl (hp.below hB.drew)
  have T1 := Lib.hid t1
  clear t1
  refine wp_region_held_drew (S := (fun w' => w'.cell? ⟨w.heap.size, 0, none⟩ = some (.int .i64 zr) ∧ w'.cell? ⟨w.heap.size, 1, none⟩ = some (.int .i64 zi))) (by kernel_rfl) ?_ (fun hHeld0 => ?_)
  · (try dsimp only); (first | go_keep | exact ⟨(z'.below h2 z'.lt).c0, (z'.below h2 z'.lt).c1⟩)
  refine wpAnyH_take (i := 0) (oi := { dst := some 7, op := Op.move (Operand.tmp 0), type := 26, pos := "loop.go:111", after := #[], guard := none }) (v := ?_) rfl (by kernel_rfl) (by kernel_rfl) (by kernel_rfl) (fun _ _ _ h => h) (Or.inl ⟨by rfl, ?_⟩) (by assumption) ?_
  rotate_left
  · (intro w hSw; (try dsimp only at hSw); go_simp); (try with_reducible rfl)
  try simp only [Act.put, List.setIfInBounds_toArray, List.set_cons_zero, List.set_cons_succ]
  refine wpAnyH_take (i := 2) (oi := { dst := some 9, op := Op.fieldAddr 59 (Operand.tmp 3) 0, type := 0, pos := "loop.go:111", after := #[], guard := none }) (v := ?_) rfl (by kernel_rfl) (by kernel_rfl) (by kernel_rfl) (fun _ _ _ h => h) (Or.inl ⟨by rfl, ?_⟩) (by assumption) ?_
  rotate_left
  · (intro w hSw; (try dsimp only at hSw); go_simp); (try with_reducible rfl)
  try simp only [Act.put, List.setIfInBounds_toArray, List.set_cons_zero, List.set_cons_succ]
  refine wpAnyH_take (i := 3) (oi := { dst := some 10, op := Op.load 3 (Operand.tmp 9), type := 3, pos := "loop.go:111", after := #[{ on := 2, ground := Ground.data }], guard := none }) (v := ?_) rfl (by kernel_rfl) (by kernel_rfl) (by kernel_rfl) (fun _ _ _ h => h) (Or.inl ⟨by rfl, ?_⟩) (by assumption) ?_
  rotate_left
  · (intro w hSw; (try dsimp only at hSw); go_simp); (try with_reducible rfl)
  try simp only [Act.put, List.setIfInBounds_toArray, List.set_cons_zero, List.set_cons_succ]
  refine wpAnyH_take (i := 5) (oi := { dst := some 12, op := Op.fieldAddr 59 (Operand.tmp 3) 1, type := 0, pos := "loop.go:111", after := #[], guard := none }) (v := ?_) rfl (by kernel_rfl) (by kernel_rfl) (by kernel_rfl) (fun _ _ _ h => h) (Or.inl ⟨by rfl, ?_⟩) (by assumption) ?_
  rotate_left
  · (intro w hSw; (try dsimp only at hSw); go_simp); (try with_reducible rfl)
  try simp only [Act.put, List.setIfInBounds_toArray, List.set_cons_zero, List.set_cons_succ]
  refine wpAnyH_take (i := 6) (oi := { dst := some 13, op := Op.load 3 (Operand.tmp 12), type := 3, pos := "loop.go:111", after := #[{ on := 5, ground := Ground.data }], guard := none }) (v := ?_) rfl (by kernel_rfl) (by kernel_rfl) (by kernel_rfl) (fun _ _ _ h => h) (Or.inl ⟨by rfl, ?_⟩) (by assumption) ?_
  rotate_left
  · (intro w hSw; (try dsimp only at hSw); go_simp); (try with_reducible rfl)
  try simp only [Act.put, List.setIfInBounds_toArray, List.set_cons_zero, List.set_cons_succ]
  refine wpAnyH_ready (rs := [1]) (by kernel_rfl) (by simp) ?_
  refine (AllReadyH.cons (o := { dst := some 8, op := Op.call { callee := Callee.value (Operand.func 72), args := #[Operand.tmp 7], argTypes := #[26] }, type := 27, pos := "loop.go:111", after := #[{ on := 0, ground := Ground.data }], guard := none }) rfl (fun K hK => ?_) AllReadyH.nil)
  go_simp
  (first | (go_at_call 72; (with_reducible refine T1.out.mono ?_); rintro e w2 ⟨rfl, h2'⟩; have h2 := below_drew h2'; clear h2') | (go_at_call 99; (with_reducible refine (within_any _ _ _ _).mono ?_); rintro e w' ⟨rfl, rfl⟩) | (go_at_call 90; (with_reducible refine (first3 _ _ _ _ _).mono ?_); rintro e w' ⟨rfl, rfl⟩))
  (try go_wp2_with fail)
  refine hK.out _ _ ?_ (fun hHeld1 => ?_)
  · (try dsimp only); (first | go_keep | exact ⟨(z'.below h2 z'.lt).c0, (z'.below h2 z'.lt).c1⟩)
  clear hK K hHeld0
  try simp only [Act.put, List.setIfInBounds_toArray, List.set_cons_zero, List.set_cons_succ]
  refine wpAnyH_ready (rs := [4]) (by kernel_rfl) (by simp) ?_
  refine (AllReadyH.cons (o := { dst := some 11, op := Op.call { callee := Callee.value (Operand.func 99), args := #[Operand.tmp 10, Operand.const (Value.int IntKind.i64 (-8)), Operand.const (Value.int IntKind.i64 8)], argTypes := #[3, 3, 3] }, type := 27, pos := "loop.go:111", after := #[{ on := 3, ground := Ground.data }, { on := 1, ground := Ground.chain }], guard := none }) rfl (fun K hK => ?_) AllReadyH.nil)
  go_simp
  (first | (go_at_call 72; (with_reducible refine T1.out.mono ?_); rintro e w2 ⟨rfl, h2'⟩; have h2 := below_drew h2'; clear h2') | (go_at_call 99; (with_reducible refine (within_any _ _ _ _).mono ?_); rintro e w' ⟨rfl, rfl⟩) | (go_at_call 90; (with_reducible refine (first3 _ _ _ _ _).mono ?_); rintro e w' ⟨rfl, rfl⟩))
  (try go_wp2_with fail)
  refine hK.out _ _ ?_ (fun hHeld2 => ?_)
  · (try dsimp only); (first | go_keep | exact ⟨(z'.below h2 z'.lt).c0, (z'.below h2 z'.lt).c1⟩)
  clear hK K hHeld1
  try simp only [Act.put, List.setIfInBounds_toArray, List.set_cons_zero, List.set_cons_succ]
  refine wpAnyH_ready (rs := [7]) (by kernel_rfl) (by simp) ?_
  refine (AllReadyH.cons (o := { dst := some 14, op := Op.call { callee := Callee.value (Operand.func 99), args := #[Operand.tmp 13, Operand.const (Value.int IntKind.i64 (-8)), Operand.const (Value.int IntKind.i64 8)], argTypes := #[3, 3, 3] }, type := 27, pos := "loop.go:111", after := #[{ on := 6, ground := Ground.data }, { on := 4, ground := Ground.chain }], guard := none }) rfl (fun K hK => ?_) AllReadyH.nil)
  go_simp
  (first | (go_at_call 72; (with_reducible refine T1.out.mono ?_); rintro e w2 ⟨rfl, h2'⟩; have h2 := below_drew h2'; clear h2') | (go_at_call 99; (with_reducible refine (within_any _ _ _ _).mono ?_); rintro e w' ⟨rfl, rfl⟩) | (go_at_call 90; (with_reducible refine (first3 _ _ _ _ _).mono ?_); rintro e w' ⟨rfl, rfl⟩))
  (try go_wp2_with fail)
  refine hK.out _ _ ?_ (fun hHeld3 => ?_)
  · (try dsimp only); (first | go_keep | exact ⟨(z'.below h2 z'.lt).c0, (z'.below h2 z'.lt).c1⟩)
  clear hK K hHeld2
  try simp only [Act.put, List.setIfInBounds_toArray, List.set_cons_zero, List.set_cons_succ]
  refine wpAnyH_ready (rs := [8]) (by kernel_rfl) (by simp) ?_
  refine (AllReadyH.cons (o := { dst := some 15, op := Op.buildSlice 174 3 #[(0, Operand.tmp 8), (1, Operand.tmp 11), (2, Operand.tmp 14)], type := 174, pos := "loop.go:111", after := #[{ on := 1, ground := Ground.data }, { on := 4, ground := Ground.data }, { on := 7, ground := Ground.data }], guard := none }) rfl (fun K hK => ?_) AllReadyH.nil)
  go_simp
  refine hK.out _ _ ?_ (fun hHeld4 => ?_)
  · (try dsimp only); (first | go_keep | exact ⟨(z'.below h2 z'.lt).c0, (z'.below h2 z'.lt).c1⟩)
  clear hK K hHeld3
  try simp only [Act.put, List.setIfInBounds_toArray, List.set_cons_zero, List.set_cons_succ]
  refine wpAnyH_ready (rs := [9]) (by kernel_rfl) (by simp) ?_
  refine (AllReadyH.cons (o := { dst := some 16, op := Op.call { callee := Callee.value (Operand.func 90), args := #[Operand.tmp 15], argTypes := #[174] }, type := 27, pos := "loop.go:111", after := #[{ on := 8, ground := Ground.data }, { on := 7, ground := Ground.chain }], guard := none }) rfl (fun K hK => ?_) AllReadyH.nil)
  go_simp
  (first | (go_at_call 72; (with_reducible refine T1.out.mono ?_); rintro e w2 ⟨rfl, h2'⟩; have h2 := below_drew h2'; clear h2') | (go_at_call 99; (with_reducible refine (within_any _ _ _ _).mono ?_); rintro e w' ⟨rfl, rfl⟩) | (go_at_call 90; (with_reducible refine (first3 _ _ _ _ _).mono ?_); rintro e w' ⟨rfl, rfl⟩))
  (try go_wp2_with fail)
  refine hK.out _ _ ?_ (fun hHeld5 => ?_)
  · (try dsimp only); (first | go_keep | exact ⟨(z'.below h2 z'.lt).c0, (z'.below h2 z'.lt).c1⟩)
  clear hK K hHeld4
  try simp only [Act.put, List.setIfInBounds_toArray, List.set_cons_zero, List.set_cons_succ]
  refine wpAnyH_take (i := 10) (oi := { dst := some 6, op := Op.assign (Operand.tmp 16), type := 27, pos := "loop.go:111", after := #[{ on := 9, ground := Ground.data }, { on := 9, ground := Ground.chain }, { on := 0, ground := Ground.phase }, { on := 1, ground := Ground.phase }, { on := 2, ground := Ground.phase }, { on := 3, ground := Ground.phase }, { on := 4, ground := Ground.phase }, { on := 5, ground := Ground.phase }, { on := 6, ground := Ground.phase }, { on := 7, ground := Ground.phase }, { on := 8, ground := Ground.phase }, { on := 9, ground := Ground.phase }], guard := none }) (v := ?_) rfl (by kernel_rfl) (by kernel_rfl) (by kernel_rfl) (fun _ _ _ h => h) (Or.inl ⟨by rfl, ?_⟩) (by assumption) ?_
  rotate_left
  · (intro w hSw; (try dsimp only at hSw); go_simp); (try with_reducible rfl)
  try simp only [Act.put, List.setIfInBounds_toArray, List.set_cons_zero, List.set_cons_succ]
  refine wpAnyH_done (by kernel_rfl) ?_ _
  clear hHeld5
  have h3 := h2.alloc h2.size (.cells #[.int .i64 (checkPolyE p), .int .i64 (withinE zr (-8) 8), .int .i64 (withinE zi (-8) 8)] 27)
  obtain ⟨V, hV⟩ : ∃ V, V = w2.alloc (.cells #[.int .i64 (checkPolyE p), .int .i64 (withinE zr (-8) 8), .int .i64 (withinE zi (-8) 8)] 27) := ⟨_, rfl⟩
  rw [← hV] at h3 ⊢
  clear hV h2 T1 z0 z1
  have hv : Below w.heap.size w V := bthen hB h3
  have z := z'.below h3 z'.lt
  have r := r.below h3 r.lt
  have r' := r
  obtain ⟨z0, z1, _, _⟩ := z
  obtain ⟨r0, r1, g0, g1⟩ := r
  have hE : firstE [checkPolyE p, withinE zr (-8) 8, withinE zi (-8) 8] = valueE p zr zi := rfl
  rw [hE]
  by_cases he : valueE p zr zi = 0
  · obtain ⟨ep, _⟩ := firstE_cons_ok (he ▸ hE)
    have ⟨p1, p5⟩ := checkPolyE_ok ep
    clear ep hE
    rw [he]
    have HE := Lib.hid he
    clear he
    by_cases hz : zr = 0 ∧ zi = 0
    · obtain ⟨rfl, rfl⟩ := hz
      obtain ⟨a, cap, rfl, hcap, hc⟩ := hp.below hv
      obtain ⟨b, off, rfl, hcs⟩ := hc p1
      have hc0 := hcs 0 p1
      rw [Nat.add_zero] at hc0
      clear hc hcs
      generalize hx : p[0]?.getD 0 = x at hc0
      have HX := Lib.hid hx
      clear hx
      have hp0 : (0 : Int) < (p.length : Int) := by omega
      have rr := r'.set (.int .i64 x) (.int .i64 0)
      go_wp2
      refine bodyPost_ret (v := .tuple #[.agg #[.int .i64 x, .int .i64 0], .int .i64 0]) (by simp [results, Tryz.f61, go_sem, rr.c0, rr.c1]) rfl ⟨?_, (hv.setCell (by simp) _).setCell (by simp) _⟩
      rw [valueR, if_neg (by rw [HE.out]; simp), if_pos ⟨rfl, rfl⟩, HX.out, HE.out]
    · have ta := at_any v p zr zi V (hp.below hv) (by omega)
      have TA := Lib.hid ta
      clear ta
      have hR : valueR p zr zi = atW p zr zi := by rw [valueR, if_neg (by rw [HE.out]; simp), if_neg hz]
      have HR := Lib.hid hR
      clear hR
      by_cases hzr : zr = 0
      · have hzi : ¬ zi = 0 := fun h => hz ⟨hzr, h⟩
        subst hzr
        go_wp2_with fail
        refine TA.out.mono ?_
        rintro e w3 ⟨rfl, h4⟩
        have r2 := r'.below h4 r'.lt
        have hv2 := bthen hv h4
        generalize hy : atW p 0 zi = y
        have HY := Lib.hid hy
        clear hy
        have rr := r2.set (.int .i64 y.1) (.int .i64 y.2)
        clear r0 r1 g0 g1
        obtain ⟨r0, r1, g0, g1⟩ := r2
        go_wp2
        refine bodyPost_ret (v := .tuple #[.agg #[.int .i64 y.1, .int .i64 y.2], .int .i64 0]) (by simp [results, Tryz.f61, go_sem, rr.c0, rr.c1]) rfl ⟨?_, (hv2.setCell (by simp) _).setCell (by simp) _⟩
        rw [HE.out, HR.out, HY.out]
      · go_wp2_with fail
        refine TA.out.mono ?_
        rintro e w3 ⟨rfl, h4⟩
        have r2 := r'.below h4 r'.lt
        have hv2 := bthen hv h4
        generalize hy : atW p zr zi = y
        have HY := Lib.hid hy
        clear hy
        have rr := r2.set (.int .i64 y.1) (.int .i64 y.2)
        clear r0 r1 g0 g1
        obtain ⟨r0, r1, g0, g1⟩ := r2
        go_wp2
        refine bodyPost_ret (v := .tuple #[.agg #[.int .i64 y.1, .int .i64 y.2], .int .i64 0]) (by simp [results, Tryz.f61, go_sem, rr.c0, rr.c1]) rfl ⟨?_, (hv2.setCell (by simp) _).setCell (by simp) _⟩
        rw [HE.out, HR.out, HY.out]
  · have rr := r'.set (.int .i64 0) (.int .i64 0)
    go_wp2
    refine bodyPost_ret (v := .tuple #[.agg #[.int .i64 0, .int .i64 0], .int .i64 (valueE p zr zi)]) (by simp [results, Tryz.f61, go_sem, rr.c0, rr.c1]) rfl ⟨?_, (hv.setCell (by simp) _).setCell (by simp) _⟩
    rw [valueR, if_pos he]

end Go.Proofs.YtnlmaildmeihgaaGreatDoor

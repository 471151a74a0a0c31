import Derived.Test.YtnlmaildmeihgaaHead
namespace Go.Proofs.Ytnlmaildmeihgaa
open Go.RowKit

set_option maxHeartbeats 400000 in
theorem WhenR_any (c : Bool) (e : Int) (w : World) :
    Calls Try.prog 49 #[.bool c, .int .i64 e] w fun r w' => r = .returned (.int .i64 (whenE c e)) ∧ w = w' := by
  cases c
  · go_enter Try.func49, Try.ntmps49
    go_wp2
    go_ret
    exact ⟨rfl, rfl⟩
  · go_enter Try.func49, Try.ntmps49
    go_wp2
    go_ret
    exact ⟨rfl, rfl⟩

set_option maxHeartbeats 400000 in
theorem CheckRange_any (n lo hi : Int) (w : World) :
    Calls Try.prog 35 #[.int .i64 n, .int .i64 lo, .int .i64 hi] w fun r w' => r = .returned (.int .i64 (withinE n lo hi)) ∧ w = w' := by
  by_cases h1 : n < lo
  · go_enter Try.func35, Try.ntmps35
    go_wp2_with fail
    refine (WhenR_any _ _ _).mono ?_
    rintro e w' ⟨rfl, rfl⟩
    go_wp2
    go_ret
    exact ⟨by simp [whenE, withinE, h1], rfl⟩
  · by_cases h2 : hi < n
    all_goals
      go_enter Try.func35, Try.ntmps35
      go_wp2_with fail
      refine (WhenR_any _ _ _).mono ?_
      rintro e w' ⟨rfl, rfl⟩
      go_wp2
      go_ret
      exact ⟨by simp [whenE, withinE, h1, h2], rfl⟩

theorem firstE_map_take (f : Int → Int) (l : List Int) (k : Nat) (h : firstE ((l.take k).map f) ≠ 0) : firstE (l.map f) = firstE ((l.take k).map f) := by
  rw [List.map_take] at h ⊢
  exact firstE_of_take _ _ h
theorem firstE_map_succ (f : Int → Int) (l : List Int) (k : Nat) (x : Int) (hk : l[k]? = some x) (h : firstE ((l.take k).map f) = 0) : firstE ((l.take (k + 1)).map f) = f x := by
  rw [List.map_take] at h ⊢
  rw [firstE_take_succ _ k (by simp; exact (List.getElem?_eq_some_iff.1 hk).1) h, List.getElem?_map, hk]
  rfl

set_option maxHeartbeats 400000 in
theorem checkNumbersR_any (v : Value) (l : List Int) (lo hi : Int) (w : World) (hv : Ints w v l) (hl : l.length ≤ 1000000000) :
    Calls Try.prog 18 #[v, .int .i64 lo, .int .i64 hi] w fun r w' => r = .returned (.int .i64 (firstE (l.map fun x => withinE x lo hi))) ∧ w = w' := by
  obtain ⟨a, cap, rfl, hc, hv⟩ := hv
  rcases Nat.eq_zero_or_pos l.length with h0 | h0
  · obtain rfl : l = [] := List.length_eq_zero_iff.1 h0
    go_enter Try.func18, Try.ntmps18
    go_wp2
    go_loop [7] (fun i => i = .int .i64 0) (fun _ => 0)
    case atStart => rfl
    case round =>
      obtain rfl := hrel
      go_wp2
      go_ret
      exact ⟨rfl, rfl⟩
  · obtain ⟨b, off, rfl, hcs⟩ := hv h0
    clear hv
    go_enter Try.func18, Try.ntmps18
    go_wp2
    go_loop [7] (fun i => ∃ k : Nat, k ≤ l.length ∧ i = .int .i64 k ∧ firstE ((l.take k).map fun x => withinE x lo hi) = 0) (fun i => l.length - (intOf i).toNat)
    case atStart => exact ⟨0, by omega, rfl, rfl⟩
    case round =>
      obtain ⟨k, hk, rfl, hf⟩ := hrel
      have HF := Lib.hid hf
      clear hf
      by_cases hlt : k < l.length
      · have hcell := hcs k hlt
        clear hcs
        generalize hx : l[k]?.getD 0 = x at hcell
        have HX := Lib.hid (getElem?_of_getD hlt hx)
        clear hx
        by_cases hz : withinE x lo hi = 0
        · have hr := CheckRange_any x lo hi w
          rw [hz] at hr
          have HZ := Lib.hid hz
          clear hz
          go_wp2_with fail
          refine hr.mono ?_
          rintro e w2 ⟨rfl, rfl⟩
          clear hr
          go_wp2
          go_round
          case rel => exact ⟨k + 1, by omega, by go_num, by rw [firstE_map_succ _ _ _ _ HX.out HF.out]; exact HZ.out⟩
          case measure => simp [intOf]; omega
        · have hr := CheckRange_any x lo hi w
          go_wp2_with fail
          refine hr.mono ?_
          rintro e w2 ⟨rfl, rfl⟩
          clear hr
          go_wp2
          go_ret
          have hs := firstE_map_succ (fun x => withinE x lo hi) _ _ _ HX.out HF.out
          exact ⟨ret_int (by rw [firstE_map_take _ l (k + 1) (by rw [hs]; exact hz), hs]), rfl⟩
      · obtain rfl : k = l.length := by omega
        go_wp2
        go_ret
        exact ⟨ret_int (by have := HF.out; rw [List.take_length] at this; rw [this]), rfl⟩

set_option maxHeartbeats 400000 in
theorem CheckPolyR_any (v : Value) (l : List Int) (w : World) (hv : Ints w v l) (hl : l.length ≤ 1000000000) :
    Calls Try.prog 6 #[v] w fun r w' => r = .returned (.int .i64 (checkPolyE l)) ∧ w = w' := by
  have tn := checkNumbersR_any v l (-100) 100 w hv hl
  have TN := Lib.hid tn
  clear tn
  obtain ⟨a, cap, rfl, hc, hv⟩ := hv
  by_cases h0 : l.length = 0
  · clear hv
    go_enter Try.func6, Try.ntmps6
    go_wp2
    go_ret
    exact ⟨ret_int (by rw [checkPolyE, if_pos h0]), rfl⟩
  · have b0 : ((l.length : Int) == 0) = false := by rw [beq_eq_false_iff_ne]; omega
    by_cases h5 : 5 < l.length
    · clear hv
      go_enter Try.func6, Try.ntmps6
      go_wp2
      go_ret
      exact ⟨ret_int (by rw [checkPolyE, if_neg h0, if_pos h5]), rfl⟩
    · obtain ⟨b, off, rfl, hcs⟩ := hv (by omega)
      have hcell := hcs (l.length - 1) (by omega)
      clear hcs hv
      have hR : checkPolyE l = firstE [firstE (l.map coefE), whenE (l[l.length - 1]?.getD 0 == 0) 6] := by rw [checkPolyE, if_neg h0, if_neg h5]
      generalize l[l.length - 1]?.getD 0 = x at hcell hR
      have HR := Lib.hid hR
      clear hR
      have hm : (l.map fun x => withinE x (-100) 100) = l.map coefE := rfl
      rw [hm] at TN
      clear hm
      generalize hy : firstE (l.map coefE) = y at TN HR
      clear hy
      by_cases hy0 : y = 0
      · subst hy0
        by_cases hx0 : x = 0
        · subst hx0
          go_enter Try.func6, Try.ntmps6
          go_wp2_with fail
          refine (TN.out).mono ?_
          rintro e w' ⟨rfl, rfl⟩
          go_wp2
          go_ret
          exact ⟨ret_int (by rw [HR.out]; simp [firstE, whenE]), rfl⟩
        · have bx : (x == 0) = false := by rw [beq_eq_false_iff_ne]; exact hx0
          go_enter Try.func6, Try.ntmps6
          go_wp2_with fail
          refine (TN.out).mono ?_
          rintro e w' ⟨rfl, rfl⟩
          go_wp2
          go_ret
          exact ⟨ret_int (by rw [HR.out]; simp [firstE, whenE, hx0]), rfl⟩
      · go_enter Try.func6, Try.ntmps6
        go_wp2_with fail
        refine (TN.out).mono ?_
        rintro e w' ⟨rfl, rfl⟩
        go_wp2
        go_ret
        exact ⟨ret_int (by rw [HR.out]; simp [firstE, hy0]), rfl⟩

set_option maxHeartbeats 400000 in
theorem Quarters_any (w : World) :
    Calls Try.prog 7 #[] w fun r w' => r = .returned (.slice (some ⟨w.heap.size, 0, none⟩) 4 4) ∧ w.alloc (.cells #[.int .i64 1, .int .i64 0, .int .i64 0, .int .i64 1, .int .i64 (-1), .int .i64 0, .int .i64 0, .int .i64 (-1)] 33) = w' := by
  go_enter Try.func7, Try.ntmps7
  go_wp2
  go_ret
  exact ⟨rfl, rfl⟩

set_option maxRecDepth 100000 in
set_option maxHeartbeats 1000000 in
theorem washerPole_any (w : World) :
    Calls Try.prog 10 #[] w fun r w' => r = .returned (.bool true) ∧ Below w.heap.size w w' := by
  go_enter Try.func10, Try.ntmps10
  go_wp2_with fail
  have i1 := (((Ints.new w 3 [1] 1 _ _ rfl rfl rfl).alloc (Obj.cells #[Value.int IntKind.i64 (-1), Value.int IntKind.i64 2] 3)).alloc (Obj.cells #[Value.int IntKind.i64 1] 3)).alloc (Obj.cells #[Value.int IntKind.i64 1] 3)
  have i2 := ((Ints.new (w.alloc (Obj.cells #[Value.int IntKind.i64 1] 3)) 3 [-1, 2] 2 (w.heap.size + 1) _ (by simp) rfl rfl).alloc (Obj.cells #[Value.int IntKind.i64 1] 3)).alloc (Obj.cells #[Value.int IntKind.i64 1] 3)
  have i3 := (Ints.new ((w.alloc (Obj.cells #[Value.int IntKind.i64 1] 3)).alloc (Obj.cells #[Value.int IntKind.i64 (-1), Value.int IntKind.i64 2] 3)) 3 [1] 1 (w.heap.size + 1 + 1) _ (by simp) rfl rfl).alloc (Obj.cells #[Value.int IntKind.i64 1] 3)
  have i4 := Ints.new (((w.alloc (Obj.cells #[Value.int IntKind.i64 1] 3)).alloc (Obj.cells #[Value.int IntKind.i64 (-1), Value.int IntKind.i64 2] 3)).alloc (Obj.cells #[Value.int IntKind.i64 1] 3)) 3 [1] 1 (w.heap.size + 1 + 1 + 1) _ (by simp) rfl rfl
  have hB : Below w.heap.size w ((((w.alloc (Obj.cells #[Value.int IntKind.i64 1] 3)).alloc (Obj.cells #[Value.int IntKind.i64 (-1), Value.int IntKind.i64 2] 3)).alloc (Obj.cells #[Value.int IntKind.i64 1] 3)).alloc (Obj.cells #[Value.int IntKind.i64 1] 3)) := bthen (bthen (bthen (below_new _ _) (below_new _ _)) (below_new _ _)) (below_new _ _)
  have tc := Closed_any _ _ _ _ [1] [-1, 2] [1] [1] _ i1 i2 i3 i4 (by simp) (by simp) (by simp) (by simp)
  rw [show checkLoopE [1] [-1, 2] [1] [1] = 0 from by decide +kernel, show closedR [1] [-1, 2] [1] [1] = [0, 2] from by decide +kernel] at tc
  refine tc.mono ?_
  clear tc i1 i2 i3 i4
  rintro e w2 ⟨⟨u, rfl, hu⟩, h2⟩
  have hB2 := bthen hB h2
  clear hB h2
  obtain ⟨b, off, cap, rfl, hc⟩ := hu.head (by simp)
  clear hu
  have c0 := hc 0 (by simp)
  have c1 := hc 1 (by simp)
  rw [Nat.add_zero] at c0
  clear hc
  go_wp2_with fail
  have j1 := (Ints.new w2 3 [-1, 4] 2 _ _ rfl rfl rfl).alloc (Obj.cells #[Value.int IntKind.i64 16] 3)
  have j2 := Ints.new (w2.alloc (Obj.cells #[Value.int IntKind.i64 (-1), Value.int IntKind.i64 4] 3)) 3 [16] 1 (w2.heap.size + 1) _ (by simp) rfl rfl
  have ts := Stepped_any _ _ [-1, 4] [16] 3 _ j1 j2 (by simp) (by simp)
  rw [show steppedE [-1, 4] [16] 3 = 0 from by decide +kernel, show steppedR [-1, 4] [16] 3 = [16, 16, 16, 16] from by decide +kernel] at ts
  have hB3 : Below w2.heap.size w2 ((w2.alloc (Obj.cells #[Value.int IntKind.i64 (-1), Value.int IntKind.i64 4] 3)).alloc (Obj.cells #[Value.int IntKind.i64 16] 3)) := bthen (below_new _ _) (below_new _ _)
  refine ts.mono ?_
  clear ts j1 j2
  rintro e w3 ⟨⟨u, rfl, hu⟩, h3⟩
  have h4 := bthen hB3 h3
  have hB5 := bthen hB2 h4
  have c0 := (h4.cell (p := ⟨b, off, none⟩) (lt_of_cellSome c0)).trans c0
  have c1 := (h4.cell (p := ⟨b, off + 1, none⟩) (lt_of_cellSome c1)).trans c1
  clear hB3 h3 h4 hB2
  obtain ⟨g, og, cg, rfl, hd⟩ := hu.head (by simp)
  clear hu
  have d0 := hd 0 (by simp)
  have d1 := hd 1 (by simp)
  have d2 := hd 2 (by simp)
  have d3 := hd 3 (by simp)
  rw [Nat.add_zero] at d0
  clear hd
  go_wp2
  go_ret
  exact ⟨rfl, hB5⟩

end Go.Proofs.Ytnlmaildmeihgaa

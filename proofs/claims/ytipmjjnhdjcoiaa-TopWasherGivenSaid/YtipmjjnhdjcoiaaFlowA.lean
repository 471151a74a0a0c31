/- The package flow at straight lines: the small functions. -/
import Derived.Test.YtipmjjnhdjcoiaaLoopD
import Derived.Test.YtipmjjnhdjcoiaaBlk
import Derived.Deep.DeepCutAuto
import Derived.Deep.CutBlock

namespace Go.Proofs.Ytipmjjnhdjcoiaa
set_option linter.unusedSimpArgs false
set_option linter.unusedVariables false
open Go.RowKit

set_option maxHeartbeats 400000 in
theorem whenF_any (c : Bool) (e : Int) (w : World) :
    Calls Try.prog 28 #[.bool c, .int .i64 e] w fun r w' => r = .returned (.int .i64 (whenE c e)) ∧ w = w' := by
  cases c
  · go_enter Try.func28, Try.ntmps28
    go_wp2
    go_ret
    exact ⟨rfl, rfl⟩
  · go_enter Try.func28, Try.ntmps28
    go_wp2
    go_ret
    exact ⟨rfl, rfl⟩

set_option maxHeartbeats 400000 in
theorem withinF_any (n lo hi : Int) (w : World) :
    Calls Try.prog 30 #[.int .i64 n, .int .i64 lo, .int .i64 hi] w fun r w' => r = .returned (.int .i64 (withinE n lo hi)) ∧ w = w' := by
  by_cases h1 : n < lo
  · go_enter Try.func30, Try.ntmps30
    go_wp2_with fail
    refine (whenF_any _ _ _).mono ?_
    rintro e w' ⟨rfl, rfl⟩
    go_wp2_with fail
    go_ret
    exact ⟨by simp [whenE, withinE, h1], rfl⟩
  · by_cases h2 : hi < n
    all_goals
      go_enter Try.func30, Try.ntmps30
      go_wp2_with fail
      refine (whenF_any _ _ _).mono ?_
      rintro e w' ⟨rfl, rfl⟩
      go_wp2_with fail
      go_ret
      exact ⟨by simp [whenE, withinE, h1, h2], rfl⟩

set_option maxHeartbeats 400000 in
theorem firstF_any (v : Value) (l : List Int) (w : World) (hl : l.length ≤ maxLen) (hv : Ints w v l) :
    Calls Try.prog 19 #[v] w fun r w' => r = .returned (.int .i64 (firstE l)) ∧ w = w' := by
  unfold maxLen at hl
  obtain ⟨a, cap, rfl, hc, hv⟩ := hv
  rcases Nat.eq_zero_or_pos l.length with h0 | h0
  · obtain rfl : l = [] := List.length_eq_zero_iff.1 h0
    go_enter Try.func19, Try.ntmps19
    go_wp2
    go_loop [7] (fun i => i = .int .i64 0) (fun _ => 0)
    case atStart => rfl
    case round =>
      obtain rfl := hrel
      go_wp2
      go_ret
      exact ⟨rfl, rfl⟩
  · obtain ⟨b, off, rfl, hcs⟩ := hv h0
    clear hv
    go_enter Try.func19, Try.ntmps19
    go_wp2
    go_loop [7] (fun i => ∃ k : Nat, k ≤ l.length ∧ i = .int .i64 k ∧ firstE (l.take k) = 0) (fun i => l.length - (intOf i).toNat)
    case atStart => exact ⟨0, by omega, rfl, rfl⟩
    case round =>
      obtain ⟨k, hk, rfl, hf⟩ := hrel
      by_cases hlt : k < l.length
      · have hcell := hcs k hlt
        have hs := firstE_take_succ l k hlt hf
        clear hcs
        generalize l[k]?.getD 0 = x at hcell hs
        have HS := Lib.hid hs
        clear hs hf
        by_cases hz : x = 0
        · go_wp2
          go_round
          case rel => exact ⟨k + 1, by omega, by go_num, by rw [HS.out]; exact hz⟩
          case measure => simp [intOf]; omega
        · go_wp2
          go_ret
          exact ⟨ret_int (by rw [firstE_of_take l (k+1) (by rw [HS.out]; exact hz), HS.out]), rfl⟩
      · have HF := Lib.hid hf
        clear hf
        go_wp2
        go_ret
        have h := HF.out
        rw [List.take_of_length_le (by omega)] at h
        exact ⟨ret_int h.symm, rfl⟩

theorem first2F (a b : Int) (T : TypeId) (w : World) :
    Calls Try.prog 19 #[.slice (some ⟨w.heap.size, 0, none⟩) 2 2] (w.alloc (.cells #[.int .i64 a, .int .i64 b] T)) fun r w' => r = .returned (.int .i64 (firstE [a, b])) ∧ w.alloc (.cells #[.int .i64 a, .int .i64 b] T) = w' :=
  firstF_any _ [a, b] _ (by simp [maxLen]) (Ints.lit w T [a, b] 2 rfl)

theorem first3F (a b c : Int) (T : TypeId) (w : World) :
    Calls Try.prog 19 #[.slice (some ⟨w.heap.size, 0, none⟩) 3 3] (w.alloc (.cells #[.int .i64 a, .int .i64 b, .int .i64 c] T)) fun r w' => r = .returned (.int .i64 (firstE [a, b, c])) ∧ w.alloc (.cells #[.int .i64 a, .int .i64 b, .int .i64 c] T) = w' :=
  firstF_any _ [a, b, c] _ (by simp [maxLen]) (Ints.lit w T [a, b, c] 3 rfl)


theorem Blk.set2 {w : World} {B : Nat} {T : TypeId} {a b : Value} (h : Blk w B T [a, b]) (x y : Value) : Blk ((w.setCell ⟨B, 0, none⟩ x).setCell ⟨B, 1, none⟩ y) B T [x, y] := (h.set 0 x).set 1 y

set_option maxHeartbeats 400000 in
theorem checkPower_any (n : Int) (w : World) :
    Calls Try.prog 27 #[.int .i64 n] w fun r w' => r = .returned (.int .i64 (withinE n (-1000) 1000)) ∧ w = w' := by
  go_enter Try.func27, Try.ntmps27
  go_wp2_with fail
  refine (withinF_any _ _ _ _).mono ?_
  rintro e w' ⟨rfl, rfl⟩
  go_wp2_with fail
  go_ret
  exact ⟨rfl, rfl⟩
set_option maxHeartbeats 400000 in
theorem checkLoad_any (n : Int) (w : World) :
    Calls Try.prog 45 #[.int .i64 n] w fun r w' => r = .returned (.int .i64 (withinE n (-3000) 3000)) ∧ w = w' := by
  go_enter Try.func45, Try.ntmps45
  go_wp2_with fail
  refine (withinF_any _ _ _ _).mono ?_
  rintro e w' ⟨rfl, rfl⟩
  go_wp2_with fail
  go_ret
  exact ⟨rfl, rfl⟩

set_option maxHeartbeats 1000000 in
theorem divisor_any (n den : Int) (w : World) (hd : 1 ≤ den ∧ den ≤ 1000000000) (hb : -1000000000 ≤ n ∧ n ≤ 1000000000) (hm : n.tmod den = 0) :
    Calls Try.prog 67 #[.int .i64 n, .int .i64 den] w fun r w' => r = .returned (.int .i64 den) ∧ Below w.heap.size w w' := by
  have HM := Lib.hid hm
  have HN := Lib.hid (show (-n).tmod den = 0 by rw [Int.neg_tmod, hm]; rfl)
  clear hm
  by_cases hneg : n < -n
  all_goals
    go_enter Try.func67, Try.ntmps67
    go_wp2
    go_loopw [5, 6] (fun v5 v6 wr => ∃ x y : Int, v5 = .int .i64 x ∧ v6 = .int .i64 y ∧ ((y = den ∧ x.tmod den = 0 ∧ -1000000000 ≤ x ∧ x ≤ 1000000000) ∨ (y = 0 ∧ x = den)) ∧ Below w.heap.size w wr) (fun _ v6 _ => (intOf v6).natAbs)
    case atStart => first | exact ⟨n, den, rfl, rfl, .inl ⟨rfl, HM.out, hb⟩, Below.refl _ _⟩ | exact ⟨-n, den, rfl, rfl, .inl ⟨rfl, HN.out, by omega, by omega⟩, Below.refl _ _⟩
    case round =>
      obtain ⟨x, y, rfl, rfl, hxy, hbr⟩ := hrel
      rcases hxy with ⟨rfl, hx, x1, x2⟩ | ⟨rfl, rfl⟩
      · have hy : (y == 0) = false := by rw [beq_eq_false_iff_ne]; omega
        have hy2 : ¬ y = 0 := by omega
        have HX := Lib.hid hx
        clear hx
        go_wp2_with fail
        refine wp_region_held_drew (S := (fun _ => True)) (by kernel_rfl) ?_ (fun hHeld0 => ?_)
        · (try dsimp only); (first | done | trivial)
        refine wpAnyH_take (i := 0) (oi := { dst := some 14, op := Op.move (Operand.tmp 6), type := 3, pos := "flow.go:100", after := #[], guard := none }) (v := ?_) rfl (by kernel_rfl) (by kernel_rfl) (by kernel_rfl) (fun _ _ _ h => h) (Or.inl ⟨by rfl, ?_⟩) (by assumption) ?_
        rotate_left
        · (intro w hSw; (try dsimp only at hSw); go_simp); (try with_reducible rfl)
        try simp only [Act.put, List.setIfInBounds_toArray, List.set_cons_zero, List.set_cons_succ]
        refine wpAnyH_take (i := 1) (oi := { dst := some 15, op := Op.move (Operand.tmp 5), type := 3, pos := "flow.go:100", after := #[], guard := none }) (v := ?_) rfl (by kernel_rfl) (by kernel_rfl) (by kernel_rfl) (fun _ _ _ h => h) (Or.inl ⟨by rfl, ?_⟩) (by assumption) ?_
        rotate_left
        · (intro w hSw; (try dsimp only at hSw); go_simp); (try with_reducible rfl)
        try simp only [Act.put, List.setIfInBounds_toArray, List.set_cons_zero, List.set_cons_succ]
        refine wpAnyH_take (i := 2) (oi := { dst := some 16, op := Op.move (Operand.tmp 6), type := 3, pos := "flow.go:100", after := #[], guard := none }) (v := ?_) rfl (by kernel_rfl) (by kernel_rfl) (by kernel_rfl) (fun _ _ _ h => h) (Or.inl ⟨by rfl, ?_⟩) (by assumption) ?_
        rotate_left
        · (intro w hSw; (try dsimp only at hSw); go_simp); (try with_reducible rfl)
        try simp only [Act.put, List.setIfInBounds_toArray, List.set_cons_zero, List.set_cons_succ]
        refine wpAnyH_take (i := 3) (oi := { dst := some 17, op := Op.binOp BinOp.rem 3 (Operand.tmp 15) (Operand.tmp 16) 3, type := 3, pos := "flow.go:100", after := #[{ on := 1, ground := Ground.data }, { on := 2, ground := Ground.data }], guard := none }) (v := ?_) rfl (by kernel_rfl) (by kernel_rfl) (by kernel_rfl) (fun _ _ _ h => h) (Or.inl ⟨by rfl, ?_⟩) (by assumption) ?_
        rotate_left
        · (intro w hSw; (try dsimp only at hSw); go_simp); (try with_reducible rfl)
        try simp only [Act.put, List.setIfInBounds_toArray, List.set_cons_zero, List.set_cons_succ]
        refine wpAnyH_take (i := 4) (oi := { dst := some 5, op := Op.assign (Operand.tmp 14), type := 3, pos := "flow.go:100", after := #[{ on := 0, ground := Ground.data }, { on := 0, ground := Ground.phase }, { on := 1, ground := Ground.phase }, { on := 2, ground := Ground.textOnly Departure.lateStores }, { on := 3, ground := Ground.textOnly Departure.lateStoresUnsure }], guard := none }) (v := ?_) rfl (by kernel_rfl) (by kernel_rfl) (by kernel_rfl) (fun _ _ _ h => h) (Or.inl ⟨by rfl, ?_⟩) (by assumption) ?_
        rotate_left
        · (intro w hSw; (try dsimp only at hSw); go_simp); (try with_reducible rfl)
        try simp only [Act.put, List.setIfInBounds_toArray, List.set_cons_zero, List.set_cons_succ]
        refine wpAnyH_take (i := 5) (oi := { dst := some 6, op := Op.assign (Operand.tmp 17), type := 3, pos := "flow.go:100", after := #[{ on := 3, ground := Ground.data }, { on := 4, ground := Ground.chain }, { on := 0, ground := Ground.phase }, { on := 1, ground := Ground.phase }, { on := 2, ground := Ground.phase }, { on := 3, ground := Ground.phase }, { on := 4, ground := Ground.phase }], guard := none }) (v := ?_) rfl (by kernel_rfl) (by kernel_rfl) (by kernel_rfl) (fun _ _ _ h => h) (Or.inl ⟨by rfl, ?_⟩) (by assumption) ?_
        rotate_left
        · (intro w hSw; (try dsimp only at hSw); go_simp); (try with_reducible rfl)
        try simp only [Act.put, List.setIfInBounds_toArray, List.set_cons_zero, List.set_cons_succ]
        refine wpAnyH_done (by kernel_rfl) ?_ _
        clear hHeld0
        go_wp2
        go_roundw
        case rel => exact ⟨y, x.tmod y, rfl, rfl, .inr ⟨HX.out, rfl⟩, hbr.drew⟩
        case measure => simp only [intOf]; rw [HX.out]; simp; omega
      · go_wp2
        go_ret
        exact ⟨rfl, hbr⟩

set_option maxHeartbeats 1000000 in
/-- num / den is the integer q. -/
theorem lowest_any (num den q : Int) (w : World) (hd : 1 ≤ den ∧ den ≤ 1000000000) (hb : -1000000000 ≤ num ∧ num ≤ 1000000000) (hq : num = den * q) (hq2 : -1000000000 ≤ q ∧ q ≤ 1000000000) :
    Calls Try.prog 68 #[.int .i64 num, .int .i64 den] w fun r w' => r = .returned (.agg #[.int .i64 q, .int .i64 1]) ∧ Below w.heap.size w w' := by
  have e1 : num.tmod den = 0 := by rw [hq]; exact Int.mul_tmod_right _ _
  have e2 : IntKind.i64.wrap (num.tdiv den) = q := by rw [hq, Int.mul_tdiv_cancel_left _ (by omega)]; exact IntWalk.i64_in _ (by omega)
  have e3 : IntKind.i64.wrap 1 = 1 := IntWalk.i64_in _ (by omega)
  have E1 := Lib.hid e1
  have E2 := Lib.hid e2
  have E3 := Lib.hid e3
  have z1 : (den == 0) = false := by rw [beq_eq_false_iff_ne]; omega
  have z2 : ¬ den = 0 := by omega
  clear hq e1 e2 e3
  go_enter Try.func68, Try.ntmps68
  go_upto_region 1 with fail
  obtain ⟨W1, hW1⟩ : ∃ v, v = World.alloc w (Obj.cells #[.int .i64 0, .int .i64 0] 61) := ⟨_, rfl⟩
  have kW1 : Below w.heap.size w W1 := by rw [hW1]; exact below_new _ _
  have iW1 : Blk W1 (w.heap.size) 61 [.int .i64 0, .int .i64 0] := by rw [hW1]; exact Blk.new _ _ _
  have sW1 : W1.heap.size = w.heap.size + 1 := by rw [hW1]; simp
  rw [← hW1]
  clear hW1
  clear sW1
  go_wp2_with fail
  refine (divisor_any num den W1 hd hb E1.out).mono ?_
  rintro e w1 ⟨rfl, hl⟩
  replace iW1 := iW1.carry hl
  have hB := bthen kW1 hl
  clear kW1 hl
  have c0 := iW1.cell (j := 0) (v := .int .i64 0) rfl
  have c1 := iW1.cell (j := 1) (v := .int .i64 0) rfl
  have f0 := iW1.frozen 0
  have f1 := iW1.frozen 1
  go_upto_region 2 with fail
  refine wp_region_held_drew (S := (fun _ => True)) (by kernel_rfl) trivial (fun hHeld0 => ?_)
  obtain ⟨wzd, hwz⟩ : ∃ v, v = w1.drew := ⟨_, rfl⟩
  rw [← hwz]
  have hbzd : Below w.heap.size w wzd := by rw [hwz]; exact hB.drew
  have hlzd : Below w1.heap.size w1 wzd := by rw [hwz]; exact (Below.refl _ _).drew
  have iW1 := iW1.carry hlzd
  clear hwz hlzd
  refine wpAnyH_take (i := 0) (oi := { dst := some 9, op := Op.move (Operand.tmp 0), type := 3, pos := "flow.go:108", after := #[], guard := none }) (v := ?_) rfl (by kernel_rfl) (by kernel_rfl) (by kernel_rfl) (fun _ _ _ h => h) (Or.inl ⟨by rfl, ?_⟩) (by assumption) ?_
  rotate_left
  · (intro w hSw; (try dsimp only at hSw); go_simp); (try with_reducible rfl)
  try simp only [Act.put, List.setIfInBounds_toArray, List.set_cons_zero, List.set_cons_succ]
  refine wpAnyH_take (i := 1) (oi := { dst := some 10, op := Op.move (Operand.tmp 5), type := 3, pos := "flow.go:108", after := #[], guard := none }) (v := ?_) rfl (by kernel_rfl) (by kernel_rfl) (by kernel_rfl) (fun _ _ _ h => h) (Or.inl ⟨by rfl, ?_⟩) (by assumption) ?_
  rotate_left
  · (intro w hSw; (try dsimp only at hSw); go_simp); (try with_reducible rfl)
  try simp only [Act.put, List.setIfInBounds_toArray, List.set_cons_zero, List.set_cons_succ]
  refine wpAnyH_take (i := 2) (oi := { dst := some 11, op := Op.binOp BinOp.quo 3 (Operand.tmp 9) (Operand.tmp 10) 3, type := 3, pos := "flow.go:108", after := #[{ on := 0, ground := Ground.data }, { on := 1, ground := Ground.data }], guard := none }) (v := ?_) rfl (by kernel_rfl) (by kernel_rfl) (by kernel_rfl) (fun _ _ _ h => h) (Or.inl ⟨by rfl, ?_⟩) (by assumption) ?_
  rotate_left
  · (intro w hSw; (try dsimp only at hSw); go_simp); (try with_reducible rfl)
  try simp only [Act.put, List.setIfInBounds_toArray, List.set_cons_zero, List.set_cons_succ]
  refine wpAnyH_take (i := 3) (oi := { dst := some 12, op := Op.move (Operand.tmp 1), type := 3, pos := "flow.go:108", after := #[], guard := none }) (v := ?_) rfl (by kernel_rfl) (by kernel_rfl) (by kernel_rfl) (fun _ _ _ h => h) (Or.inl ⟨by rfl, ?_⟩) (by assumption) ?_
  rotate_left
  · (intro w hSw; (try dsimp only at hSw); go_simp); (try with_reducible rfl)
  try simp only [Act.put, List.setIfInBounds_toArray, List.set_cons_zero, List.set_cons_succ]
  refine wpAnyH_take (i := 4) (oi := { dst := some 13, op := Op.move (Operand.tmp 5), type := 3, pos := "flow.go:108", after := #[], guard := none }) (v := ?_) rfl (by kernel_rfl) (by kernel_rfl) (by kernel_rfl) (fun _ _ _ h => h) (Or.inl ⟨by rfl, ?_⟩) (by assumption) ?_
  rotate_left
  · (intro w hSw; (try dsimp only at hSw); go_simp); (try with_reducible rfl)
  try simp only [Act.put, List.setIfInBounds_toArray, List.set_cons_zero, List.set_cons_succ]
  refine wpAnyH_take (i := 5) (oi := { dst := some 14, op := Op.binOp BinOp.quo 3 (Operand.tmp 12) (Operand.tmp 13) 3, type := 3, pos := "flow.go:108", after := #[{ on := 3, ground := Ground.data }, { on := 4, ground := Ground.data }], guard := none }) (v := ?_) rfl (by kernel_rfl) (by kernel_rfl) (by kernel_rfl) (fun _ _ _ h => h) (Or.inl ⟨by rfl, ?_⟩) (by assumption) ?_
  rotate_left
  · (intro w hSw; (try dsimp only at hSw); go_simp); (try with_reducible rfl)
  try simp only [Act.put, List.setIfInBounds_toArray, List.set_cons_zero, List.set_cons_succ]
  refine wpAnyH_take (i := 6) (oi := { dst := some 15, op := Op.build 61 #[(0, Operand.tmp 11), (1, Operand.tmp 14)], type := 61, pos := "flow.go:108", after := #[{ on := 2, ground := Ground.data }, { on := 5, ground := Ground.data }], guard := none }) (v := ?_) rfl (by kernel_rfl) (by kernel_rfl) (by kernel_rfl) (fun _ _ _ h => h) (Or.inl ⟨by rfl, ?_⟩) (by assumption) ?_
  rotate_left
  · (intro w hSw; (try dsimp only at hSw); go_simp); (try with_reducible rfl)
  try simp only [Act.put, List.setIfInBounds_toArray, List.set_cons_zero, List.set_cons_succ]
  refine wpAnyH_ready (rs := [7]) (by kernel_rfl) (by simp) ?_
  refine (AllReadyH.cons (o := { dst := none, op := Op.store 61 (Operand.tmp 4) (Operand.tmp 15), type := 0, pos := "flow.go:108", after := #[{ on := 6, ground := Ground.data }, { on := 0, ground := Ground.phase }, { on := 1, ground := Ground.phase }, { on := 2, ground := Ground.phase }, { on := 3, ground := Ground.phase }, { on := 4, ground := Ground.phase }, { on := 5, ground := Ground.phase }, { on := 6, ground := Ground.phase }], guard := none }) rfl (fun K hK => ?_) AllReadyH.nil)
  have c0 := iW1.cell (j := 0) (v := .int .i64 0) rfl
  have c1 := iW1.cell (j := 1) (v := .int .i64 0) rfl
  have f0 := iW1.frozen 0
  have f1 := iW1.frozen 1
  go_simp
  obtain ⟨wz7, hwz⟩ : ∃ v, v = (wzd.setCell ⟨w.heap.size, 0, none⟩ (.int .i64 (IntKind.i64.wrap (num.tdiv den)))).setCell ⟨w.heap.size, 1, none⟩ (.int .i64 (IntKind.i64.wrap 1)) := ⟨_, rfl⟩
  rw [← hwz]
  have hbz7 : Below w.heap.size w wz7 := by rw [hwz]; exact (hbzd.setCell (Nat.le_refl _) _).setCell (Nat.le_refl _) _
  have iR := iW1.set2 (.int .i64 (IntKind.i64.wrap (num.tdiv den))) (.int .i64 (IntKind.i64.wrap 1))
  rw [← hwz] at iR
  rw [E2.out, E3.out] at iR
  clear hwz
  refine hK.out _ _ trivial (fun hHeld1 => ?_)
  clear hK K hHeld0
  try simp only [Act.put, List.setIfInBounds_toArray, List.set_cons_zero, List.set_cons_succ]
  refine wpAnyH_done (by kernel_rfl) ?_ _
  clear hHeld1
  have y0 := iR.cell (j := 0) (v := .int .i64 q) rfl
  have y1 := iR.cell (j := 1) (v := .int .i64 1) rfl
  go_wp2_with fail
  exact bodyPost_ret (v := .agg #[.int .i64 q, .int .i64 1]) (by simp [results, Try.f68, go_sem, y0, y1]) rfl ⟨rfl, hbz7⟩

set_option maxHeartbeats 1000000 in
/-- the sum of two integers. -/
theorem plus1_any (a b : Int) (w : World) (ha : -1000000 ≤ a ∧ a ≤ 1000000) (hb : -1000000 ≤ b ∧ b ≤ 1000000) :
    Calls Try.prog 47 #[.agg #[.int .i64 a, .int .i64 1], .agg #[.int .i64 b, .int .i64 1]] w fun r w' => r = .returned (.agg #[.int .i64 (a + b), .int .i64 1]) ∧ Below w.heap.size w w' := by
  have k1 : IntKind.i64.wrap 1 = 1 := IntWalk.i64_in _ (by omega)
  have k2 : IntKind.i64.wrap a = a := IntWalk.i64_in _ (by omega)
  have k3 : IntKind.i64.wrap b = b := IntWalk.i64_in _ (by omega)
  have k4 : IntKind.i64.wrap (a + b) = a + b := IntWalk.i64_in _ (by omega)
  go_enter Try.func47, Try.ntmps47
  go_upto_region 1 with fail
  obtain ⟨W1, hW1⟩ : ∃ v, v = World.alloc w (Obj.cells #[.int .i64 a, .int .i64 1] 61) := ⟨_, rfl⟩
  have kW1 : Below w.heap.size w W1 := by rw [hW1]; exact below_new _ _
  have iW1 : Blk W1 (w.heap.size) 61 [.int .i64 a, .int .i64 1] := by rw [hW1]; exact Blk.new _ _ _
  have sW1 : W1.heap.size = w.heap.size + 1 := by rw [hW1]; simp
  rw [← hW1]
  clear hW1
  obtain ⟨W2, hW2⟩ : ∃ v, v = World.alloc W1 (Obj.cells #[.int .i64 b, .int .i64 1] 61) := ⟨_, rfl⟩
  have kW2 : Below W1.heap.size W1 W2 := by rw [hW2]; exact below_new _ _
  have iW2 : Blk W2 (w.heap.size + 1) 61 [.int .i64 b, .int .i64 1] := by rw [hW2, ← sW1]; exact Blk.new _ _ _
  have sW2 : W2.heap.size = w.heap.size + 1 + 1 := by rw [hW2]; simp [sW1]
  rw [← hW2]
  clear hW2
  obtain ⟨W3, hW3⟩ : ∃ v, v = World.alloc W2 (Obj.cells #[.int .i64 0, .int .i64 0] 61) := ⟨_, rfl⟩
  have kW3 : Below W2.heap.size W2 W3 := by rw [hW3]; exact below_new _ _
  have iW3 : Blk W3 (w.heap.size + 1 + 1) 61 [.int .i64 0, .int .i64 0] := by rw [hW3, ← sW2]; exact Blk.new _ _ _
  have sW3 : W3.heap.size = w.heap.size + 1 + 1 + 1 := by rw [hW3]; simp [sW2]
  rw [← hW3]
  clear hW3
  clear sW1 sW2 sW3
  have iA := (iW1.carry kW2).carry kW3
  have iB := iW2.carry kW3
  have hB := bthen kW1 (bthen kW2 kW3)
  clear iW1 iW2 kW1 kW2 kW3
  have a1 := iA.cell (j := 1) (v := .int .i64 1) rfl
  have b1 := iB.cell (j := 1) (v := .int .i64 1) rfl
  go_wp2_with fail
  refine (divisor_any 1 1 W3 (by omega) (by omega) (by decide)).mono ?_
  rintro e w1 ⟨rfl, hl⟩
  replace hB := bthen hB hl
  clear a1 b1
  replace iA := iA.carry hl
  replace iB := iB.carry hl
  have iR := iW3.carry hl
  clear hl iW3
  have K4 := Lib.hid k4
  clear k4
  go_upto_region 2 with fail
  refine wp_region_held_drew (S := (fun w' => w'.cell? ⟨w.heap.size, 0, none⟩ = some (.int .i64 a) ∧ w'.cell? ⟨w.heap.size, 1, none⟩ = some (.int .i64 1) ∧ w'.cell? ⟨w.heap.size + 1, 0, none⟩ = some (.int .i64 b) ∧ w'.cell? ⟨w.heap.size + 1, 1, none⟩ = some (.int .i64 1))) (by kernel_rfl) ⟨iA.cell (j := 0) rfl, iA.cell (j := 1) rfl, iB.cell (j := 0) rfl, iB.cell (j := 1) rfl⟩ (fun hHeld0 => ?_)
  obtain ⟨wzd, hwz⟩ : ∃ v, v = w1.drew := ⟨_, rfl⟩
  rw [← hwz] at hHeld0 ⊢
  have hbzd : Below w.heap.size w wzd := by rw [hwz]; exact hB.drew
  have hlzd : Below w1.heap.size w1 wzd := by rw [hwz]; exact (Below.refl _ _).drew
  have iR := iR.carry hlzd
  have iA := iA.carry hlzd
  have iB := iB.carry hlzd
  clear hwz hlzd
  refine wpAnyH_take (i := 0) (oi := { dst := some 11, op := Op.fieldAddr 61 (Operand.tmp 2) 0, type := 0, pos := "flow.go:114", after := #[], guard := none }) (v := ?_) rfl (by kernel_rfl) (by kernel_rfl) (by kernel_rfl) (fun _ _ _ h => h) (Or.inl ⟨by rfl, ?_⟩) (by assumption) ?_
  rotate_left
  · (intro w hSw; (try dsimp only at hSw); go_simp); (try with_reducible rfl)
  try simp only [Act.put, List.setIfInBounds_toArray, List.set_cons_zero, List.set_cons_succ]
  refine wpAnyH_take (i := 1) (oi := { dst := some 12, op := Op.load 3 (Operand.tmp 11), type := 3, pos := "flow.go:114", after := #[{ on := 0, ground := Ground.data }], guard := none }) (v := ?_) rfl (by kernel_rfl) (by kernel_rfl) (by kernel_rfl) (fun _ _ _ h => h) (Or.inl ⟨by rfl, ?_⟩) (by assumption) ?_
  rotate_left
  · (intro w hSw; (try dsimp only at hSw); go_simp); (try with_reducible rfl)
  try simp only [Act.put, List.setIfInBounds_toArray, List.set_cons_zero, List.set_cons_succ]
  refine wpAnyH_take (i := 2) (oi := { dst := some 13, op := Op.fieldAddr 61 (Operand.tmp 3) 1, type := 0, pos := "flow.go:114", after := #[], guard := none }) (v := ?_) rfl (by kernel_rfl) (by kernel_rfl) (by kernel_rfl) (fun _ _ _ h => h) (Or.inl ⟨by rfl, ?_⟩) (by assumption) ?_
  rotate_left
  · (intro w hSw; (try dsimp only at hSw); go_simp); (try with_reducible rfl)
  try simp only [Act.put, List.setIfInBounds_toArray, List.set_cons_zero, List.set_cons_succ]
  refine wpAnyH_take (i := 3) (oi := { dst := some 14, op := Op.load 3 (Operand.tmp 13), type := 3, pos := "flow.go:114", after := #[{ on := 2, ground := Ground.data }], guard := none }) (v := ?_) rfl (by kernel_rfl) (by kernel_rfl) (by kernel_rfl) (fun _ _ _ h => h) (Or.inl ⟨by rfl, ?_⟩) (by assumption) ?_
  rotate_left
  · (intro w hSw; (try dsimp only at hSw); go_simp); (try with_reducible rfl)
  try simp only [Act.put, List.setIfInBounds_toArray, List.set_cons_zero, List.set_cons_succ]
  refine wpAnyH_take (i := 4) (oi := { dst := some 15, op := Op.move (Operand.tmp 5), type := 3, pos := "flow.go:114", after := #[], guard := none }) (v := ?_) rfl (by kernel_rfl) (by kernel_rfl) (by kernel_rfl) (fun _ _ _ h => h) (Or.inl ⟨by rfl, ?_⟩) (by assumption) ?_
  rotate_left
  · (intro w hSw; (try dsimp only at hSw); go_simp); (try with_reducible rfl)
  try simp only [Act.put, List.setIfInBounds_toArray, List.set_cons_zero, List.set_cons_succ]
  refine wpAnyH_take (i := 5) (oi := { dst := some 16, op := Op.binOp BinOp.quo 3 (Operand.tmp 14) (Operand.tmp 15) 3, type := 3, pos := "flow.go:114", after := #[{ on := 3, ground := Ground.data }, { on := 4, ground := Ground.data }], guard := none }) (v := ?_) rfl (by kernel_rfl) (by kernel_rfl) (by kernel_rfl) (fun _ _ _ h => h) (Or.inl ⟨by rfl, ?_⟩) (by assumption) ?_
  rotate_left
  · (intro w hSw; (try dsimp only at hSw); go_simp); (try with_reducible rfl)
  try simp only [Act.put, List.setIfInBounds_toArray, List.set_cons_zero, List.set_cons_succ]
  refine wpAnyH_take (i := 6) (oi := { dst := some 17, op := Op.binOp BinOp.mul 3 (Operand.tmp 12) (Operand.tmp 16) 3, type := 3, pos := "flow.go:114", after := #[{ on := 1, ground := Ground.data }, { on := 5, ground := Ground.data }], guard := none }) (v := ?_) rfl (by kernel_rfl) (by kernel_rfl) (by kernel_rfl) (fun _ _ _ h => h) (Or.inl ⟨by rfl, ?_⟩) (by assumption) ?_
  rotate_left
  · (intro w hSw; (try dsimp only at hSw); go_simp); (try with_reducible rfl)
  try simp only [Act.put, List.setIfInBounds_toArray, List.set_cons_zero, List.set_cons_succ]
  refine wpAnyH_take (i := 7) (oi := { dst := some 18, op := Op.fieldAddr 61 (Operand.tmp 3) 0, type := 0, pos := "flow.go:114", after := #[], guard := none }) (v := ?_) rfl (by kernel_rfl) (by kernel_rfl) (by kernel_rfl) (fun _ _ _ h => h) (Or.inl ⟨by rfl, ?_⟩) (by assumption) ?_
  rotate_left
  · (intro w hSw; (try dsimp only at hSw); go_simp); (try with_reducible rfl)
  try simp only [Act.put, List.setIfInBounds_toArray, List.set_cons_zero, List.set_cons_succ]
  refine wpAnyH_take (i := 8) (oi := { dst := some 19, op := Op.load 3 (Operand.tmp 18), type := 3, pos := "flow.go:114", after := #[{ on := 7, ground := Ground.data }], guard := none }) (v := ?_) rfl (by kernel_rfl) (by kernel_rfl) (by kernel_rfl) (fun _ _ _ h => h) (Or.inl ⟨by rfl, ?_⟩) (by assumption) ?_
  rotate_left
  · (intro w hSw; (try dsimp only at hSw); go_simp); (try with_reducible rfl)
  try simp only [Act.put, List.setIfInBounds_toArray, List.set_cons_zero, List.set_cons_succ]
  refine wpAnyH_take (i := 9) (oi := { dst := some 20, op := Op.fieldAddr 61 (Operand.tmp 2) 1, type := 0, pos := "flow.go:114", after := #[], guard := none }) (v := ?_) rfl (by kernel_rfl) (by kernel_rfl) (by kernel_rfl) (fun _ _ _ h => h) (Or.inl ⟨by rfl, ?_⟩) (by assumption) ?_
  rotate_left
  · (intro w hSw; (try dsimp only at hSw); go_simp); (try with_reducible rfl)
  try simp only [Act.put, List.setIfInBounds_toArray, List.set_cons_zero, List.set_cons_succ]
  refine wpAnyH_take (i := 10) (oi := { dst := some 21, op := Op.load 3 (Operand.tmp 20), type := 3, pos := "flow.go:114", after := #[{ on := 9, ground := Ground.data }], guard := none }) (v := ?_) rfl (by kernel_rfl) (by kernel_rfl) (by kernel_rfl) (fun _ _ _ h => h) (Or.inl ⟨by rfl, ?_⟩) (by assumption) ?_
  rotate_left
  · (intro w hSw; (try dsimp only at hSw); go_simp); (try with_reducible rfl)
  try simp only [Act.put, List.setIfInBounds_toArray, List.set_cons_zero, List.set_cons_succ]
  refine wpAnyH_take (i := 11) (oi := { dst := some 22, op := Op.move (Operand.tmp 5), type := 3, pos := "flow.go:114", after := #[], guard := none }) (v := ?_) rfl (by kernel_rfl) (by kernel_rfl) (by kernel_rfl) (fun _ _ _ h => h) (Or.inl ⟨by rfl, ?_⟩) (by assumption) ?_
  rotate_left
  · (intro w hSw; (try dsimp only at hSw); go_simp); (try with_reducible rfl)
  try simp only [Act.put, List.setIfInBounds_toArray, List.set_cons_zero, List.set_cons_succ]
  refine wpAnyH_take (i := 12) (oi := { dst := some 23, op := Op.binOp BinOp.quo 3 (Operand.tmp 21) (Operand.tmp 22) 3, type := 3, pos := "flow.go:114", after := #[{ on := 10, ground := Ground.data }, { on := 11, ground := Ground.data }], guard := none }) (v := ?_) rfl (by kernel_rfl) (by kernel_rfl) (by kernel_rfl) (fun _ _ _ h => h) (Or.inl ⟨by rfl, ?_⟩) (by assumption) ?_
  rotate_left
  · (intro w hSw; (try dsimp only at hSw); go_simp); (try with_reducible rfl)
  try simp only [Act.put, List.setIfInBounds_toArray, List.set_cons_zero, List.set_cons_succ]
  refine wpAnyH_take (i := 13) (oi := { dst := some 24, op := Op.binOp BinOp.mul 3 (Operand.tmp 19) (Operand.tmp 23) 3, type := 3, pos := "flow.go:114", after := #[{ on := 8, ground := Ground.data }, { on := 12, ground := Ground.data }], guard := none }) (v := ?_) rfl (by kernel_rfl) (by kernel_rfl) (by kernel_rfl) (fun _ _ _ h => h) (Or.inl ⟨by rfl, ?_⟩) (by assumption) ?_
  rotate_left
  · (intro w hSw; (try dsimp only at hSw); go_simp); (try with_reducible rfl)
  try simp only [Act.put, List.setIfInBounds_toArray, List.set_cons_zero, List.set_cons_succ]
  refine wpAnyH_take (i := 14) (oi := { dst := some 25, op := Op.binOp BinOp.add 3 (Operand.tmp 17) (Operand.tmp 24) 3, type := 3, pos := "flow.go:114", after := #[{ on := 6, ground := Ground.data }, { on := 13, ground := Ground.data }], guard := none }) (v := ?_) rfl (by kernel_rfl) (by kernel_rfl) (by kernel_rfl) (fun _ _ _ h => h) (Or.inl ⟨by rfl, ?_⟩) (by assumption) ?_
  rotate_left
  · (intro w hSw; (try dsimp only at hSw); go_simp); (try with_reducible rfl)
  try simp only [Act.put, List.setIfInBounds_toArray, List.set_cons_zero, List.set_cons_succ]
  refine wpAnyH_take (i := 15) (oi := { dst := some 26, op := Op.fieldAddr 61 (Operand.tmp 2) 1, type := 0, pos := "flow.go:114", after := #[], guard := none }) (v := ?_) rfl (by kernel_rfl) (by kernel_rfl) (by kernel_rfl) (fun _ _ _ h => h) (Or.inl ⟨by rfl, ?_⟩) (by assumption) ?_
  rotate_left
  · (intro w hSw; (try dsimp only at hSw); go_simp); (try with_reducible rfl)
  try simp only [Act.put, List.setIfInBounds_toArray, List.set_cons_zero, List.set_cons_succ]
  refine wpAnyH_take (i := 16) (oi := { dst := some 27, op := Op.load 3 (Operand.tmp 26), type := 3, pos := "flow.go:114", after := #[{ on := 15, ground := Ground.data }], guard := none }) (v := ?_) rfl (by kernel_rfl) (by kernel_rfl) (by kernel_rfl) (fun _ _ _ h => h) (Or.inl ⟨by rfl, ?_⟩) (by assumption) ?_
  rotate_left
  · (intro w hSw; (try dsimp only at hSw); go_simp); (try with_reducible rfl)
  try simp only [Act.put, List.setIfInBounds_toArray, List.set_cons_zero, List.set_cons_succ]
  refine wpAnyH_take (i := 17) (oi := { dst := some 28, op := Op.move (Operand.tmp 5), type := 3, pos := "flow.go:114", after := #[], guard := none }) (v := ?_) rfl (by kernel_rfl) (by kernel_rfl) (by kernel_rfl) (fun _ _ _ h => h) (Or.inl ⟨by rfl, ?_⟩) (by assumption) ?_
  rotate_left
  · (intro w hSw; (try dsimp only at hSw); go_simp); (try with_reducible rfl)
  try simp only [Act.put, List.setIfInBounds_toArray, List.set_cons_zero, List.set_cons_succ]
  refine wpAnyH_take (i := 18) (oi := { dst := some 29, op := Op.binOp BinOp.quo 3 (Operand.tmp 27) (Operand.tmp 28) 3, type := 3, pos := "flow.go:114", after := #[{ on := 16, ground := Ground.data }, { on := 17, ground := Ground.data }], guard := none }) (v := ?_) rfl (by kernel_rfl) (by kernel_rfl) (by kernel_rfl) (fun _ _ _ h => h) (Or.inl ⟨by rfl, ?_⟩) (by assumption) ?_
  rotate_left
  · (intro w hSw; (try dsimp only at hSw); go_simp); (try with_reducible rfl)
  try simp only [Act.put, List.setIfInBounds_toArray, List.set_cons_zero, List.set_cons_succ]
  refine wpAnyH_take (i := 19) (oi := { dst := some 30, op := Op.fieldAddr 61 (Operand.tmp 3) 1, type := 0, pos := "flow.go:114", after := #[], guard := none }) (v := ?_) rfl (by kernel_rfl) (by kernel_rfl) (by kernel_rfl) (fun _ _ _ h => h) (Or.inl ⟨by rfl, ?_⟩) (by assumption) ?_
  rotate_left
  · (intro w hSw; (try dsimp only at hSw); go_simp); (try with_reducible rfl)
  try simp only [Act.put, List.setIfInBounds_toArray, List.set_cons_zero, List.set_cons_succ]
  refine wpAnyH_take (i := 20) (oi := { dst := some 31, op := Op.load 3 (Operand.tmp 30), type := 3, pos := "flow.go:114", after := #[{ on := 19, ground := Ground.data }], guard := none }) (v := ?_) rfl (by kernel_rfl) (by kernel_rfl) (by kernel_rfl) (fun _ _ _ h => h) (Or.inl ⟨by rfl, ?_⟩) (by assumption) ?_
  rotate_left
  · (intro w hSw; (try dsimp only at hSw); go_simp); (try with_reducible rfl)
  try simp only [Act.put, List.setIfInBounds_toArray, List.set_cons_zero, List.set_cons_succ]
  refine wpAnyH_take (i := 21) (oi := { dst := some 32, op := Op.binOp BinOp.mul 3 (Operand.tmp 29) (Operand.tmp 31) 3, type := 3, pos := "flow.go:114", after := #[{ on := 18, ground := Ground.data }, { on := 20, ground := Ground.data }], guard := none }) (v := ?_) rfl (by kernel_rfl) (by kernel_rfl) (by kernel_rfl) (fun _ _ _ h => h) (Or.inl ⟨by rfl, ?_⟩) (by assumption) ?_
  rotate_left
  · (intro w hSw; (try dsimp only at hSw); go_simp); (try with_reducible rfl)
  try simp only [Act.put, List.setIfInBounds_toArray, List.set_cons_zero, List.set_cons_succ]
  refine wpAnyH_ready (rs := [22]) (by kernel_rfl) (by simp) ?_
  refine (AllReadyH.cons (o := { dst := some 33, op := Op.call { callee := Callee.value (Operand.func 68), args := #[Operand.tmp 25, Operand.tmp 32], argTypes := #[3, 3] }, type := 61, pos := "flow.go:114", after := #[{ on := 14, ground := Ground.data }, { on := 21, ground := Ground.data }], guard := none }) rfl (fun K hK => ?_) AllReadyH.nil)
  go_simp
  rw [K4.out]
  refine (lowest_any (a + b) 1 (a + b) wzd (by omega) (by omega) (by omega) (by omega)).mono ?_
  rintro e wz22 ⟨rfl, hl⟩
  (try go_wp2_with fail)
  have hbz22 := bthen hbzd hl
  have iR := iR.carry hl
  have iA := iA.carry hl
  have iB := iB.carry hl
  clear hl
  refine hK.out _ _ ⟨iA.cell (j := 0) rfl, iA.cell (j := 1) rfl, iB.cell (j := 0) rfl, iB.cell (j := 1) rfl⟩ (fun hHeld1 => ?_)
  clear hK K hHeld0
  try simp only [Act.put, List.setIfInBounds_toArray, List.set_cons_zero, List.set_cons_succ]
  refine wpAnyH_ready (rs := [23]) (by kernel_rfl) (by simp) ?_
  refine (AllReadyH.cons (o := { dst := none, op := Op.store 61 (Operand.tmp 4) (Operand.tmp 33), type := 0, pos := "flow.go:114", after := #[{ on := 22, ground := Ground.data }, { on := 22, ground := Ground.chain }, { on := 0, ground := Ground.phase }, { on := 1, ground := Ground.phase }, { on := 2, ground := Ground.phase }, { on := 3, ground := Ground.phase }, { on := 4, ground := Ground.phase }, { on := 5, ground := Ground.phase }, { on := 6, ground := Ground.phase }, { on := 7, ground := Ground.phase }, { on := 8, ground := Ground.phase }, { on := 9, ground := Ground.phase }, { on := 10, ground := Ground.phase }, { on := 11, ground := Ground.phase }, { on := 12, ground := Ground.phase }, { on := 13, ground := Ground.phase }, { on := 14, ground := Ground.phase }, { on := 15, ground := Ground.phase }, { on := 16, ground := Ground.phase }, { on := 17, ground := Ground.phase }, { on := 18, ground := Ground.phase }, { on := 19, ground := Ground.phase }, { on := 20, ground := Ground.phase }, { on := 21, ground := Ground.phase }, { on := 22, ground := Ground.phase }], guard := none }) rfl (fun K hK => ?_) AllReadyH.nil)
  have c0 := iR.cell (j := 0) (v := .int .i64 0) rfl
  have c1 := iR.cell (j := 1) (v := .int .i64 0) rfl
  have f0 := iR.frozen 0
  have f1 := iR.frozen 1
  go_simp
  obtain ⟨wz23, hwz⟩ : ∃ v, v = (wz22.setCell ⟨w.heap.size + 1 + 1, 0, none⟩ (.int .i64 (a + b))).setCell ⟨w.heap.size + 1 + 1, 1, none⟩ (.int .i64 1) := ⟨_, rfl⟩
  rw [← hwz]
  have hbz23 : Below w.heap.size w wz23 := by rw [hwz]; exact (hbz22.setCell (by simp only; omega) _).setCell (by simp only; omega) _
  have iR := iR.set2 (.int .i64 (a + b)) (.int .i64 1)
  have iA := (iA.other (B' := w.heap.size + 1 + 1) (j := 0) (by omega) (.int .i64 (a + b))).other (B' := w.heap.size + 1 + 1) (j := 1) (by omega) (.int .i64 1)
  have iB := (iB.other (B' := w.heap.size + 1 + 1) (j := 0) (by omega) (.int .i64 (a + b))).other (B' := w.heap.size + 1 + 1) (j := 1) (by omega) (.int .i64 1)
  rw [← hwz] at iR iA iB
  clear hwz
  refine hK.out _ _ ⟨iA.cell (j := 0) rfl, iA.cell (j := 1) rfl, iB.cell (j := 0) rfl, iB.cell (j := 1) rfl⟩ (fun hHeld2 => ?_)
  clear hK K hHeld1
  try simp only [Act.put, List.setIfInBounds_toArray, List.set_cons_zero, List.set_cons_succ]
  refine wpAnyH_done (by kernel_rfl) ?_ _
  clear hHeld2
  have y0 := iR.cell (j := 0) (v := .int .i64 (a + b)) rfl
  have y1 := iR.cell (j := 1) (v := .int .i64 1) rfl
  go_wp2_with fail
  exact bodyPost_ret (v := .agg #[.int .i64 (a + b), .int .i64 1]) (by simp [results, Try.f47, go_sem, y0, y1]) rfl ⟨rfl, hbz23⟩

end Go.Proofs.Ytipmjjnhdjcoiaa

/- The reference's Made, and the law LoopMade. -/
import Derived.Test.YtnlmaildmeihgaaGreatDoorRefB
import Derived.Test.YtnlmaildmeihgaaGreatDoorAwakeE
namespace Go.Proofs.YtnlmaildmeihgaaGreatDoor
open Go.RowKit

/-- errors one after the other. -/
theorem firstE3 (a b c : Int) : firstE [a, b, c] = if a ≠ 0 then a else if b ≠ 0 then b else c := by
  simp only [firstE]
  by_cases ha : a = 0 <;> by_cases hb : b = 0 <;> by_cases hc : c = 0 <;> simp [ha, hb, hc]

set_option maxHeartbeats 400000 in
theorem CheckMadeR_any (n phase most : Int) (w : World) :
    Calls Tryz.prog 56 #[.int .i64 n, .int .i64 phase, .int .i64 most] w fun e w' => e = .returned (.int .i64 (made1E n phase most)) ∧ w = w' := by
  have hE := Lib.hid (firstE3 (withinE n 1 64) (phaseE phase n) (withinE most 1 64))
  have h1 := CheckRange_any n 1 64 w
  have h2 := CheckRange_any most 1 64 w
  unfold made1E
  generalize withinE n 1 64 = a at h1 hE ⊢
  generalize withinE most 1 64 = c at h2 hE ⊢
  have H2 := Lib.hid h2
  clear h2
  by_cases ha : a = 0
  · subst ha
    by_cases hb1 : phase < 0
    · have HB := Lib.hid (show phaseE phase n = 10 by simp [phaseE, whenE, hb1])
      go_enter Tryz.func56, Tryz.ntmps56
      go_wp2_with fail
      refine (h1).mono ?_
      rintro e w' ⟨rfl, rfl⟩
      go_wp2
      go_ret
      exact ⟨ret_int (by rw [hE.out, HB.out]; simp), rfl⟩
    · by_cases hb2 : n ≤ phase
      · have HB := Lib.hid (show phaseE phase n = 10 by simp [phaseE, whenE, hb1, hb2])
        go_enter Tryz.func56, Tryz.ntmps56
        go_wp2_with fail
        refine (h1).mono ?_
        rintro e w' ⟨rfl, rfl⟩
        go_wp2
        go_ret
        exact ⟨ret_int (by rw [hE.out, HB.out]; simp), rfl⟩
      · have HB := Lib.hid (show phaseE phase n = 0 by simp [phaseE, whenE, hb1, hb2])
        go_enter Tryz.func56, Tryz.ntmps56
        go_wp2_with fail
        refine (h1).mono ?_
        rintro e w' ⟨rfl, rfl⟩
        go_wp2_with fail
        refine (H2.out).mono ?_
        rintro e w' ⟨rfl, rfl⟩
        go_wp2
        go_ret
        exact ⟨ret_int (by rw [hE.out, HB.out]; simp), rfl⟩
  · go_enter Tryz.func56, Tryz.ntmps56
    go_wp2_with fail
    refine (h1).mono ?_
    rintro e w' ⟨rfl, rfl⟩
    go_wp2
    go_ret
    exact ⟨ret_int (by rw [hE.out]; simp [ha]), rfl⟩

theorem madeAt_eq {n phase most x : Int} (_hn : 1 ≤ n) (hx : 0 ≤ x ∧ x < n) (hm : 1 ≤ most) :
    madeAt n phase most x = if (phase - x + n) % n ≤ (x - phase + n) % n then (x + min most ((phase - x + n) % n)) % n else (x - min most ((x - phase + n) % n) + n) % n := by
  unfold madeAt
  split
  · rename_i h
    rw [h.1, h.2, if_pos (by omega), show min most 0 = 0 by omega, Int.add_zero, Int.emod_eq_of_lt hx.1 hx.2]
  · rfl

set_option maxRecDepth 100000 in
set_option maxHeartbeats 2000000 in
theorem MadeR_any (n phase most : Int) (w : World) (h : made1E n phase most = 0) :
    Calls Tryz.prog 57 #[.int .i64 n, .int .i64 phase, .int .i64 most] w (GivesInts w (madeL n phase most)) := by
  obtain ⟨n1, n64, p0, pn, m1, m64⟩ := made1E_ok h
  clear h
  obtain ⟨N, rfl⟩ : ∃ N : Nat, n = N := ⟨n.toNat, by omega⟩
  obtain ⟨i0, hi, hz0, hz1, hz2⟩ := info_parts Tryz.infoInt
  go_enter Tryz.func57, Tryz.ntmps57
  go_wp2
  go_loopw [7, 8] (fun vo vi wr => ∃ k : Nat, k ≤ N ∧ vi = .int .i64 k ∧ wr.ownsRow w.heap.size 3 1 vo k ((upto (fun k => madeAt N phase most k) k).map (Value.int .i64)) ∧ Below w.heap.size w wr) (fun _ vi _ => N - (intOf vi).toNat)
  case atStart => exact ⟨0, by omega, rfl, World.ownsRow_nil _ _ _ _, Below.refl _ _⟩
  case round =>
    obtain ⟨k, hk, rfl, hown, hbr⟩ := hrel
    by_cases hlt : k < N
    · have hat := madeAt_eq (n := N) (phase := phase) (most := most) (x := k) (by omega) (by omega) (by omega)
      have hsucc : (upto (fun k : Nat => madeAt N phase most k) (k + 1)).map (Value.int .i64) = (upto (fun k : Nat => madeAt N phase most k) k).map (Value.int .i64) ++ [.int .i64 (madeAt N phase most k)] := by rw [upto_succ]; simp
      obtain ⟨up, hup⟩ : ∃ u, u = (phase - k + N) % (N : Int) := ⟨_, rfl⟩
      obtain ⟨dn, hdn⟩ : ∃ u, u = ((k : Int) - phase + N) % (N : Int) := ⟨_, rfl⟩
      rw [← hup, ← hdn] at hat
      have hu1 : 0 ≤ up ∧ up < N := by rw [hup]; exact ⟨Int.emod_nonneg _ (by omega), Int.emod_lt_of_pos _ (by omega)⟩
      have hd1 : 0 ≤ dn ∧ dn < N := by rw [hdn]; exact ⟨Int.emod_nonneg _ (by omega), Int.emod_lt_of_pos _ (by omega)⟩
      have e1 : IntKind.i64.wrap (phase - (k : Int)) = phase - k := IntWalk.i64_in _ (by omega)
      have e2 : IntKind.i64.wrap (phase - (k : Int) + N) = phase - k + N := IntWalk.i64_in _ (by omega)
      have e3 : IntKind.i64.wrap ((k : Int) - phase) = k - phase := IntWalk.i64_in _ (by omega)
      have e4 : IntKind.i64.wrap ((k : Int) - phase + N) = k - phase + N := IntWalk.i64_in _ (by omega)
      have t1 : (phase - (k : Int) + N).tmod N = up := by rw [hup, Int.tmod_eq_emod_of_nonneg (by omega)]
      have t2 : ((k : Int) - phase + N).tmod N = dn := by rw [hdn, Int.tmod_eq_emod_of_nonneg (by omega)]
      have z1 : ¬ N = 0 := by omega
      have HA := Lib.hid hat
      have HS := Lib.hid hsucc
      clear hup hdn hat hsucc
      by_cases hle : up ≤ dn
      · have hmb : 0 ≤ min most up ∧ min most up ≤ 64 := by omega
        have e5 : IntKind.i64.wrap ((k : Int) + (min most up)) = k + (min most up) := IntWalk.i64_in _ (by omega)
        have t3 : ((k : Int) + (min most up)).tmod N = ((k : Int) + (min most up)) % N := Int.tmod_eq_emod_of_nonneg (by omega)
        have HX : Hid (madeAt N phase most k = ((k : Int) + (min most up)) % N) := Lib.hid (by rw [HA.out, if_pos hle])
        go_wp2_with fail
        refine wp_region_held_drew (S := (fun _ => True)) (by kernel_rfl) ?_ (fun hHeld0 => ?_)
        · (try dsimp only); (first | done | trivial)
        refine wpAnyH_take (i := 0) (oi := { dst := some 16, op := Op.move (Operand.tmp 1), type := 3, pos := "ref.go:458", after := #[], guard := none }) (v := ?_) rfl (by kernel_rfl) (by kernel_rfl) (by kernel_rfl) (fun _ _ _ h => h) (Or.inl ⟨by rfl, ?_⟩) (by assumption) ?_
        rotate_left
        · (intro w hSw; (try dsimp only at hSw); go_simp); (try with_reducible rfl)
        try simp only [Act.put, List.setIfInBounds_toArray, List.set_cons_zero, List.set_cons_succ]
        refine wpAnyH_take (i := 1) (oi := { dst := some 17, op := Op.move (Operand.tmp 8), type := 3, pos := "ref.go:458", after := #[], guard := none }) (v := ?_) rfl (by kernel_rfl) (by kernel_rfl) (by kernel_rfl) (fun _ _ _ h => h) (Or.inl ⟨by rfl, ?_⟩) (by assumption) ?_
        rotate_left
        · (intro w hSw; (try dsimp only at hSw); go_simp); (try with_reducible rfl)
        try simp only [Act.put, List.setIfInBounds_toArray, List.set_cons_zero, List.set_cons_succ]
        refine wpAnyH_take (i := 2) (oi := { dst := some 18, op := Op.binOp BinOp.sub 3 (Operand.tmp 16) (Operand.tmp 17) 3, type := 3, pos := "ref.go:458", after := #[{ on := 0, ground := Ground.data }, { on := 1, ground := Ground.data }], guard := none }) (v := ?_) rfl (by kernel_rfl) (by kernel_rfl) (by kernel_rfl) (fun _ _ _ h => h) (Or.inl ⟨by rfl, ?_⟩) (by assumption) ?_
        rotate_left
        · (intro w hSw; (try dsimp only at hSw); go_simp); (try with_reducible rfl)
        try simp only [Act.put, List.setIfInBounds_toArray, List.set_cons_zero, List.set_cons_succ]
        refine wpAnyH_take (i := 3) (oi := { dst := some 19, op := Op.move (Operand.tmp 0), type := 3, pos := "ref.go:458", after := #[], guard := none }) (v := ?_) rfl (by kernel_rfl) (by kernel_rfl) (by kernel_rfl) (fun _ _ _ h => h) (Or.inl ⟨by rfl, ?_⟩) (by assumption) ?_
        rotate_left
        · (intro w hSw; (try dsimp only at hSw); go_simp); (try with_reducible rfl)
        try simp only [Act.put, List.setIfInBounds_toArray, List.set_cons_zero, List.set_cons_succ]
        refine wpAnyH_take (i := 4) (oi := { dst := some 20, op := Op.binOp BinOp.add 3 (Operand.tmp 18) (Operand.tmp 19) 3, type := 3, pos := "ref.go:458", after := #[{ on := 2, ground := Ground.data }, { on := 3, ground := Ground.data }], guard := none }) (v := ?_) rfl (by kernel_rfl) (by kernel_rfl) (by kernel_rfl) (fun _ _ _ h => h) (Or.inl ⟨by rfl, ?_⟩) (by assumption) ?_
        rotate_left
        · (intro w hSw; (try dsimp only at hSw); go_simp); (try with_reducible rfl)
        try simp only [Act.put, List.setIfInBounds_toArray, List.set_cons_zero, List.set_cons_succ]
        refine wpAnyH_take (i := 5) (oi := { dst := some 21, op := Op.move (Operand.tmp 0), type := 3, pos := "ref.go:458", after := #[], guard := none }) (v := ?_) rfl (by kernel_rfl) (by kernel_rfl) (by kernel_rfl) (fun _ _ _ h => h) (Or.inl ⟨by rfl, ?_⟩) (by assumption) ?_
        rotate_left
        · (intro w hSw; (try dsimp only at hSw); go_simp); (try with_reducible rfl)
        try simp only [Act.put, List.setIfInBounds_toArray, List.set_cons_zero, List.set_cons_succ]
        refine wpAnyH_take (i := 6) (oi := { dst := some 22, op := Op.binOp BinOp.rem 3 (Operand.tmp 20) (Operand.tmp 21) 3, type := 3, pos := "ref.go:458", after := #[{ on := 4, ground := Ground.data }, { on := 5, ground := Ground.data }], guard := none }) (v := ?_) rfl (by kernel_rfl) (by kernel_rfl) (by kernel_rfl) (fun _ _ _ h => h) (Or.inl ⟨by rfl, ?_⟩) (by assumption) ?_
        rotate_left
        · (intro w hSw; (try dsimp only at hSw); go_simp); (try with_reducible rfl)
        try simp only [Act.put, List.setIfInBounds_toArray, List.set_cons_zero, List.set_cons_succ]
        refine wpAnyH_take (i := 7) (oi := { dst := some 23, op := Op.move (Operand.tmp 8), type := 3, pos := "ref.go:458", after := #[{ on := 14, ground := Ground.gcOnly Departure.lateStores }], guard := none }) (v := ?_) rfl (by kernel_rfl) (by kernel_rfl) (by kernel_rfl) (fun _ _ _ h => h) (Or.inl ⟨by rfl, ?_⟩) (by assumption) ?_
        rotate_left
        · (intro w hSw; (try dsimp only at hSw); go_simp); (try with_reducible rfl)
        try simp only [Act.put, List.setIfInBounds_toArray, List.set_cons_zero, List.set_cons_succ]
        refine wpAnyH_take (i := 8) (oi := { dst := some 24, op := Op.move (Operand.tmp 1), type := 3, pos := "ref.go:458", after := #[{ on := 14, ground := Ground.gcOnly Departure.lateStores }], guard := none }) (v := ?_) rfl (by kernel_rfl) (by kernel_rfl) (by kernel_rfl) (fun _ _ _ h => h) (Or.inl ⟨by rfl, ?_⟩) (by assumption) ?_
        rotate_left
        · (intro w hSw; (try dsimp only at hSw); go_simp); (try with_reducible rfl)
        try simp only [Act.put, List.setIfInBounds_toArray, List.set_cons_zero, List.set_cons_succ]
        refine wpAnyH_take (i := 9) (oi := { dst := some 25, op := Op.binOp BinOp.sub 3 (Operand.tmp 23) (Operand.tmp 24) 3, type := 3, pos := "ref.go:458", after := #[{ on := 7, ground := Ground.data }, { on := 8, ground := Ground.data }, { on := 14, ground := Ground.gcOnly Departure.lateStores }], guard := none }) (v := ?_) rfl (by kernel_rfl) (by kernel_rfl) (by kernel_rfl) (fun _ _ _ h => h) (Or.inl ⟨by rfl, ?_⟩) (by assumption) ?_
        rotate_left
        · (intro w hSw; (try dsimp only at hSw); go_simp); (try with_reducible rfl)
        try simp only [Act.put, List.setIfInBounds_toArray, List.set_cons_zero, List.set_cons_succ]
        refine wpAnyH_take (i := 10) (oi := { dst := some 26, op := Op.move (Operand.tmp 0), type := 3, pos := "ref.go:458", after := #[{ on := 14, ground := Ground.gcOnly Departure.lateStores }], guard := none }) (v := ?_) rfl (by kernel_rfl) (by kernel_rfl) (by kernel_rfl) (fun _ _ _ h => h) (Or.inl ⟨by rfl, ?_⟩) (by assumption) ?_
        rotate_left
        · (intro w hSw; (try dsimp only at hSw); go_simp); (try with_reducible rfl)
        try simp only [Act.put, List.setIfInBounds_toArray, List.set_cons_zero, List.set_cons_succ]
        refine wpAnyH_take (i := 11) (oi := { dst := some 27, op := Op.binOp BinOp.add 3 (Operand.tmp 25) (Operand.tmp 26) 3, type := 3, pos := "ref.go:458", after := #[{ on := 9, ground := Ground.data }, { on := 10, ground := Ground.data }, { on := 14, ground := Ground.gcOnly Departure.lateStores }], guard := none }) (v := ?_) rfl (by kernel_rfl) (by kernel_rfl) (by kernel_rfl) (fun _ _ _ h => h) (Or.inl ⟨by rfl, ?_⟩) (by assumption) ?_
        rotate_left
        · (intro w hSw; (try dsimp only at hSw); go_simp); (try with_reducible rfl)
        try simp only [Act.put, List.setIfInBounds_toArray, List.set_cons_zero, List.set_cons_succ]
        refine wpAnyH_take (i := 12) (oi := { dst := some 28, op := Op.move (Operand.tmp 0), type := 3, pos := "ref.go:458", after := #[{ on := 14, ground := Ground.gcOnly Departure.lateStores }], guard := none }) (v := ?_) rfl (by kernel_rfl) (by kernel_rfl) (by kernel_rfl) (fun _ _ _ h => h) (Or.inl ⟨by rfl, ?_⟩) (by assumption) ?_
        rotate_left
        · (intro w hSw; (try dsimp only at hSw); go_simp); (try with_reducible rfl)
        try simp only [Act.put, List.setIfInBounds_toArray, List.set_cons_zero, List.set_cons_succ]
        refine wpAnyH_take (i := 13) (oi := { dst := some 29, op := Op.binOp BinOp.rem 3 (Operand.tmp 27) (Operand.tmp 28) 3, type := 3, pos := "ref.go:458", after := #[{ on := 11, ground := Ground.data }, { on := 12, ground := Ground.data }, { on := 14, ground := Ground.gcOnly Departure.lateStores }], guard := none }) (v := ?_) rfl (by kernel_rfl) (by kernel_rfl) (by kernel_rfl) (fun _ _ _ h => h) (Or.inl ⟨by rfl, ?_⟩) (by assumption) ?_
        rotate_left
        · (intro w hSw; (try dsimp only at hSw); go_simp); (try with_reducible rfl)
        try simp only [Act.put, List.setIfInBounds_toArray, List.set_cons_zero, List.set_cons_succ]
        refine wpAnyH_take (i := 14) (oi := { dst := some 9, op := Op.assign (Operand.tmp 22), type := 3, pos := "ref.go:458", after := #[{ on := 6, ground := Ground.data }, { on := 0, ground := Ground.phase }, { on := 1, ground := Ground.phase }, { on := 2, ground := Ground.phase }, { on := 3, ground := Ground.phase }, { on := 4, ground := Ground.phase }, { on := 5, ground := Ground.phase }, { on := 6, ground := Ground.phase }, { on := 7, ground := Ground.textOnly Departure.lateStores }, { on := 8, ground := Ground.textOnly Departure.lateStores }, { on := 9, ground := Ground.textOnly Departure.lateStores }, { on := 10, ground := Ground.textOnly Departure.lateStores }, { on := 11, ground := Ground.textOnly Departure.lateStores }, { on := 12, ground := Ground.textOnly Departure.lateStores }, { on := 13, ground := Ground.textOnly Departure.lateStores }], guard := none }) (v := ?_) rfl (by kernel_rfl) (by kernel_rfl) (by kernel_rfl) (fun _ _ _ h => h) (Or.inl ⟨by rfl, ?_⟩) (by assumption) ?_
        rotate_left
        · (intro w hSw; (try dsimp only at hSw); go_simp); (try with_reducible rfl)
        try simp only [Act.put, List.setIfInBounds_toArray, List.set_cons_zero, List.set_cons_succ]
        refine wpAnyH_take (i := 15) (oi := { dst := some 10, op := Op.assign (Operand.tmp 29), type := 3, pos := "ref.go:458", after := #[{ on := 13, ground := Ground.data }, { on := 14, ground := Ground.chain }, { on := 0, ground := Ground.phase }, { on := 1, ground := Ground.phase }, { on := 2, ground := Ground.phase }, { on := 3, ground := Ground.phase }, { on := 4, ground := Ground.phase }, { on := 5, ground := Ground.phase }, { on := 6, ground := Ground.phase }, { on := 7, ground := Ground.phase }, { on := 8, ground := Ground.phase }, { on := 9, ground := Ground.phase }, { on := 10, ground := Ground.phase }, { on := 11, ground := Ground.phase }, { on := 12, ground := Ground.phase }, { on := 13, ground := Ground.phase }, { on := 14, ground := Ground.phase }], guard := none }) (v := ?_) rfl (by kernel_rfl) (by kernel_rfl) (by kernel_rfl) (fun _ _ _ h => h) (Or.inl ⟨by rfl, ?_⟩) (by assumption) ?_
        rotate_left
        · (intro w hSw; (try dsimp only at hSw); go_simp); (try with_reducible rfl)
        try simp only [Act.put, List.setIfInBounds_toArray, List.set_cons_zero, List.set_cons_succ]
        refine wpAnyH_done (by kernel_rfl) ?_ _
        clear hHeld0
        obtain ⟨wq, hwq⟩ : ∃ v, v = wr.drew := ⟨_, rfl⟩
        have hbq : Below w.heap.size w wq := by rw [hwq]; exact hbr.drew
        have hoq := own_below hown (show Below wr.heap.size wr wq by rw [hwq]; exact (Below.refl _ _).drew)
        rw [← hwq]
        clear hwq hown hbr
        have hsq := hbq.size
        go_wp2_with (at_builtin; refine wpList_append_own _ rfl _ _ 22 rfl w.heap.size 3 i0 (.int .i64 0) 1 8 Tryz.underlying22 hi hz0 hz1 hz2 rfl (by decide) _ _ _ rfl (hoq.alloc _) ⟨wq.heap.size, 0, none⟩ 1 1 [.int .i64 (((k : Int) + (min most up)) % N)] rfl rfl (cell_one_new _ _ _) (by simp [Value.oneCell']) (by unfold maxLen; omega) (by have := hbq.size; omega) (by simp; omega) ?_; intro v' w1 hown1 hgrow _)
        have hb1 := below_own hbq hoq hgrow
        rw [← HX.out, ← HS.out] at hown1
        go_wp2
        go_roundw
        case rel => exact ⟨k + 1, by omega, by go_num, hown1, hb1⟩
        case measure => simp [intOf]; omega
      · have hmb : 0 ≤ min most dn ∧ min most dn ≤ 64 := by omega
        have e5 : IntKind.i64.wrap ((k : Int) - (min most dn)) = k - (min most dn) := IntWalk.i64_in _ (by omega)
        have e6 : IntKind.i64.wrap ((k : Int) - (min most dn) + N) = k - (min most dn) + N := IntWalk.i64_in _ (by omega)
        have t3 : ((k : Int) - (min most dn) + N).tmod N = ((k : Int) - (min most dn) + N) % N := Int.tmod_eq_emod_of_nonneg (by omega)
        have HX : Hid (madeAt N phase most k = ((k : Int) - (min most dn)) % N) := Lib.hid (by rw [HA.out, if_neg hle, Int.add_emod_right])
        go_wp2_with fail
        refine wp_region_held_drew (S := (fun _ => True)) (by kernel_rfl) ?_ (fun hHeld0 => ?_)
        · (try dsimp only); (first | done | trivial)
        refine wpAnyH_take (i := 0) (oi := { dst := some 16, op := Op.move (Operand.tmp 1), type := 3, pos := "ref.go:458", after := #[], guard := none }) (v := ?_) rfl (by kernel_rfl) (by kernel_rfl) (by kernel_rfl) (fun _ _ _ h => h) (Or.inl ⟨by rfl, ?_⟩) (by assumption) ?_
        rotate_left
        · (intro w hSw; (try dsimp only at hSw); go_simp); (try with_reducible rfl)
        try simp only [Act.put, List.setIfInBounds_toArray, List.set_cons_zero, List.set_cons_succ]
        refine wpAnyH_take (i := 1) (oi := { dst := some 17, op := Op.move (Operand.tmp 8), type := 3, pos := "ref.go:458", after := #[], guard := none }) (v := ?_) rfl (by kernel_rfl) (by kernel_rfl) (by kernel_rfl) (fun _ _ _ h => h) (Or.inl ⟨by rfl, ?_⟩) (by assumption) ?_
        rotate_left
        · (intro w hSw; (try dsimp only at hSw); go_simp); (try with_reducible rfl)
        try simp only [Act.put, List.setIfInBounds_toArray, List.set_cons_zero, List.set_cons_succ]
        refine wpAnyH_take (i := 2) (oi := { dst := some 18, op := Op.binOp BinOp.sub 3 (Operand.tmp 16) (Operand.tmp 17) 3, type := 3, pos := "ref.go:458", after := #[{ on := 0, ground := Ground.data }, { on := 1, ground := Ground.data }], guard := none }) (v := ?_) rfl (by kernel_rfl) (by kernel_rfl) (by kernel_rfl) (fun _ _ _ h => h) (Or.inl ⟨by rfl, ?_⟩) (by assumption) ?_
        rotate_left
        · (intro w hSw; (try dsimp only at hSw); go_simp); (try with_reducible rfl)
        try simp only [Act.put, List.setIfInBounds_toArray, List.set_cons_zero, List.set_cons_succ]
        refine wpAnyH_take (i := 3) (oi := { dst := some 19, op := Op.move (Operand.tmp 0), type := 3, pos := "ref.go:458", after := #[], guard := none }) (v := ?_) rfl (by kernel_rfl) (by kernel_rfl) (by kernel_rfl) (fun _ _ _ h => h) (Or.inl ⟨by rfl, ?_⟩) (by assumption) ?_
        rotate_left
        · (intro w hSw; (try dsimp only at hSw); go_simp); (try with_reducible rfl)
        try simp only [Act.put, List.setIfInBounds_toArray, List.set_cons_zero, List.set_cons_succ]
        refine wpAnyH_take (i := 4) (oi := { dst := some 20, op := Op.binOp BinOp.add 3 (Operand.tmp 18) (Operand.tmp 19) 3, type := 3, pos := "ref.go:458", after := #[{ on := 2, ground := Ground.data }, { on := 3, ground := Ground.data }], guard := none }) (v := ?_) rfl (by kernel_rfl) (by kernel_rfl) (by kernel_rfl) (fun _ _ _ h => h) (Or.inl ⟨by rfl, ?_⟩) (by assumption) ?_
        rotate_left
        · (intro w hSw; (try dsimp only at hSw); go_simp); (try with_reducible rfl)
        try simp only [Act.put, List.setIfInBounds_toArray, List.set_cons_zero, List.set_cons_succ]
        refine wpAnyH_take (i := 5) (oi := { dst := some 21, op := Op.move (Operand.tmp 0), type := 3, pos := "ref.go:458", after := #[], guard := none }) (v := ?_) rfl (by kernel_rfl) (by kernel_rfl) (by kernel_rfl) (fun _ _ _ h => h) (Or.inl ⟨by rfl, ?_⟩) (by assumption) ?_
        rotate_left
        · (intro w hSw; (try dsimp only at hSw); go_simp); (try with_reducible rfl)
        try simp only [Act.put, List.setIfInBounds_toArray, List.set_cons_zero, List.set_cons_succ]
        refine wpAnyH_take (i := 6) (oi := { dst := some 22, op := Op.binOp BinOp.rem 3 (Operand.tmp 20) (Operand.tmp 21) 3, type := 3, pos := "ref.go:458", after := #[{ on := 4, ground := Ground.data }, { on := 5, ground := Ground.data }], guard := none }) (v := ?_) rfl (by kernel_rfl) (by kernel_rfl) (by kernel_rfl) (fun _ _ _ h => h) (Or.inl ⟨by rfl, ?_⟩) (by assumption) ?_
        rotate_left
        · (intro w hSw; (try dsimp only at hSw); go_simp); (try with_reducible rfl)
        try simp only [Act.put, List.setIfInBounds_toArray, List.set_cons_zero, List.set_cons_succ]
        refine wpAnyH_take (i := 7) (oi := { dst := some 23, op := Op.move (Operand.tmp 8), type := 3, pos := "ref.go:458", after := #[{ on := 14, ground := Ground.gcOnly Departure.lateStores }], guard := none }) (v := ?_) rfl (by kernel_rfl) (by kernel_rfl) (by kernel_rfl) (fun _ _ _ h => h) (Or.inl ⟨by rfl, ?_⟩) (by assumption) ?_
        rotate_left
        · (intro w hSw; (try dsimp only at hSw); go_simp); (try with_reducible rfl)
        try simp only [Act.put, List.setIfInBounds_toArray, List.set_cons_zero, List.set_cons_succ]
        refine wpAnyH_take (i := 8) (oi := { dst := some 24, op := Op.move (Operand.tmp 1), type := 3, pos := "ref.go:458", after := #[{ on := 14, ground := Ground.gcOnly Departure.lateStores }], guard := none }) (v := ?_) rfl (by kernel_rfl) (by kernel_rfl) (by kernel_rfl) (fun _ _ _ h => h) (Or.inl ⟨by rfl, ?_⟩) (by assumption) ?_
        rotate_left
        · (intro w hSw; (try dsimp only at hSw); go_simp); (try with_reducible rfl)
        try simp only [Act.put, List.setIfInBounds_toArray, List.set_cons_zero, List.set_cons_succ]
        refine wpAnyH_take (i := 9) (oi := { dst := some 25, op := Op.binOp BinOp.sub 3 (Operand.tmp 23) (Operand.tmp 24) 3, type := 3, pos := "ref.go:458", after := #[{ on := 7, ground := Ground.data }, { on := 8, ground := Ground.data }, { on := 14, ground := Ground.gcOnly Departure.lateStores }], guard := none }) (v := ?_) rfl (by kernel_rfl) (by kernel_rfl) (by kernel_rfl) (fun _ _ _ h => h) (Or.inl ⟨by rfl, ?_⟩) (by assumption) ?_
        rotate_left
        · (intro w hSw; (try dsimp only at hSw); go_simp); (try with_reducible rfl)
        try simp only [Act.put, List.setIfInBounds_toArray, List.set_cons_zero, List.set_cons_succ]
        refine wpAnyH_take (i := 10) (oi := { dst := some 26, op := Op.move (Operand.tmp 0), type := 3, pos := "ref.go:458", after := #[{ on := 14, ground := Ground.gcOnly Departure.lateStores }], guard := none }) (v := ?_) rfl (by kernel_rfl) (by kernel_rfl) (by kernel_rfl) (fun _ _ _ h => h) (Or.inl ⟨by rfl, ?_⟩) (by assumption) ?_
        rotate_left
        · (intro w hSw; (try dsimp only at hSw); go_simp); (try with_reducible rfl)
        try simp only [Act.put, List.setIfInBounds_toArray, List.set_cons_zero, List.set_cons_succ]
        refine wpAnyH_take (i := 11) (oi := { dst := some 27, op := Op.binOp BinOp.add 3 (Operand.tmp 25) (Operand.tmp 26) 3, type := 3, pos := "ref.go:458", after := #[{ on := 9, ground := Ground.data }, { on := 10, ground := Ground.data }, { on := 14, ground := Ground.gcOnly Departure.lateStores }], guard := none }) (v := ?_) rfl (by kernel_rfl) (by kernel_rfl) (by kernel_rfl) (fun _ _ _ h => h) (Or.inl ⟨by rfl, ?_⟩) (by assumption) ?_
        rotate_left
        · (intro w hSw; (try dsimp only at hSw); go_simp); (try with_reducible rfl)
        try simp only [Act.put, List.setIfInBounds_toArray, List.set_cons_zero, List.set_cons_succ]
        refine wpAnyH_take (i := 12) (oi := { dst := some 28, op := Op.move (Operand.tmp 0), type := 3, pos := "ref.go:458", after := #[{ on := 14, ground := Ground.gcOnly Departure.lateStores }], guard := none }) (v := ?_) rfl (by kernel_rfl) (by kernel_rfl) (by kernel_rfl) (fun _ _ _ h => h) (Or.inl ⟨by rfl, ?_⟩) (by assumption) ?_
        rotate_left
        · (intro w hSw; (try dsimp only at hSw); go_simp); (try with_reducible rfl)
        try simp only [Act.put, List.setIfInBounds_toArray, List.set_cons_zero, List.set_cons_succ]
        refine wpAnyH_take (i := 13) (oi := { dst := some 29, op := Op.binOp BinOp.rem 3 (Operand.tmp 27) (Operand.tmp 28) 3, type := 3, pos := "ref.go:458", after := #[{ on := 11, ground := Ground.data }, { on := 12, ground := Ground.data }, { on := 14, ground := Ground.gcOnly Departure.lateStores }], guard := none }) (v := ?_) rfl (by kernel_rfl) (by kernel_rfl) (by kernel_rfl) (fun _ _ _ h => h) (Or.inl ⟨by rfl, ?_⟩) (by assumption) ?_
        rotate_left
        · (intro w hSw; (try dsimp only at hSw); go_simp); (try with_reducible rfl)
        try simp only [Act.put, List.setIfInBounds_toArray, List.set_cons_zero, List.set_cons_succ]
        refine wpAnyH_take (i := 14) (oi := { dst := some 9, op := Op.assign (Operand.tmp 22), type := 3, pos := "ref.go:458", after := #[{ on := 6, ground := Ground.data }, { on := 0, ground := Ground.phase }, { on := 1, ground := Ground.phase }, { on := 2, ground := Ground.phase }, { on := 3, ground := Ground.phase }, { on := 4, ground := Ground.phase }, { on := 5, ground := Ground.phase }, { on := 6, ground := Ground.phase }, { on := 7, ground := Ground.textOnly Departure.lateStores }, { on := 8, ground := Ground.textOnly Departure.lateStores }, { on := 9, ground := Ground.textOnly Departure.lateStores }, { on := 10, ground := Ground.textOnly Departure.lateStores }, { on := 11, ground := Ground.textOnly Departure.lateStores }, { on := 12, ground := Ground.textOnly Departure.lateStores }, { on := 13, ground := Ground.textOnly Departure.lateStores }], guard := none }) (v := ?_) rfl (by kernel_rfl) (by kernel_rfl) (by kernel_rfl) (fun _ _ _ h => h) (Or.inl ⟨by rfl, ?_⟩) (by assumption) ?_
        rotate_left
        · (intro w hSw; (try dsimp only at hSw); go_simp); (try with_reducible rfl)
        try simp only [Act.put, List.setIfInBounds_toArray, List.set_cons_zero, List.set_cons_succ]
        refine wpAnyH_take (i := 15) (oi := { dst := some 10, op := Op.assign (Operand.tmp 29), type := 3, pos := "ref.go:458", after := #[{ on := 13, ground := Ground.data }, { on := 14, ground := Ground.chain }, { on := 0, ground := Ground.phase }, { on := 1, ground := Ground.phase }, { on := 2, ground := Ground.phase }, { on := 3, ground := Ground.phase }, { on := 4, ground := Ground.phase }, { on := 5, ground := Ground.phase }, { on := 6, ground := Ground.phase }, { on := 7, ground := Ground.phase }, { on := 8, ground := Ground.phase }, { on := 9, ground := Ground.phase }, { on := 10, ground := Ground.phase }, { on := 11, ground := Ground.phase }, { on := 12, ground := Ground.phase }, { on := 13, ground := Ground.phase }, { on := 14, ground := Ground.phase }], guard := none }) (v := ?_) rfl (by kernel_rfl) (by kernel_rfl) (by kernel_rfl) (fun _ _ _ h => h) (Or.inl ⟨by rfl, ?_⟩) (by assumption) ?_
        rotate_left
        · (intro w hSw; (try dsimp only at hSw); go_simp); (try with_reducible rfl)
        try simp only [Act.put, List.setIfInBounds_toArray, List.set_cons_zero, List.set_cons_succ]
        refine wpAnyH_done (by kernel_rfl) ?_ _
        clear hHeld0
        obtain ⟨wq, hwq⟩ : ∃ v, v = wr.drew := ⟨_, rfl⟩
        have hbq : Below w.heap.size w wq := by rw [hwq]; exact hbr.drew
        have hoq := own_below hown (show Below wr.heap.size wr wq by rw [hwq]; exact (Below.refl _ _).drew)
        rw [← hwq]
        clear hwq hown hbr
        have hsq := hbq.size
        go_wp2_with (at_builtin; refine wpList_append_own _ rfl _ _ 22 rfl w.heap.size 3 i0 (.int .i64 0) 1 8 Tryz.underlying22 hi hz0 hz1 hz2 rfl (by decide) _ _ _ rfl (hoq.alloc _) ⟨wq.heap.size, 0, none⟩ 1 1 [.int .i64 (((k : Int) - (min most dn)) % N)] rfl rfl (cell_one_new _ _ _) (by simp [Value.oneCell']) (by unfold maxLen; omega) (by have := hbq.size; omega) (by simp; omega) ?_; intro v' w1 hown1 hgrow _)
        have hb1 := below_own hbq hoq hgrow
        rw [← HX.out, ← HS.out] at hown1
        go_wp2
        go_roundw
        case rel => exact ⟨k + 1, by omega, by go_num, hown1, hb1⟩
        case measure => simp [intOf]; omega
    · obtain rfl : k = N := by omega
      have hl := Lib.hid (Ints.of_own (l := madeL k phase most) hown (by rw [madeL, upto_length]; simp))
      clear hown
      go_wp2
      go_ret
      exact ⟨⟨_, rfl, hl.out⟩, hbr⟩

set_option maxRecDepth 100000 in
set_option maxHeartbeats 2000000 in
theorem made_law (n phase most : Int) (w : World) (hq : Quarters w) (hp : Pows w) :
    Calls Tryz.prog 8 #[.int .i64 n, .int .i64 phase, .int .i64 most] w fun e w' => e = .returned (.bool true) ∧ Below w.heap.size w w' := by
  go_enter Tryz.func8, Tryz.ntmps8
  go_wp2_with fail
  refine (Made_any n phase most w).mono ?_
  rintro e w1 ⟨⟨u, rfl, hu⟩, hb⟩
  go_wp2_with fail
  refine (CheckMadeR_any n phase most w1).mono ?_
  rintro e w2 ⟨rfl, rfl⟩
  by_cases he : made1E n phase most = 0
  · have hr : madeR n phase most = madeL n phase most := by rw [madeR, if_neg (by rw [he]; simp)]
    have hlen : (madeL n phase most).length ≤ 64 := by have := made1E_ok he; rw [madeL, upto_length]; omega
    have hM := Lib.hid (MadeR_any n phase most w1 he)
    rw [hr] at hu
    rw [he]
    clear he hr
    go_wp2_with fail
    refine hM.out.mono ?_
    rintro e w3 ⟨⟨v, rfl, hv⟩, hb3⟩
    have hB3 := bthen hb hb3
    go_wp2_with fail
    refine (sameInts u v _ w3 (hu.carry hb3) hv (by omega)).mono ?_
    rintro e w4 ⟨rfl, hb4⟩
    have hB4 := bthen hB3 hb4
    go_wp2_with fail
    refine (awake_any w4 (hq.below hB4 hq.size) (hp.below hB4)).mono ?_
    rintro e w5 ⟨rfl, hb5⟩
    have hB5 := bthen hB4 hb5
    go_wp2
    go_ret
    exact ⟨rfl, hB5⟩
  · have hr : madeR n phase most = [] := by rw [madeR, if_pos he]
    rw [hr] at hu
    clear hr
    go_wp2_with fail
    refine (sameInts u _ [] w1 hu (Ints.nil _) (by decide)).mono ?_
    rintro e w4 ⟨rfl, hb4⟩
    have hB4 := bthen hb hb4
    go_wp2_with fail
    refine (awake_any w4 (hq.below hB4 hq.size) (hp.below hB4)).mono ?_
    rintro e w5 ⟨rfl, hb5⟩
    have hB5 := bthen hB4 hb5
    go_wp2
    go_ret
    exact ⟨rfl, hB5⟩

end Go.Proofs.YtnlmaildmeihgaaGreatDoor

/- The package harmonic: taps are compared. -/
import Derived.Test.YtfkemdapmoponaaGreatDoorHpG
namespace Go.Proofs.YtfkemdapmoponaaGreatDoor
set_option linter.unusedSimpArgs false
set_option linter.unusedVariables false
open Go.RowKit

/-- cmp.Compare. -/
def cmpI (x y : Int) : Int := if x < y then -1 else if y < x then 1 else 0
theorem isNaN_any (x : Int) (w : World) : Calls Tryz.prog 167 #[.int .i64 x] w fun r w' => r = .returned (.bool false) ∧ w = w' := by
  go_enter Tryz.func167, Tryz.ntmps167
  go_wp2
  go_ret
  exact ⟨ret_bool (by simp), rfl⟩
set_option maxHeartbeats 400000 in
theorem Compare_any (x y : Int) (w : World) : Calls Tryz.prog 149 #[.int .i64 x, .int .i64 y] w fun r w' => r = .returned (.int .i64 (cmpI x y)) ∧ w = w' := by
  by_cases h1 : x < y
  · have H := Lib.hid (show cmpI x y = -1 by simp [cmpI, h1])
    generalize cmpI x y = r at H ⊢
    go_enter Tryz.func149, Tryz.ntmps149
    go_wp2_with fail
    refine (isNaN_any _ _).mono ?_
    rintro e w' ⟨rfl, rfl⟩
    go_wp2_with fail
    refine (isNaN_any _ _).mono ?_
    rintro e w' ⟨rfl, rfl⟩
    go_wp2
    go_ret
    exact ⟨ret_int H.out.symm, rfl⟩
  · by_cases h2 : y < x
    · have H := Lib.hid (show cmpI x y = 1 by simp [cmpI, h1, h2])
      generalize cmpI x y = r at H ⊢
      go_enter Tryz.func149, Tryz.ntmps149
      go_wp2_with fail
      refine (isNaN_any _ _).mono ?_
      rintro e w' ⟨rfl, rfl⟩
      go_wp2_with fail
      refine (isNaN_any _ _).mono ?_
      rintro e w' ⟨rfl, rfl⟩
      go_wp2
      go_ret
      exact ⟨ret_int H.out.symm, rfl⟩
    · have H := Lib.hid (show cmpI x y = 0 by simp [cmpI, h1, h2])
      generalize cmpI x y = r at H ⊢
      go_enter Tryz.func149, Tryz.ntmps149
      go_wp2_with fail
      refine (isNaN_any _ _).mono ?_
      rintro e w' ⟨rfl, rfl⟩
      go_wp2_with fail
      refine (isNaN_any _ _).mono ?_
      rintro e w' ⟨rfl, rfl⟩
      go_wp2
      go_ret
      exact ⟨ret_int H.out.symm, rfl⟩
set_option maxHeartbeats 400000 in
theorem Or_any (v : Value) (l : List Int) (w : World) (hl : l.length ≤ maxLen) (hv : Ints w v l) :
    Calls Tryz.prog 148 #[v] w fun r w' => r = .returned (.int .i64 (firstE l)) ∧ w = w' := by
  unfold maxLen at hl
  obtain ⟨a, cap, rfl, hc, hv⟩ := hv
  rcases Nat.eq_zero_or_pos l.length with h0 | h0
  · obtain rfl : l = [] := List.length_eq_zero_iff.1 h0
    go_enter Tryz.func148, Tryz.ntmps148
    go_wp2
    go_loop [8] (fun i => i = .int .i64 0) (fun _ => 0)
    case atStart => rfl
    case round =>
      obtain rfl := hrel
      go_wp2
      go_ret
      exact ⟨rfl, rfl⟩
  · obtain ⟨b, off, rfl, hcs⟩ := hv h0
    clear hv
    go_enter Tryz.func148, Tryz.ntmps148
    go_wp2
    go_loop [8] (fun i => ∃ k : Nat, k ≤ l.length ∧ i = .int .i64 k ∧ firstE (l.take k) = 0) (fun i => l.length - (intOf i).toNat)
    case atStart => exact ⟨0, by omega, rfl, rfl⟩
    case round =>
      obtain ⟨k, hk, rfl, hf⟩ := hrel
      by_cases hlt : k < l.length
      · have hcell := hcs k hlt
        have hs := firstE_take_succ l k hlt hf
        clear hcs
        generalize l[k]?.getD 0 = x at hcell hs
        have HS := Lib.hid hs
        clear hs hf
        by_cases hz : x = 0
        · go_wp2
          go_round
          case rel => exact ⟨k + 1, by omega, by go_num, by rw [HS.out]; exact hz⟩
          case measure => simp [intOf]; omega
        · go_wp2
          go_ret
          exact ⟨ret_int (by rw [firstE_of_take l (k+1) (by rw [HS.out]; exact hz), HS.out]), rfl⟩
      · have HF := Lib.hid hf
        clear hf
        go_wp2
        go_ret
        have h := HF.out
        rw [List.take_of_length_le (by omega)] at h
        exact ⟨ret_int h.symm, rfl⟩
/-- the absolute value of a tap, as the machine has it. -/
def absT (x : Int) : Int := if x < wrap64 (-x) then wrap64 (-x) else x
def cmpT (x y : Int) : Int := firstE [cmpI (absT x) (absT y), cmpI x y]
set_option maxHeartbeats 1000000 in
theorem compare_any (x y : Int) (w : World) : Calls Tryz.prog 128 #[.int .i64 x, .int .i64 y] w fun r w' => r = .returned (.int .i64 (cmpT x y)) ∧
    w' = w.alloc (.cells #[.int .i64 (cmpI (absT x) (absT y)), .int .i64 (cmpI x y)] 3) := by
  rw [cmpT]
  have hx : absT x = if x < wrap64 (-x) then wrap64 (-x) else x := rfl
  have hy : absT y = if y < wrap64 (-y) then wrap64 (-y) else y := rfl
  have ex : IntKind.i64.wrap (-x) = wrap64 (-x) := by rw [wrapEq]
  have ey : IntKind.i64.wrap (-y) = wrap64 (-y) := by rw [wrapEq]
  generalize wrap64 (-x) = nx at hx ex
  generalize wrap64 (-y) = ny at hy ey
  have TA := Lib.hid (fun W => Compare_any (absT x) (absT y) W)
  have TB := Lib.hid (fun W => Compare_any x y W)
  generalize cmpI (absT x) (absT y) = c1 at TA ⊢
  generalize cmpI x y = c2 at TB ⊢
  generalize absT x = ax at TA hx
  generalize absT y = ay at TA hy
  have TF := Lib.hid (fun (u : Value) (W : World) (h : Ints W u [c1, c2]) => Or_any u [c1, c2] W (by simp [maxLen]) h)
  generalize firstE [c1, c2] = E at TF ⊢
  by_cases h1 : x < nx
  all_goals
    by_cases h2 : y < ny
    all_goals
      simp only [h1, h2, if_true, if_false] at hx hy
      subst hx hy
      go_enter Tryz.func128, Tryz.ntmps128
      go_wp2_with fail
      refine (TA.out w).mono ?_
      rintro e w' ⟨rfl, rfl⟩
      go_wp2_with fail
      refine (TB.out w).mono ?_
      rintro e w' ⟨rfl, rfl⟩
      go_wp2_with fail
      refine (TF.out _ (w.alloc (.cells #[.int .i64 c1, .int .i64 c2] 3)) (Ints.lit w 3 [c1, c2] 2 rfl)).mono ?_
      rintro e w' ⟨rfl, rfl⟩
      go_wp2_with fail
      go_ret
      exact ⟨rfl, rfl⟩
end Go.Proofs.YtfkemdapmoponaaGreatDoor

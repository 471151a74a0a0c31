/- The references' When, CheckRange, First; the law's first. -/
import Derived.Test.YtgdkomgfalkihaaGreatDoorVbN
namespace Go.Proofs.YtgdkomgfalkihaaGreatDoor
section
set_option linter.unusedSimpArgs false
set_option linter.unusedVariables false
open Go.RowKit
set_option maxHeartbeats 400000 in
theorem WhenR_any (c : Bool) (e : Int) (w : World) :
 Calls Tryz.prog 78 #[.bool c, .int .i64 e] w fun r w' => r = .returned (.int .i64 (whenE c e)) ∧ w = w' := by
 cases c
 ·go_enter Tryz.func78, Tryz.ntmps78
  go_wp2
  go_ret
  exact ⟨rfl, rfl⟩
 ·go_enter Tryz.func78, Tryz.ntmps78
  go_wp2
  go_ret
  exact ⟨rfl, rfl⟩
set_option maxHeartbeats 400000 in
theorem CheckRange_any (n lo hi : Int) (w : World) :
 Calls Tryz.prog 16 #[.int .i64 n, .int .i64 lo, .int .i64 hi] w fun r w' => r = .returned (.int .i64 (withinE n lo hi)) ∧ w = w' := by
 by_cases h1 : n < lo
 ·go_enter Tryz.func16, Tryz.ntmps16
  go_wp2_with fail
  refine (WhenR_any _ _ _).mono ?_
  rintro e w' ⟨rfl, rfl⟩
  go_wp2
  go_ret
  exact ⟨by simp [whenE, withinE, h1], rfl⟩
 ·by_cases h2 : hi < n
  all_goals
   go_enter Tryz.func16, Tryz.ntmps16
   go_wp2_with fail
   refine (WhenR_any _ _ _).mono ?_
   rintro e w' ⟨rfl, rfl⟩
   go_wp2
   go_ret
   exact ⟨by simp [whenE, withinE, h1, h2], rfl⟩
set_option maxHeartbeats 400000 in
theorem FirstR_any (v : Value) (l : List Int) (w : World) (hl : l.length ≤ 1000000000) (hv : Ints w v l) :
 Calls Tryz.prog 77 #[v] w fun r w' => r = .returned (.int .i64 (firstE l)) ∧ w = w' := by
 obtain ⟨a, cap, rfl, hc, hv⟩ := hv
 rcases Nat.eq_zero_or_pos l.length with h0 | h0
 ·obtain rfl : l = [] := List.length_eq_zero_iff.1 h0
  go_enter Tryz.func77, Tryz.ntmps77
  go_wp2
  go_loop [3] (fun i => i = .int .i64 0) (fun _ => 0)
  case atStart => rfl
  case round =>
   obtain rfl := hrel
   go_wp2
   go_ret
   exact ⟨rfl, rfl⟩
 ·obtain ⟨b, off, rfl, hcs⟩ := hv h0
  clear hv
  go_enter Tryz.func77, Tryz.ntmps77
  go_wp2
  go_loop [3] (fun i => ∃ k : Nat, k ≤ l.length ∧ i = .int .i64 k ∧ firstE (l.take k) = 0) (fun i => l.length - (intOf i).toNat)
  case atStart => exact ⟨0, by omega, rfl, rfl⟩
  case round =>
   obtain ⟨k, hk, rfl, hf⟩ := hrel
   by_cases hlt : k < l.length
   ·have hcell := hcs k hlt
    have hs := firstE_take_succ l k hlt hf
    clear hcs
    generalize l[k]?.getD 0 = x at hcell hs
    have HS := Lib.hid hs
    clear hs hf
    by_cases hz : x = 0
    ·subst hz
     go_wp2
     go_round
     case rel => exact ⟨k + 1, by omega, by go_num, HS.out⟩
     case measure => simp [intOf]; omega
    ·go_wp2
     go_ret
     exact ⟨ret_int (by rw [firstE_of_take l (k+1) (by rw [HS.out]; exact hz), HS.out]), rfl⟩
   ·have HF := Lib.hid hf
    clear hf
    go_wp2
    go_ret
    have h := HF.out
    rw [List.take_of_length_le (by omega)] at h
    exact ⟨ret_int h.symm, rfl⟩
theorem firstL7_any (v : Value) (l : List Int) (w : World) (hl : l.length ≤ 100) (hv : Ints w v l) :
 Calls Tryz.prog 13 #[v] w fun r w' => r = .returned (.int .i64 (firstE l)) ∧ w = w' := by
 have T := Lib.hid (FirstR_any v l w (by omega) hv)
 go_enter Tryz.func13, Tryz.ntmps13
 go_wp2_with fail
 refine T.out.mono ?_
 rintro e w2 ⟨rfl, rfl⟩
 go_wp2
 go_ret
 exact ⟨rfl, rfl⟩
theorem CheckTickR_any (n : Int) (w : World) : Calls Tryz.prog 15 #[.int .i64 n] w fun r w' => r = .returned (.int .i64 (withinE n 0 100000)) ∧ w = w' := by
 go_enter Tryz.func15, Tryz.ntmps15
 go_wp2_with fail
 refine (CheckRange_any n 0 100000 w).mono ?_
 rintro e w2 ⟨rfl, rfl⟩
 go_wp2
 go_ret
 exact ⟨rfl, rfl⟩
theorem CheckSetR_any (n : Int) (w : World) : Calls Tryz.prog 85 #[.int .i64 n] w fun r w' => r = .returned (.int .i64 (withinE n 0 4095)) ∧ w = w' := by
 go_enter Tryz.func85, Tryz.ntmps85
 go_wp2_with fail
 refine (CheckRange_any n 0 4095 w).mono ?_
 rintro e w2 ⟨rfl, rfl⟩
 go_wp2
 go_ret
 exact ⟨rfl, rfl⟩
end
section
set_option linter.unusedSimpArgs false
set_option linter.unusedVariables false
open Go.RowKit
/-- a number halved so often. -/
def halfK (n : Int) : Nat → Int
 | 0 => n
 | k + 1 => Int.tdiv (halfK n k) 2
def hasR (n : Int) (v : Nat) : Bool := Int.tmod (halfK n v) 2 == 1
theorem halfK_rng (n : Int) (h : 0 ≤ n ∧ n ≤ 1000000000) (k : Nat) : 0 ≤ halfK n k ∧ halfK n k ≤ 1000000000 := by
 induction k with
 | zero => exact h
 | succ k ih =>
   simp only [halfK]
   rw [Int.tdiv_eq_ediv_of_nonneg ih.1]
   omega
set_option maxRecDepth 100000 in
set_option maxHeartbeats 1000000 in
theorem Has_any (n : Int) (v : Nat) (w : World) (h : 0 ≤ n ∧ n ≤ 1000000000) (hv : v ≤ 1000000) : Calls Tryz.prog 116 #[.int .i64 n, .int .i64 v] w fun r w' => r = .returned (.bool (hasR n v)) ∧ w = w' := by
 have HR := Lib.hid (halfK_rng n h)
 clear h
 go_enter Tryz.func116, Tryz.ntmps116
 go_wp2_with fail
 go_loop [0, 5] (fun m i => ∃ k : Nat, k ≤ v ∧ i = .int .i64 k ∧ m = .int .i64 (halfK n k)) (fun _ i => v - (intOf i).toNat)
 case atStart => exact ⟨0, by omega, rfl, rfl⟩
 case round =>
  obtain ⟨k, hk, rfl, rfl⟩ := hrel
  by_cases hlt : k < v
  ·have hr := HR.out k
   have hs : halfK n (k + 1) = Int.tdiv (halfK n k) 2 := rfl
   obtain ⟨m, hm⟩ : ∃ z, z = halfK n k := ⟨_, rfl⟩
   rw [← hm] at hr hs ⊢
   have e : Int.tdiv m 2 = m / 2 := Int.tdiv_eq_ediv_of_nonneg hr.1
   rw [e] at hs
   have HS := Lib.hid hs
   have d1 : (k : Int) < (v : Int) := by omega
   clear hm hs e
   go_wp2
   go_round
   case rel => exact ⟨k + 1, by omega, by go_num, by rw [HS.out]⟩
   case measure => simp [intOf]; omega
  ·obtain rfl : k = v := by omega
   have hr := HR.out k
   have hs : hasR n k = (Int.tmod (halfK n k) 2 == 1) := rfl
   obtain ⟨m, hm⟩ : ∃ z, z = halfK n k := ⟨_, rfl⟩
   rw [← hm] at hr hs ⊢
   rw [Int.tmod_eq_emod_of_nonneg hr.1] at hs
   have HS := Lib.hid hs
   have d0 : ¬ ((k : Int) < (k : Int)) := by omega
   clear hm hs hlt hk
   go_wp2
   go_ret
   rw [HS.out]
   exact ⟨rfl, rfl⟩
end
end Go.Proofs.YtgdkomgfalkihaaGreatDoor

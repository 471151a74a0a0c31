/- The references' When, CheckRange, First; the law's first. -/
import Derived.Test.YtpmngcffkhbofaaGreatDoorVbN
namespace Go.Proofs.YtpmngcffkhbofaaGreatDoor
section
set_option linter.unusedSimpArgs false
set_option linter.unusedVariables false
open Go.RowKit
set_option maxHeartbeats 400000 in
theorem WhenR_any (c : Bool) (e : Int) (w : World) :
 Calls Tryz.prog 116 #[.bool c, .int .i64 e] w fun r w' => r = .returned (.int .i64 (whenE c e)) ∧ w = w' := by
 cases c
 ·go_enter Tryz.func116, Tryz.ntmps116
  go_wp2
  go_ret
  exact ⟨rfl, rfl⟩
 ·go_enter Tryz.func116, Tryz.ntmps116
  go_wp2
  go_ret
  exact ⟨rfl, rfl⟩
set_option maxHeartbeats 400000 in
theorem CheckRange_any (n lo hi : Int) (w : World) :
 Calls Tryz.prog 52 #[.int .i64 n, .int .i64 lo, .int .i64 hi] w fun r w' => r = .returned (.int .i64 (withinE n lo hi)) ∧ w = w' := by
 by_cases h1 : n < lo
 ·go_enter Tryz.func52, Tryz.ntmps52
  go_wp2_with fail
  refine (WhenR_any _ _ _).mono ?_
  rintro e w' ⟨rfl, rfl⟩
  go_wp2
  go_ret
  exact ⟨by simp [whenE, withinE, h1], rfl⟩
 ·by_cases h2 : hi < n
  all_goals
   go_enter Tryz.func52, Tryz.ntmps52
   go_wp2_with fail
   refine (WhenR_any _ _ _).mono ?_
   rintro e w' ⟨rfl, rfl⟩
   go_wp2
   go_ret
   exact ⟨by simp [whenE, withinE, h1, h2], rfl⟩
set_option maxHeartbeats 400000 in
theorem FirstR_any (v : Value) (l : List Int) (w : World) (hl : l.length ≤ 1000000000) (hv : Ints w v l) :
 Calls Tryz.prog 51 #[v] w fun r w' => r = .returned (.int .i64 (firstE l)) ∧ w = w' := by
 obtain ⟨a, cap, rfl, hc, hv⟩ := hv
 rcases Nat.eq_zero_or_pos l.length with h0 | h0
 ·obtain rfl : l = [] := List.length_eq_zero_iff.1 h0
  go_enter Tryz.func51, Tryz.ntmps51
  go_wp2
  go_loop [3] (fun i => i = .int .i64 0) (fun _ => 0)
  case atStart => rfl
  case round =>
   obtain rfl := hrel
   go_wp2
   go_ret
   exact ⟨rfl, rfl⟩
 ·obtain ⟨b, off, rfl, hcs⟩ := hv h0
  clear hv
  go_enter Tryz.func51, Tryz.ntmps51
  go_wp2
  go_loop [3] (fun i => ∃ k : Nat, k ≤ l.length ∧ i = .int .i64 k ∧ firstE (l.take k) = 0) (fun i => l.length - (intOf i).toNat)
  case atStart => exact ⟨0, by omega, rfl, rfl⟩
  case round =>
   obtain ⟨k, hk, rfl, hf⟩ := hrel
   by_cases hlt : k < l.length
   ·have hcell := hcs k hlt
    have hs := firstE_take_succ l k hlt hf
    clear hcs
    generalize l[k]?.getD 0 = x at hcell hs
    have HS := Lib.hid hs
    clear hs hf
    by_cases hz : x = 0
    ·subst hz
     go_wp2
     go_round
     case rel => exact ⟨k + 1, by omega, by go_num, HS.out⟩
     case measure => simp [intOf]; omega
    ·go_wp2
     go_ret
     exact ⟨ret_int (by rw [firstE_of_take l (k+1) (by rw [HS.out]; exact hz), HS.out]), rfl⟩
   ·have HF := Lib.hid hf
    clear hf
    go_wp2
    go_ret
    have h := HF.out
    rw [List.take_of_length_le (by omega)] at h
    exact ⟨ret_int h.symm, rfl⟩
theorem CheckTickR_any (n : Int) (w : World) : Calls Tryz.prog 117 #[.int .i64 n] w fun r w' => r = .returned (.int .i64 (withinE n 0 100000)) ∧ w = w' := by
 go_enter Tryz.func117, Tryz.ntmps117
 go_wp2_with fail
 refine (CheckRange_any n 0 100000 w).mono ?_
 rintro e w2 ⟨rfl, rfl⟩
 go_wp2
 go_ret
 exact ⟨rfl, rfl⟩
theorem CheckSetR_any (n : Int) (w : World) : Calls Tryz.prog 118 #[.int .i64 n] w fun r w' => r = .returned (.int .i64 (withinE n 0 4095)) ∧ w = w' := by
 go_enter Tryz.func118, Tryz.ntmps118
 go_wp2_with fail
 refine (CheckRange_any n 0 4095 w).mono ?_
 rintro e w2 ⟨rfl, rfl⟩
 go_wp2
 go_ret
 exact ⟨rfl, rfl⟩
end
section
set_option linter.unusedSimpArgs false
set_option linter.unusedVariables false
open Go.RowKit
end
end Go.Proofs.YtpmngcffkhbofaaGreatDoor

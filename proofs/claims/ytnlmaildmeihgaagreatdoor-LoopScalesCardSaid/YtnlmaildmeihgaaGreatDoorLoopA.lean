import Derived.Test.YtnlmaildmeihgaaGreatDoorLib
import Derived.Test.YtnlmaildmeihgaaGreatDoorProg
import Derived.Deep.QuietTactic
import Derived.BigQuiet
namespace Go.Proofs.YtnlmaildmeihgaaGreatDoor
open Go.RowKit

def whenE (c : Bool) (e : Int) : Int := if c then e else 0

set_option maxHeartbeats 400000 in
theorem when_any (c : Bool) (e : Int) (w : World) :
    Calls Tryz.prog 107 #[.bool c, .int .i64 e] w fun r w' => r = .returned (.int .i64 (whenE c e)) ∧ w = w' := by
  cases c
  · go_enter Tryz.func107, Tryz.ntmps107
    go_wp2
    go_ret
    exact ⟨rfl, rfl⟩
  · go_enter Tryz.func107, Tryz.ntmps107
    go_wp2
    go_ret
    exact ⟨rfl, rfl⟩

def withinE (n lo hi : Int) : Int := if n < lo ∨ hi < n then 3 else 0

set_option maxHeartbeats 400000 in
theorem within_any (n lo hi : Int) (w : World) :
    Calls Tryz.prog 99 #[.int .i64 n, .int .i64 lo, .int .i64 hi] w fun r w' => r = .returned (.int .i64 (withinE n lo hi)) ∧ w = w' := by
  by_cases h1 : n < lo
  · go_enter Tryz.func99, Tryz.ntmps99
    go_wp2_with fail
    refine (when_any _ _ _).mono ?_
    rintro e w' ⟨rfl, rfl⟩
    go_wp2_with fail
    go_ret
    exact ⟨by simp [whenE, withinE, h1], rfl⟩
  · by_cases h2 : hi < n
    all_goals
      go_enter Tryz.func99, Tryz.ntmps99
      go_wp2_with fail
      refine (when_any _ _ _).mono ?_
      rintro e w' ⟨rfl, rfl⟩
      go_wp2_with fail
      go_ret
      exact ⟨by simp [whenE, withinE, h1, h2], rfl⟩

set_option maxHeartbeats 400000 in
theorem checkCoefficient_any (n : Int) (w : World) :
    Calls Tryz.prog 123 #[.int .i64 n] w fun r w' => r = .returned (.int .i64 (withinE n (-100) 100)) ∧ w = w' := by
  go_enter Tryz.func123, Tryz.ntmps123
  go_wp2_with fail
  refine (within_any _ _ _ _).mono ?_
  rintro e w' ⟨rfl, rfl⟩
  go_wp2_with fail
  go_ret
  exact ⟨rfl, rfl⟩

theorem firstE_take_succ (l : List Int) (k : Nat) (hk : k < l.length) (h : firstE (l.take k) = 0) : firstE (l.take (k + 1)) = l[k]?.getD 0 := by
  induction l generalizing k with
  | nil => simp at hk
  | cons x l ih =>
    cases k with
    | zero => simp [firstE]; intro h; exact h.symm
    | succ k =>
      simp only [List.take_succ_cons, firstE] at h ⊢
      split at h
      · rename_i hx; simp only [hx, if_true]; simpa using ih k (by simpa using hk) h
      · exact absurd h (by assumption)

theorem firstE_of_take (l : List Int) (k : Nat) (h : firstE (l.take k) ≠ 0) : firstE l = firstE (l.take k) := by
  induction l generalizing k with
  | nil => simp
  | cons x l ih =>
    cases k with
    | zero => simp [firstE] at h
    | succ k =>
      simp only [List.take_succ_cons, firstE] at h ⊢
      split at h
      · rename_i hx; simp only [hx, if_true] ; exact ih k h
      · rename_i hx; simp [hx]

set_option maxHeartbeats 400000 in
theorem first_any (v : Value) (l : List Int) (w : World) (hl : l.length ≤ maxLen) (hv : Ints w v l) :
    Calls Tryz.prog 90 #[v] w fun r w' => r = .returned (.int .i64 (firstE l)) ∧ w = w' := by
  unfold maxLen at hl
  obtain ⟨a, cap, rfl, hc, hv⟩ := hv
  rcases Nat.eq_zero_or_pos l.length with h0 | h0
  · obtain rfl : l = [] := List.length_eq_zero_iff.1 h0
    go_enter Tryz.func90, Tryz.ntmps90
    go_wp2
    go_loop [7] (fun i => i = .int .i64 0) (fun _ => 0)
    case atStart => rfl
    case round =>
      obtain rfl := hrel
      go_wp2
      go_ret
      exact ⟨rfl, rfl⟩
  · obtain ⟨b, off, rfl, hcs⟩ := hv h0
    clear hv
    go_enter Tryz.func90, Tryz.ntmps90
    go_wp2
    go_loop [7] (fun i => ∃ k : Nat, k ≤ l.length ∧ i = .int .i64 k ∧ firstE (l.take k) = 0) (fun i => l.length - (intOf i).toNat)
    case atStart => exact ⟨0, by omega, rfl, rfl⟩
    case round =>
      obtain ⟨k, hk, rfl, hf⟩ := hrel
      by_cases hlt : k < l.length
      · have hcell := hcs k hlt
        have hs := firstE_take_succ l k hlt hf
        clear hcs
        generalize l[k]?.getD 0 = x at hcell hs
        have HS := Lib.hid hs
        clear hs hf
        by_cases hz : x = 0
        · go_wp2
          go_round
          case rel => exact ⟨k + 1, by omega, by go_num, by rw [HS.out]; exact hz⟩
          case measure => simp [intOf]; omega
        · go_wp2
          go_ret
          exact ⟨ret_int (by rw [firstE_of_take l (k+1) (by rw [HS.out]; exact hz), HS.out]), rfl⟩
      · have HF := Lib.hid hf
        clear hf
        go_wp2
        go_ret
        have h := HF.out
        rw [List.take_of_length_le (by omega)] at h
        exact ⟨ret_int h.symm, rfl⟩

theorem first2 (a b : Int) (T : TypeId) (w : World) :
    Calls Tryz.prog 90 #[.slice (some ⟨w.heap.size, 0, none⟩) 2 2] (w.alloc (.cells #[.int .i64 a, .int .i64 b] T)) fun r w' => r = .returned (.int .i64 (firstE [a, b])) ∧ w.alloc (.cells #[.int .i64 a, .int .i64 b] T) = w' :=
  first_any _ [a, b] _ (by simp [maxLen]) (Ints.lit w T [a, b] 2 rfl)

theorem first3 (a b c : Int) (T : TypeId) (w : World) :
    Calls Tryz.prog 90 #[.slice (some ⟨w.heap.size, 0, none⟩) 3 3] (w.alloc (.cells #[.int .i64 a, .int .i64 b, .int .i64 c] T)) fun r w' => r = .returned (.int .i64 (firstE [a, b, c])) ∧ w.alloc (.cells #[.int .i64 a, .int .i64 b, .int .i64 c] T) = w' :=
  first_any _ [a, b, c] _ (by simp [maxLen]) (Ints.lit w T [a, b, c] 3 rfl)

theorem first4 (a b c d : Int) (T : TypeId) (w : World) :
    Calls Tryz.prog 90 #[.slice (some ⟨w.heap.size, 0, none⟩) 4 4] (w.alloc (.cells #[.int .i64 a, .int .i64 b, .int .i64 c, .int .i64 d] T)) fun r w' => r = .returned (.int .i64 (firstE [a, b, c, d])) ∧ w.alloc (.cells #[.int .i64 a, .int .i64 b, .int .i64 c, .int .i64 d] T) = w' :=
  first_any _ [a, b, c, d] _ (by simp [maxLen]) (Ints.lit w T [a, b, c, d] 4 rfl)

end Go.Proofs.YtnlmaildmeihgaaGreatDoor

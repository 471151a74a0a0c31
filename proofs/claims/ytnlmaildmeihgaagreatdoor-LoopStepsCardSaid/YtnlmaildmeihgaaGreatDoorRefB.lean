/- The reference's checks (seat .ZD; the same walks as XRefA). -/
import Derived.Test.YtnlmaildmeihgaaGreatDoorHead
namespace Go.Proofs.YtnlmaildmeihgaaGreatDoor
open Go.RowKit

set_option maxHeartbeats 400000 in
theorem WhenR_any (c : Bool) (e : Int) (w : World) :
    Calls Tryz.prog 122 #[.bool c, .int .i64 e] w fun r w' => r = .returned (.int .i64 (whenE c e)) ∧ w = w' := by
  cases c
  · go_enter Tryz.func122, Tryz.ntmps122
    go_wp2
    go_ret
    exact ⟨rfl, rfl⟩
  · go_enter Tryz.func122, Tryz.ntmps122
    go_wp2
    go_ret
    exact ⟨rfl, rfl⟩

set_option maxHeartbeats 400000 in
theorem CheckRange_any (n lo hi : Int) (w : World) :
    Calls Tryz.prog 68 #[.int .i64 n, .int .i64 lo, .int .i64 hi] w fun r w' => r = .returned (.int .i64 (withinE n lo hi)) ∧ w = w' := by
  by_cases h1 : n < lo
  · go_enter Tryz.func68, Tryz.ntmps68
    go_wp2_with fail
    refine (WhenR_any _ _ _).mono ?_
    rintro e w' ⟨rfl, rfl⟩
    go_wp2
    go_ret
    exact ⟨by simp [whenE, withinE, h1], rfl⟩
  · by_cases h2 : hi < n
    all_goals
      go_enter Tryz.func68, Tryz.ntmps68
      go_wp2_with fail
      refine (WhenR_any _ _ _).mono ?_
      rintro e w' ⟨rfl, rfl⟩
      go_wp2
      go_ret
      exact ⟨by simp [whenE, withinE, h1, h2], rfl⟩

theorem firstE_map_take (f : Int → Int) (l : List Int) (k : Nat) (h : firstE ((l.take k).map f) ≠ 0) : firstE (l.map f) = firstE ((l.take k).map f) := by
  rw [List.map_take] at h ⊢
  exact firstE_of_take _ _ h
theorem firstE_map_succ (f : Int → Int) (l : List Int) (k : Nat) (x : Int) (hk : l[k]? = some x) (h : firstE ((l.take k).map f) = 0) : firstE ((l.take (k + 1)).map f) = f x := by
  rw [List.map_take] at h ⊢
  rw [firstE_take_succ _ k (by simp; exact (List.getElem?_eq_some_iff.1 hk).1) h, List.getElem?_map, hk]
  rfl

set_option maxHeartbeats 400000 in
theorem checkNumbersR_any (v : Value) (l : List Int) (lo hi : Int) (w : World) (hv : Ints w v l) (hl : l.length ≤ 1000000000) :
    Calls Tryz.prog 114 #[v, .int .i64 lo, .int .i64 hi] w fun r w' => r = .returned (.int .i64 (firstE (l.map fun x => withinE x lo hi))) ∧ w = w' := by
  obtain ⟨a, cap, rfl, hc, hv⟩ := hv
  rcases Nat.eq_zero_or_pos l.length with h0 | h0
  · obtain rfl : l = [] := List.length_eq_zero_iff.1 h0
    go_enter Tryz.func114, Tryz.ntmps114
    go_wp2
    go_loop [7] (fun i => i = .int .i64 0) (fun _ => 0)
    case atStart => rfl
    case round =>
      obtain rfl := hrel
      go_wp2
      go_ret
      exact ⟨rfl, rfl⟩
  · obtain ⟨b, off, rfl, hcs⟩ := hv h0
    clear hv
    go_enter Tryz.func114, Tryz.ntmps114
    go_wp2
    go_loop [7] (fun i => ∃ k : Nat, k ≤ l.length ∧ i = .int .i64 k ∧ firstE ((l.take k).map fun x => withinE x lo hi) = 0) (fun i => l.length - (intOf i).toNat)
    case atStart => exact ⟨0, by omega, rfl, rfl⟩
    case round =>
      obtain ⟨k, hk, rfl, hf⟩ := hrel
      have HF := Lib.hid hf
      clear hf
      by_cases hlt : k < l.length
      · have hcell := hcs k hlt
        clear hcs
        generalize hx : l[k]?.getD 0 = x at hcell
        have HX := Lib.hid (getElem?_of_getD hlt hx)
        clear hx
        by_cases hz : withinE x lo hi = 0
        · have hr := CheckRange_any x lo hi w
          rw [hz] at hr
          have HZ := Lib.hid hz
          clear hz
          go_wp2_with fail
          refine hr.mono ?_
          rintro e w2 ⟨rfl, rfl⟩
          clear hr
          go_wp2
          go_round
          case rel => exact ⟨k + 1, by omega, by go_num, by rw [firstE_map_succ _ _ _ _ HX.out HF.out]; exact HZ.out⟩
          case measure => simp [intOf]; omega
        · have hr := CheckRange_any x lo hi w
          go_wp2_with fail
          refine hr.mono ?_
          rintro e w2 ⟨rfl, rfl⟩
          clear hr
          go_wp2
          go_ret
          have hs := firstE_map_succ (fun x => withinE x lo hi) _ _ _ HX.out HF.out
          exact ⟨ret_int (by rw [firstE_map_take _ l (k + 1) (by rw [hs]; exact hz), hs]), rfl⟩
      · obtain rfl : k = l.length := by omega
        go_wp2
        go_ret
        exact ⟨ret_int (by have := HF.out; rw [List.take_length] at this; rw [this]), rfl⟩

set_option maxHeartbeats 400000 in
theorem CheckPolyR_any (v : Value) (l : List Int) (w : World) (hv : Ints w v l) (hl : l.length ≤ 1000000000) :
    Calls Tryz.prog 60 #[v] w fun r w' => r = .returned (.int .i64 (checkPolyE l)) ∧ w = w' := by
  have tn := checkNumbersR_any v l (-100) 100 w hv hl
  have TN := Lib.hid tn
  clear tn
  obtain ⟨a, cap, rfl, hc, hv⟩ := hv
  by_cases h0 : l.length = 0
  · clear hv
    go_enter Tryz.func60, Tryz.ntmps60
    go_wp2
    go_ret
    exact ⟨ret_int (by rw [checkPolyE, if_pos h0]), rfl⟩
  · have b0 : ((l.length : Int) == 0) = false := by rw [beq_eq_false_iff_ne]; omega
    by_cases h5 : 5 < l.length
    · clear hv
      go_enter Tryz.func60, Tryz.ntmps60
      go_wp2
      go_ret
      exact ⟨ret_int (by rw [checkPolyE, if_neg h0, if_pos h5]), rfl⟩
    · obtain ⟨b, off, rfl, hcs⟩ := hv (by omega)
      have hcell := hcs (l.length - 1) (by omega)
      clear hcs hv
      have hR : checkPolyE l = firstE [firstE (l.map coefE), whenE (l[l.length - 1]?.getD 0 == 0) 6] := by rw [checkPolyE, if_neg h0, if_neg h5]
      generalize l[l.length - 1]?.getD 0 = x at hcell hR
      have HR := Lib.hid hR
      clear hR
      have hm : (l.map fun x => withinE x (-100) 100) = l.map coefE := rfl
      rw [hm] at TN
      clear hm
      generalize hy : firstE (l.map coefE) = y at TN HR
      clear hy
      by_cases hy0 : y = 0
      · subst hy0
        by_cases hx0 : x = 0
        · subst hx0
          go_enter Tryz.func60, Tryz.ntmps60
          go_wp2_with fail
          refine (TN.out).mono ?_
          rintro e w' ⟨rfl, rfl⟩
          go_wp2
          go_ret
          exact ⟨ret_int (by rw [HR.out]; simp [firstE, whenE]), rfl⟩
        · have bx : (x == 0) = false := by rw [beq_eq_false_iff_ne]; exact hx0
          go_enter Tryz.func60, Tryz.ntmps60
          go_wp2_with fail
          refine (TN.out).mono ?_
          rintro e w' ⟨rfl, rfl⟩
          go_wp2
          go_ret
          exact ⟨ret_int (by rw [HR.out]; simp [firstE, whenE, hx0]), rfl⟩
      · go_enter Tryz.func60, Tryz.ntmps60
        go_wp2_with fail
        refine (TN.out).mono ?_
        rintro e w' ⟨rfl, rfl⟩
        go_wp2
        go_ret
        exact ⟨ret_int (by rw [HR.out]; simp [firstE, hy0]), rfl⟩

set_option maxHeartbeats 400000 in
theorem Quarters_any (w : World) :
    Calls Tryz.prog 33 #[] w fun r w' => r = .returned (.slice (some ⟨w.heap.size, 0, none⟩) 4 4) ∧ w.alloc (.cells #[.int .i64 1, .int .i64 0, .int .i64 0, .int .i64 1, .int .i64 (-1), .int .i64 0, .int .i64 0, .int .i64 (-1)] 59) = w' := by
  go_enter Tryz.func33, Tryz.ntmps33
  go_wp2
  go_ret
  exact ⟨rfl, rfl⟩

end Go.Proofs.YtnlmaildmeihgaaGreatDoor

import Derived.Test.YtnlmaildmeihgaaGreatDoorLoopC
namespace Go.Proofs.YtnlmaildmeihgaaGreatDoor
open Go.RowKit

def powW (a : Int) : Nat → Int
  | 0 => 1
  | k + 1 => wrap64 (powW a k * a)

set_option maxHeartbeats 400000 in
theorem power_any (a : Int) (n : Nat) (w : World) (hn : n ≤ 1000000) :
    Calls Tryz.prog 113 #[.int .i64 a, .int .i64 n] w fun r w' => r = .returned (.int .i64 (powW a n)) ∧ w = w' := by
  go_enter Tryz.func113, Tryz.ntmps113
  go_wp2
  go_loop [5, 7] (fun o i => ∃ k : Nat, k ≤ n ∧ i = .int .i64 k ∧ o = .int .i64 (powW a k)) (fun _ i => n - (intOf i).toNat)
  case atStart => exact ⟨0, by omega, rfl, rfl⟩
  case round =>
    obtain ⟨k, hk, rfl, rfl⟩ := hrel
    by_cases hlt : k < n
    · have hN : wrap64 (powW a k * a) = powW a (k + 1) := rfl
      have HN := Lib.hid hN
      clear hN
      go_wp2
      go_round
      case rel => exact ⟨k + 1, by omega, by go_num, by rw [HN.out]⟩
      case measure => simp [intOf]; omega
    · obtain rfl : k = n := by omega
      go_wp2
      go_ret
      exact ⟨rfl, rfl⟩

set_option maxHeartbeats 400000 in
theorem degree_any (a : Option Addr) (n cp : Nat) (w : World) (hn : n ≤ 1000000) :
    Calls Tryz.prog 108 #[.slice a n cp] w fun r w' => r = .returned (.int .i64 ((n : Int) - 1)) ∧ w = w' := by
  go_enter Tryz.func108, Tryz.ntmps108
  go_wp2
  go_ret
  exact ⟨rfl, rfl⟩

def largeB (x : Int) : Bool := coefE x != 0

set_option maxHeartbeats 400000 in
theorem isLarge1_any (x : Int) (w : World) :
    Calls Tryz.prog 146 #[.int .i64 x] w fun r w' => r = .returned (.bool (largeB x)) ∧ w = w' := by
  go_enter Tryz.func146, Tryz.ntmps146
  go_wp2_with fail
  refine (checkCoefficient_any _ _).mono ?_
  rintro e w' ⟨rfl, rfl⟩
  go_wp2
  go_ret
  exact ⟨rfl, rfl⟩

theorem Tryz.enterIsLarge1 (args : Array Value) (w : World) : Sem.run Tryz.prog (callFunc 146 args) w = .ok (.enter 146 args) w :=
  MuLone.run_callFunc_enter Tryz.func146 (by kernel_rfl) rfl args w

def findI (g : Int → Bool) (l : List Int) : Int := match l.findIdx? g with | some i => (i : Int) | none => -1

theorem findI_none {g : Int → Bool} {l : List Int} (h : l.any g = false) : findI g l = -1 := by
  have : l.findIdx? g = none := by
    rw [List.findIdx?_eq_none_iff]; intro x hx; exact (List.any_eq_false.1 h) x hx |> Bool.eq_false_iff.2
  simp [findI, this]

theorem findI_some {g : Int → Bool} {l : List Int} {k : Nat} {x : Int} (hk : l[k]? = some x) (h : (l.take k).any g = false) (hx : g x = true) : findI g l = k := by
  have : l.findIdx? g = some k := by
    rw [List.findIdx?_eq_some_iff_getElem]
    obtain ⟨hlt, he⟩ := List.getElem?_eq_some_iff.1 hk
    refine ⟨hlt, by rw [he]; exact hx, fun j hj => ?_⟩
    have := List.any_eq_false.1 h (l[j]'(by omega)) (by rw [List.mem_take_iff_getElem]; exact ⟨j, by omega, rfl⟩)
    simpa using this
  simp [findI, this]

theorem findI_ge (g : Int → Bool) (l : List Int) : decide (0 ≤ findI g l) = l.any g := by
  unfold findI
  cases h : l.findIdx? g with
  | none =>
    have : l.any g = false := by
      rw [List.findIdx?_eq_none_iff] at h
      rw [List.any_eq_false]; intro x hx; rw [h x hx]; simp
    simp [this]
  | some i =>
    rw [List.findIdx?_eq_some_iff_getElem] at h
    obtain ⟨hlt, hg, _⟩ := h
    have : l.any g = true := List.any_eq_true.2 ⟨_, List.getElem_mem hlt, hg⟩
    simp [this]

theorem any_take_succ {g : Int → Bool} {l : List Int} {k : Nat} {x : Int} (hk : l[k]? = some x) (h : (l.take k).any g = false) (hx : g x = false) : (l.take (k + 1)).any g = false := by
  rw [List.take_add_one, hk, List.any_append, h]; simp [hx]

set_option maxHeartbeats 400000 in
theorem IndexFuncP_any (K : Nat) (cap : Array Value) (henter : ∀ args w, Sem.run Tryz.prog (callFunc K args) w = .ok (.enter K args) w) (g : Int → Bool) (v : Value) (l : List Int) (w : World) (hl : l.length ≤ 1000000000) (hv : Ints w v l)
    (hf : ∀ x ∈ l, Calls Tryz.prog K (#[.int .i64 x] ++ cap) w fun r w2 => r = .returned (.bool (g x)) ∧ w = w2) :
    Calls Tryz.prog 171 #[v, .func (.func K) #[] cap] w fun r w' => r = .returned (.int .i64 (findI g l)) ∧ w = w' := by
  obtain ⟨a, cp, rfl, hc, hv⟩ := hv
  rcases Nat.eq_zero_or_pos l.length with h0 | h0
  · obtain rfl : l = [] := List.length_eq_zero_iff.1 h0
    go_enter Tryz.func171, Tryz.ntmps171
    go_wp2
    go_loop [8] (fun i => i = .int .i64 0) (fun _ => 0)
    case atStart => rfl
    case round =>
      obtain rfl := hrel
      go_wp2
      go_ret
      exact ⟨rfl, rfl⟩
  · obtain ⟨b, off, rfl, hcs⟩ := hv h0
    clear hv
    go_enter Tryz.func171, Tryz.ntmps171
    go_wp2
    go_loop [8] (fun i => ∃ k : Nat, k ≤ l.length ∧ i = .int .i64 k ∧ (l.take k).any g = false) (fun i => l.length - (intOf i).toNat)
    case atStart => exact ⟨0, by omega, rfl, rfl⟩
    case round =>
      obtain ⟨k, hk, rfl, hf0⟩ := hrel
      have HF := Lib.hid hf0
      clear hf0
      by_cases hlt : k < l.length
      · have hcell := hcs k hlt
        clear hcs
        generalize hx : l[k]?.getD 0 = x at hcell
        have HX := Lib.hid (getElem?_of_getD hlt hx)
        clear hx
        have hmem : x ∈ l := List.mem_of_getElem? HX.out
        by_cases hg : g x = true
        · go_wp2_with fail
          refine (hf x hmem).mono ?_
          rintro e w2 ⟨rfl, rfl⟩
          go_wp2
          go_ret
          exact ⟨ret_int (findI_some HX.out HF.out hg).symm, rfl⟩
        · have hg' : g x = false := by simpa using hg
          clear hg
          go_wp2_with fail
          refine (hf x hmem).mono ?_
          rintro e w2 ⟨rfl, rfl⟩
          go_wp2
          go_round
          case rel => exact ⟨k + 1, by omega, by go_num, any_take_succ HX.out HF.out hg'⟩
          case measure => simp [intOf]; omega
      · obtain rfl : k = l.length := by omega
        go_wp2
        go_ret
        exact ⟨ret_int (findI_none (by have := HF.out; rwa [List.take_length] at this)).symm, rfl⟩

set_option maxHeartbeats 400000 in
theorem ContainsFuncP_any (K : Nat) (cap : Array Value) (henter : ∀ args w, Sem.run Tryz.prog (callFunc K args) w = .ok (.enter K args) w) (g : Int → Bool) (v : Value) (l : List Int) (w : World) (hl : l.length ≤ 1000000000) (hv : Ints w v l)
    (hf : ∀ x ∈ l, Calls Tryz.prog K (#[.int .i64 x] ++ cap) w fun r w2 => r = .returned (.bool (g x)) ∧ w = w2) :
    Calls Tryz.prog 145 #[v, .func (.func K) #[] cap] w fun r w' => r = .returned (.bool (l.any g)) ∧ w = w' := by
  have hge := findI_ge g l
  have HG := Lib.hid hge
  clear hge
  go_enter Tryz.func145, Tryz.ntmps145
  go_wp2_with fail
  refine (IndexFuncP_any K cap henter g v l w hl hv hf).mono ?_
  rintro e w' ⟨rfl, rfl⟩
  go_wp2
  go_ret
  exact ⟨ret_bool HG.out, rfl⟩

set_option maxHeartbeats 400000 in
theorem isLarge_any (v : Value) (l : List Int) (w : World) (hl : l.length ≤ 1000000000) (hv : Ints w v l) :
    Calls Tryz.prog 103 #[v] w fun r w' => r = .returned (.bool (l.any largeB)) ∧ w = w' := by
  go_enter Tryz.func103, Tryz.ntmps103
  go_wp2_with fail
  refine (ContainsFuncP_any 146 #[] Tryz.enterIsLarge1 largeB v l w hl hv (fun x _ => isLarge1_any x w)).mono ?_
  rintro e w' ⟨rfl, rfl⟩
  go_wp2
  go_ret
  exact ⟨rfl, rfl⟩

set_option maxHeartbeats 400000 in
theorem fitting_any (v : Value) (l : List Int) (w : World) (hl : l.length ≤ 1000000000) (hv : Ints w v l) :
    Calls Tryz.prog 93 #[v] w fun r w' => r = .returned (.tuple #[if l.any largeB then .slice none 0 0 else v, .int .i64 (if l.any largeB then 4 else 0)]) ∧ w = w' := by
  by_cases hg : l.any largeB = true
  · go_enter Tryz.func93, Tryz.ntmps93
    go_wp2_with fail
    refine (isLarge_any v l w hl hv).mono ?_
    rintro e w' ⟨rfl, rfl⟩
    go_wp2
    go_ret2
    exact ⟨by simp, rfl⟩
  · go_enter Tryz.func93, Tryz.ntmps93
    go_wp2_with fail
    refine (isLarge_any v l w hl hv).mono ?_
    rintro e w' ⟨rfl, rfl⟩
    go_wp2
    go_ret2
    exact ⟨by simp, rfl⟩

end Go.Proofs.YtnlmaildmeihgaaGreatDoor

import Derived.Test.YtipmjjnhdjcoiaaLib
import Derived.Test.YtipmjjnhdjcoiaaProg
import Derived.Deep.QuietTactic
import Derived.BigQuiet
import Derived.Conc.MuLone
import Derived.Deep.RegionHeld3
namespace Go.Proofs.Ytipmjjnhdjcoiaa
open Go.RowKit

set_option maxHeartbeats 400000 in
theorem when_any (c : Bool) (e : Int) (w : World) :
    Calls Try.prog 51 #[.bool c, .int .i64 e] w fun r w' => r = .returned (.int .i64 (whenE c e)) ∧ w = w' := by
  cases c
  · go_enter Try.func51, Try.ntmps51
    go_wp2
    go_ret
    exact ⟨rfl, rfl⟩
  · go_enter Try.func51, Try.ntmps51
    go_wp2
    go_ret
    exact ⟨rfl, rfl⟩

set_option maxHeartbeats 400000 in
theorem within_any (n lo hi : Int) (w : World) :
    Calls Try.prog 53 #[.int .i64 n, .int .i64 lo, .int .i64 hi] w fun r w' => r = .returned (.int .i64 (withinE n lo hi)) ∧ w = w' := by
  by_cases h1 : n < lo
  · go_enter Try.func53, Try.ntmps53
    go_wp2_with fail
    refine (when_any _ _ _).mono ?_
    rintro e w' ⟨rfl, rfl⟩
    go_wp2_with fail
    go_ret
    exact ⟨by simp [whenE, withinE, h1], rfl⟩
  · by_cases h2 : hi < n
    all_goals
      go_enter Try.func53, Try.ntmps53
      go_wp2_with fail
      refine (when_any _ _ _).mono ?_
      rintro e w' ⟨rfl, rfl⟩
      go_wp2_with fail
      go_ret
      exact ⟨by simp [whenE, withinE, h1, h2], rfl⟩

set_option maxHeartbeats 400000 in
theorem checkCoefficient_any (n : Int) (w : World) :
    Calls Try.prog 70 #[.int .i64 n] w fun r w' => r = .returned (.int .i64 (withinE n (-100) 100)) ∧ w = w' := by
  go_enter Try.func70, Try.ntmps70
  go_wp2_with fail
  refine (within_any _ _ _ _).mono ?_
  rintro e w' ⟨rfl, rfl⟩
  go_wp2_with fail
  go_ret
  exact ⟨rfl, rfl⟩

set_option maxHeartbeats 400000 in
theorem first_any (v : Value) (l : List Int) (w : World) (hl : l.length ≤ maxLen) (hv : Ints w v l) :
    Calls Try.prog 50 #[v] w fun r w' => r = .returned (.int .i64 (firstE l)) ∧ w = w' := by
  unfold maxLen at hl
  obtain ⟨a, cap, rfl, hc, hv⟩ := hv
  rcases Nat.eq_zero_or_pos l.length with h0 | h0
  · obtain rfl : l = [] := List.length_eq_zero_iff.1 h0
    go_enter Try.func50, Try.ntmps50
    go_wp2
    go_loop [7] (fun i => i = .int .i64 0) (fun _ => 0)
    case atStart => rfl
    case round =>
      obtain rfl := hrel
      go_wp2
      go_ret
      exact ⟨rfl, rfl⟩
  · obtain ⟨b, off, rfl, hcs⟩ := hv h0
    clear hv
    go_enter Try.func50, Try.ntmps50
    go_wp2
    go_loop [7] (fun i => ∃ k : Nat, k ≤ l.length ∧ i = .int .i64 k ∧ firstE (l.take k) = 0) (fun i => l.length - (intOf i).toNat)
    case atStart => exact ⟨0, by omega, rfl, rfl⟩
    case round =>
      obtain ⟨k, hk, rfl, hf⟩ := hrel
      by_cases hlt : k < l.length
      · have hcell := hcs k hlt
        have hs := firstE_take_succ l k hlt hf
        clear hcs
        generalize l[k]?.getD 0 = x at hcell hs
        have HS := Lib.hid hs
        clear hs hf
        by_cases hz : x = 0
        · go_wp2
          go_round
          case rel => exact ⟨k + 1, by omega, by go_num, by rw [HS.out]; exact hz⟩
          case measure => simp [intOf]; omega
        · go_wp2
          go_ret
          exact ⟨ret_int (by rw [firstE_of_take l (k+1) (by rw [HS.out]; exact hz), HS.out]), rfl⟩
      · have HF := Lib.hid hf
        clear hf
        go_wp2
        go_ret
        have h := HF.out
        rw [List.take_of_length_le (by omega)] at h
        exact ⟨ret_int h.symm, rfl⟩

theorem first2 (a b : Int) (T : TypeId) (w : World) :
    Calls Try.prog 50 #[.slice (some ⟨w.heap.size, 0, none⟩) 2 2] (w.alloc (.cells #[.int .i64 a, .int .i64 b] T)) fun r w' => r = .returned (.int .i64 (firstE [a, b])) ∧ w.alloc (.cells #[.int .i64 a, .int .i64 b] T) = w' :=
  first_any _ [a, b] _ (by simp [maxLen]) (Ints.lit w T [a, b] 2 rfl)

theorem first3 (a b c : Int) (T : TypeId) (w : World) :
    Calls Try.prog 50 #[.slice (some ⟨w.heap.size, 0, none⟩) 3 3] (w.alloc (.cells #[.int .i64 a, .int .i64 b, .int .i64 c] T)) fun r w' => r = .returned (.int .i64 (firstE [a, b, c])) ∧ w.alloc (.cells #[.int .i64 a, .int .i64 b, .int .i64 c] T) = w' :=
  first_any _ [a, b, c] _ (by simp [maxLen]) (Ints.lit w T [a, b, c] 3 rfl)

theorem first4 (a b c d : Int) (T : TypeId) (w : World) :
    Calls Try.prog 50 #[.slice (some ⟨w.heap.size, 0, none⟩) 4 4] (w.alloc (.cells #[.int .i64 a, .int .i64 b, .int .i64 c, .int .i64 d] T)) fun r w' => r = .returned (.int .i64 (firstE [a, b, c, d])) ∧ w.alloc (.cells #[.int .i64 a, .int .i64 b, .int .i64 c, .int .i64 d] T) = w' :=
  first_any _ [a, b, c, d] _ (by simp [maxLen]) (Ints.lit w T [a, b, c, d] 4 rfl)

set_option maxHeartbeats 400000 in
theorem mappedE_any (K : Nat) (cap : Array Value) (henter : ∀ args w, Sem.run Try.prog (callFunc K args) w = .ok (.enter K args) w) (g : Int → Int) (v : Value) (l : List Int) (w : World) (hl : l.length * 8 ≤ 140737488351232) (hv : Ints w v l)
    (hf : ∀ x ∈ l, ∀ w1, Below w.heap.size w w1 → Calls Try.prog K (#[.int .i64 x] ++ cap) w1 fun r w2 => r = .returned (.int .i64 (g x)) ∧ w1 = w2) :
    Calls Try.prog 69 #[v, .func (.func K) #[] cap] w fun r w' => (∃ u, r = .returned u ∧ Ints w' u (l.map g)) ∧ Below w.heap.size w w' := by
  obtain ⟨a, cp, rfl, hc, hv⟩ := hv
  rcases Nat.eq_zero_or_pos l.length with h0 | h0
  · obtain rfl : l = [] := List.length_eq_zero_iff.1 h0
    go_enter Try.func69, Try.ntmps69
    go_wp2
    go_loop [5, 10] (fun v i => v = .slice none 0 0 ∧ i = .int .i64 0) (fun _ _ => 0)
    case atStart => exact ⟨rfl, rfl⟩
    case round =>
      obtain ⟨rfl, rfl⟩ := hrel
      go_wp2
      go_ret
      exact ⟨⟨_, rfl, Ints.nil _⟩, Below.refl _ _⟩
  · obtain ⟨b, off, rfl, hcs⟩ := hv h0
    clear hv
    obtain ⟨i0, hi, hz0, hz1, hz2⟩ := info_parts Try.infoErrno
    go_enter Try.func69, Try.ntmps69
    go_wp2
    go_loopw [5, 10] (fun v i wr => ∃ k : Nat, k ≤ l.length ∧ i = .int .i64 k ∧ wr.ownsRow w.heap.size 36 1 v k ((l.take k).map fun x => Value.int .i64 (g x)) ∧ Below w.heap.size w wr) (fun _ i _ => l.length - (intOf i).toNat)
    case atStart => exact ⟨0, by omega, rfl, World.ownsRow_nil _ _ _ _, Below.refl _ _⟩
    case round =>
      obtain ⟨k, hk, rfl, hown, hbel⟩ := hrel
      by_cases hlt : k < l.length
      · have hcell := hcs k hlt
        have hcell2 : wr.cell? ⟨b, off + k, none⟩ = some (.int .i64 (l[k]?.getD 0)) := (hbel.cell (p := ⟨b, off + k, none⟩) (lt_of_cellSome hcell)).trans hcell
        clear hcs hcell
        generalize hx : l[k]?.getD 0 = x at hcell2
        have HX := Lib.hid hx
        clear hx
        go_wp2_with fail
        refine (hf x (by rw [← HX.out]; simp [hlt]) wr hbel).mono ?_
        rintro e w2 ⟨rfl, rfl⟩
        go_wp2_with (at_builtin; refine wpList_append_own _ rfl _ _ 82 rfl w.heap.size 36 i0 (.int .i64 0) 1 8 Try.underlying82 hi hz0 hz1 hz2 rfl (by decide) _ _ _ rfl (hown.alloc _) ⟨wr.heap.size, 0, none⟩ 1 1 [.int .i64 (g x)] rfl rfl (cell_one_new _ _ _) (by simp [Value.oneCell']) (by unfold maxLen; omega) (by omega) (by have := hbel.size; simp; omega) ?_; intro v' w1 hown' hgrow _)
        have hbel' := below_own hbel hown hgrow
        have hown2 : w1.ownsRow w.heap.size 36 1 v' (k + 1) ((l.take (k + 1)).map fun x => Value.int .i64 (g x)) := by
          rw [take_succ_map _ _ _ x (getElem?_of_getD hlt HX.out)]; exact hown'
        clear hown hbel hown' hgrow
        go_wp2
        go_roundw
        case rel => exact ⟨k + 1, by omega, by go_num, hown2, hbel'⟩
        case measure => simp [intOf]; omega
      · obtain rfl : k = l.length := by omega
        have hout : Ints wr u5 (l.map g) := Ints.of_own (n := l.length) (by rw [List.take_length] at hown; rw [List.map_map]; exact hown) (by simp)
        clear hown
        go_wp2
        go_ret
        exact ⟨⟨_, rfl, hout⟩, hbel⟩

theorem Try.enterCheckCoefficient (args : Array Value) (w : World) : Sem.run Try.prog (callFunc 70 args) w = .ok (.enter 70 args) w :=
  MuLone.run_callFunc_enter Try.func70 (by kernel_rfl) rfl args w

set_option maxHeartbeats 400000 in
theorem CheckPoly_any (v : Value) (l : List Int) (w : World) (hl : l.length * 8 ≤ 140737488351232) (hv : Ints w v l) :
    Calls Try.prog 48 #[v] w fun r w' => r = .returned (.int .i64 (checkPolyE l)) ∧ Below w.heap.size w w' := by
  have hv0 := hv
  obtain ⟨a, cp, rfl, hc, hv⟩ := hv
  by_cases h0 : l.length = 0
  · clear hv hv0
    go_enter Try.func48, Try.ntmps48
    go_wp2_with fail
    refine (when_any _ _ _).mono ?_
    rintro e w' ⟨rfl, rfl⟩
    go_wp2_with fail
    refine (when_any _ _ _).mono ?_
    rintro e w' ⟨rfl, rfl⟩
    go_wp2_with fail
    refine (first2 _ _ _ _).mono ?_
    rintro e w' ⟨rfl, rfl⟩
    go_wp2
    go_ret
    exact ⟨ret_int (by simp [checkPolyE, h0, whenE, firstE]), (Below.refl _ _).alloc (Nat.le_refl _) _⟩
  · have b0 : ((l.length : Int) == 0) = false := by rw [beq_eq_false_iff_ne]; omega
    by_cases h5 : 5 < l.length
    · clear hv hv0
      have b5 : decide ((5 : Int) < (l.length : Int)) = true := by simp; omega
      go_enter Try.func48, Try.ntmps48
      go_wp2_with fail
      refine (when_any _ _ _).mono ?_
      rintro e w' ⟨rfl, rfl⟩
      go_wp2_with fail
      refine (when_any _ _ _).mono ?_
      rintro e w' ⟨rfl, rfl⟩
      go_wp2_with fail
      refine (first2 _ _ _ _).mono ?_
      rintro e w' ⟨rfl, rfl⟩
      go_wp2
      go_ret
      exact ⟨ret_int (by simp [checkPolyE, h0, h5, whenE, firstE]), (Below.refl _ _).alloc (Nat.le_refl _) _⟩
    · obtain ⟨b, off, rfl, hcs⟩ := hv (by omega)
      have b5 : decide ((5 : Int) < (l.length : Int)) = false := by simp; omega
      have hcell := hcs (l.length - 1) (by omega)
      clear hcs hv
      generalize hx : l[l.length - 1]?.getD 0 = x at hcell
      have HX := Lib.hid hx
      clear hx
      go_enter Try.func48, Try.ntmps48
      go_wp2_with fail
      refine (when_any _ _ _).mono ?_
      rintro e w' ⟨rfl, rfl⟩
      go_wp2_with fail
      refine (when_any _ _ _).mono ?_
      rintro e w' ⟨rfl, rfl⟩
      go_wp2_with fail
      refine (first2 _ _ _ _).mono ?_
      rintro e w' ⟨rfl, rfl⟩
      go_wp2_with fail
      have hbw : b < w.heap.size := lt_of_cellSome hcell
      have hv1 := hv0.alloc (.cells #[Value.int IntKind.i64 (whenE false 12), Value.int IntKind.i64 (whenE false 5)] 36)
      have hb1 : Below w.heap.size w (w.alloc (.cells #[Value.int IntKind.i64 (whenE false 12), Value.int IntKind.i64 (whenE false 5)] 36)) := (Below.refl _ _).alloc (Nat.le_refl _) _
      have hcell1 := (hb1.cell (p := ⟨b, off + (l.length - 1), none⟩) hbw).trans hcell
      obtain ⟨W, hW⟩ : ∃ W, W = w.alloc (.cells #[Value.int IntKind.i64 (whenE false 12), Value.int IntKind.i64 (whenE false 5)] 36) := ⟨_, rfl⟩
      rw [← hW] at hv1 hb1 hcell1 ⊢
      clear hW
      have e1 : IntKind.i64.wrap ((l.length : Int) - 1) = (l.length : Int) - 1 := IntWalk.i64_in _ (by omega)
      have e2 : (0 : Int) ≤ (l.length : Int) - 1 := by omega
      have e3 : ((l.length : Int) - 1).toNat = l.length - 1 := by omega
      have e4 : (l.length : Int) - 1 < (l.length : Int) := by omega
      have e5 : (1 : Int) ≤ (l.length : Int) := by omega
      have e6 : 1 ≤ l.length := by omega
      have e7 : 0 < l.length := by omega
      have hmap : Calls Try.prog 69 #[.slice (some ⟨b, off, none⟩) l.length cp, .func (.func 70) #[] #[]] W.drew (fun r w' => (∃ u, r = .returned u ∧ Ints w' u (l.map coefE)) ∧ Below W.heap.size W w') := mappedE_any 70 #[] Try.enterCheckCoefficient coefE _ l _ hl hv1.drew (fun x _ w1 _ => checkCoefficient_any x w1) |>.mono fun _ _ h => ⟨h.1, (Below.refl _ _).drew.trans h.2⟩
      go_region_held3 (fun w' => w'.cell? ⟨b, off + (l.length - 1), none⟩ = some (.int .i64 x)) (go_keep)
        (first | (go_at_call 69; (with_reducible refine hmap.mono ?_); rintro e w2 ⟨⟨u, rfl, hu⟩, hb2⟩; have hcell2 := (hb2.cell (p := ⟨b, off + (l.length - 1), none⟩) (lt_of_cellSome hcell1)).trans hcell1) | (go_at_call 51; (with_reducible refine (when_any _ _ _).mono ?_); rintro e w' ⟨rfl, rfl⟩) | (go_at_call 50; (with_reducible refine (first_any _ _ _ ?_ hu).mono ?_); (simp; unfold maxLen; omega); rintro e w' ⟨rfl, rfl⟩) | (go_at_call 50; (with_reducible refine (first2 _ _ _ _).mono ?_); rintro e w' ⟨rfl, rfl⟩))
      go_wp2
      go_ret
      exact ⟨ret_int (by rw [checkPolyE, if_neg h0, if_neg h5, HX.out]), (hb1.trans (hb2.mono hb1.size)).alloc (Nat.le_trans hb1.size hb2.size) _⟩

set_option maxHeartbeats 400000 in
theorem power_any (a : Int) (n : Nat) (w : World) (hn : n ≤ 1000000) :
    Calls Try.prog 54 #[.int .i64 a, .int .i64 n] w fun r w' => r = .returned (.int .i64 (powW a n)) ∧ w = w' := by
  go_enter Try.func54, Try.ntmps54
  go_wp2
  go_loop [5, 7] (fun o i => ∃ k : Nat, k ≤ n ∧ i = .int .i64 k ∧ o = .int .i64 (powW a k)) (fun _ i => n - (intOf i).toNat)
  case atStart => exact ⟨0, by omega, rfl, rfl⟩
  case round =>
    obtain ⟨k, hk, rfl, rfl⟩ := hrel
    by_cases hlt : k < n
    · have hN : wrap64 (powW a k * a) = powW a (k + 1) := rfl
      have HN := Lib.hid hN
      clear hN
      go_wp2
      go_round
      case rel => exact ⟨k + 1, by omega, by go_num, by rw [HN.out]⟩
      case measure => simp [intOf]; omega
    · obtain rfl : k = n := by omega
      go_wp2
      go_ret
      exact ⟨rfl, rfl⟩

set_option maxHeartbeats 400000 in
theorem degree_any (a : Option Addr) (n cp : Nat) (w : World) (hn : n ≤ 1000000) :
    Calls Try.prog 49 #[.slice a n cp] w fun r w' => r = .returned (.int .i64 ((n : Int) - 1)) ∧ w = w' := by
  go_enter Try.func49, Try.ntmps49
  go_wp2
  go_ret
  exact ⟨rfl, rfl⟩

end Go.Proofs.Ytipmjjnhdjcoiaa

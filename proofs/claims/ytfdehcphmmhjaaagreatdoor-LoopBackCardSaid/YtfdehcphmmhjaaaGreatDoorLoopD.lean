import Derived.Test.YtfdehcphmmhjaaaGreatDoorLib
import Derived.Test.YtfdehcphmmhjaaaGreatDoorProg
import Derived.Deep.QuietTactic
import Derived.BigQuiet
import Derived.Conc.MuLone
import Derived.Deep.RegionHeld3
namespace Go.Proofs.YtfdehcphmmhjaaaGreatDoor
open Go.RowKit

def whenE (c : Bool) (e : Int) : Int := if c then e else 0

set_option maxHeartbeats 400000 in
theorem when_any (c : Bool) (e : Int) (w : World) :
    Calls Tryz.prog 46 #[.bool c, .int .i64 e] w fun r w' => r = .returned (.int .i64 (whenE c e)) ∧ w = w' := by
  cases c
  · go_enter Tryz.func46, Tryz.ntmps46
    go_wp2
    go_ret
    exact ⟨rfl, rfl⟩
  · go_enter Tryz.func46, Tryz.ntmps46
    go_wp2
    go_ret
    exact ⟨rfl, rfl⟩

def withinE (n lo hi : Int) : Int := if n < lo ∨ hi < n then 3 else 0

set_option maxHeartbeats 400000 in
theorem within_any (n lo hi : Int) (w : World) :
    Calls Tryz.prog 57 #[.int .i64 n, .int .i64 lo, .int .i64 hi] w fun r w' => r = .returned (.int .i64 (withinE n lo hi)) ∧ w = w' := by
  by_cases h1 : n < lo
  · go_enter Tryz.func57, Tryz.ntmps57
    go_wp2_with fail
    refine (when_any _ _ _).mono ?_
    rintro e w' ⟨rfl, rfl⟩
    go_wp2_with fail
    go_ret
    exact ⟨by simp [whenE, withinE, h1], rfl⟩
  · by_cases h2 : hi < n
    all_goals
      go_enter Tryz.func57, Tryz.ntmps57
      go_wp2_with fail
      refine (when_any _ _ _).mono ?_
      rintro e w' ⟨rfl, rfl⟩
      go_wp2_with fail
      go_ret
      exact ⟨by simp [whenE, withinE, h1, h2], rfl⟩

set_option maxHeartbeats 400000 in
theorem checkCoefficient_any (n : Int) (w : World) :
    Calls Tryz.prog 94 #[.int .i64 n] w fun r w' => r = .returned (.int .i64 (withinE n (-100) 100)) ∧ w = w' := by
  go_enter Tryz.func94, Tryz.ntmps94
  go_wp2_with fail
  refine (within_any _ _ _ _).mono ?_
  rintro e w' ⟨rfl, rfl⟩
  go_wp2_with fail
  go_ret
  exact ⟨rfl, rfl⟩

theorem firstE_take_succ (l : List Int) (k : Nat) (hk : k < l.length) (h : firstE (l.take k) = 0) : firstE (l.take (k + 1)) = l[k]?.getD 0 := by
  induction l generalizing k with
  | nil => simp at hk
  | cons x l ih =>
    cases k with
    | zero => simp [firstE]; intro h; exact h.symm
    | succ k =>
      simp only [List.take_succ_cons, firstE] at h ⊢
      split at h
      · rename_i hx; simp only [hx, if_true]; simpa using ih k (by simpa using hk) h
      · exact absurd h (by assumption)

theorem firstE_of_take (l : List Int) (k : Nat) (h : firstE (l.take k) ≠ 0) : firstE l = firstE (l.take k) := by
  induction l generalizing k with
  | nil => simp
  | cons x l ih =>
    cases k with
    | zero => simp [firstE] at h
    | succ k =>
      simp only [List.take_succ_cons, firstE] at h ⊢
      split at h
      · rename_i hx; simp only [hx, if_true] ; exact ih k h
      · rename_i hx; simp [hx]

set_option maxHeartbeats 400000 in
theorem first_any (v : Value) (l : List Int) (w : World) (hl : l.length ≤ maxLen) (hv : Ints w v l) :
    Calls Tryz.prog 45 #[v] w fun r w' => r = .returned (.int .i64 (firstE l)) ∧ w = w' := by
  unfold maxLen at hl
  obtain ⟨a, cap, rfl, hc, hv⟩ := hv
  rcases Nat.eq_zero_or_pos l.length with h0 | h0
  · obtain rfl : l = [] := List.length_eq_zero_iff.1 h0
    go_enter Tryz.func45, Tryz.ntmps45
    go_wp2
    go_loop [7] (fun i => i = .int .i64 0) (fun _ => 0)
    case atStart => rfl
    case round =>
      obtain rfl := hrel
      go_wp2
      go_ret
      exact ⟨rfl, rfl⟩
  · obtain ⟨b, off, rfl, hcs⟩ := hv h0
    clear hv
    go_enter Tryz.func45, Tryz.ntmps45
    go_wp2
    go_loop [7] (fun i => ∃ k : Nat, k ≤ l.length ∧ i = .int .i64 k ∧ firstE (l.take k) = 0) (fun i => l.length - (intOf i).toNat)
    case atStart => exact ⟨0, by omega, rfl, rfl⟩
    case round =>
      obtain ⟨k, hk, rfl, hf⟩ := hrel
      by_cases hlt : k < l.length
      · have hcell := hcs k hlt
        have hs := firstE_take_succ l k hlt hf
        clear hcs
        generalize l[k]?.getD 0 = x at hcell hs
        have HS := Lib.hid hs
        clear hs hf
        by_cases hz : x = 0
        · go_wp2
          go_round
          case rel => exact ⟨k + 1, by omega, by go_num, by rw [HS.out]; exact hz⟩
          case measure => simp [intOf]; omega
        · go_wp2
          go_ret
          exact ⟨ret_int (by rw [firstE_of_take l (k+1) (by rw [HS.out]; exact hz), HS.out]), rfl⟩
      · have HF := Lib.hid hf
        clear hf
        go_wp2
        go_ret
        have h := HF.out
        rw [List.take_of_length_le (by omega)] at h
        exact ⟨ret_int h.symm, rfl⟩

theorem first2 (a b : Int) (T : TypeId) (w : World) :
    Calls Tryz.prog 45 #[.slice (some ⟨w.heap.size, 0, none⟩) 2 2] (w.alloc (.cells #[.int .i64 a, .int .i64 b] T)) fun r w' => r = .returned (.int .i64 (firstE [a, b])) ∧ w.alloc (.cells #[.int .i64 a, .int .i64 b] T) = w' :=
  first_any _ [a, b] _ (by simp [maxLen]) (Ints.lit w T [a, b] 2 rfl)

theorem first3 (a b c : Int) (T : TypeId) (w : World) :
    Calls Tryz.prog 45 #[.slice (some ⟨w.heap.size, 0, none⟩) 3 3] (w.alloc (.cells #[.int .i64 a, .int .i64 b, .int .i64 c] T)) fun r w' => r = .returned (.int .i64 (firstE [a, b, c])) ∧ w.alloc (.cells #[.int .i64 a, .int .i64 b, .int .i64 c] T) = w' :=
  first_any _ [a, b, c] _ (by simp [maxLen]) (Ints.lit w T [a, b, c] 3 rfl)

theorem first4 (a b c d : Int) (T : TypeId) (w : World) :
    Calls Tryz.prog 45 #[.slice (some ⟨w.heap.size, 0, none⟩) 4 4] (w.alloc (.cells #[.int .i64 a, .int .i64 b, .int .i64 c, .int .i64 d] T)) fun r w' => r = .returned (.int .i64 (firstE [a, b, c, d])) ∧ w.alloc (.cells #[.int .i64 a, .int .i64 b, .int .i64 c, .int .i64 d] T) = w' :=
  first_any _ [a, b, c, d] _ (by simp [maxLen]) (Ints.lit w T [a, b, c, d] 4 rfl)

theorem Tryz.infoErrno : (Tryz.prog.info? 27).map (fun i => (i.zero, i.size, i.bytes)) = some (some (.int .i64 0), 1, 8) := by kernel_rfl

set_option maxHeartbeats 400000 in
theorem mappedE_any (K : Nat) (cap : Array Value) (henter : ∀ args w, Sem.run Tryz.prog (callFunc K args) w = .ok (.enter K args) w) (g : Int → Int) (v : Value) (l : List Int) (w : World) (hl : l.length * 8 ≤ 140737488351232) (hv : Ints w v l)
    (hf : ∀ x ∈ l, ∀ w1, Below w.heap.size w w1 → Calls Tryz.prog K (#[.int .i64 x] ++ cap) w1 fun r w2 => r = .returned (.int .i64 (g x)) ∧ w1 = w2) :
    Calls Tryz.prog 93 #[v, .func (.func K) #[] cap] w fun r w' => (∃ u, r = .returned u ∧ Ints w' u (l.map g)) ∧ Below w.heap.size w w' := by
  obtain ⟨a, cp, rfl, hc, hv⟩ := hv
  rcases Nat.eq_zero_or_pos l.length with h0 | h0
  · obtain rfl : l = [] := List.length_eq_zero_iff.1 h0
    go_enter Tryz.func93, Tryz.ntmps93
    go_wp2
    go_loop [5, 10] (fun v i => v = .slice none 0 0 ∧ i = .int .i64 0) (fun _ _ => 0)
    case atStart => exact ⟨rfl, rfl⟩
    case round =>
      obtain ⟨rfl, rfl⟩ := hrel
      go_wp2
      go_ret
      exact ⟨⟨_, rfl, Ints.nil _⟩, Below.refl _ _⟩
  · obtain ⟨b, off, rfl, hcs⟩ := hv h0
    clear hv
    obtain ⟨i0, hi, hz0, hz1, hz2⟩ := info_parts Tryz.infoErrno
    go_enter Tryz.func93, Tryz.ntmps93
    go_wp2
    go_loopw [5, 10] (fun v i wr => ∃ k : Nat, k ≤ l.length ∧ i = .int .i64 k ∧ wr.ownsRow w.heap.size 27 1 v k ((l.take k).map fun x => Value.int .i64 (g x)) ∧ Below w.heap.size w wr) (fun _ i _ => l.length - (intOf i).toNat)
    case atStart => exact ⟨0, by omega, rfl, World.ownsRow_nil _ _ _ _, Below.refl _ _⟩
    case round =>
      obtain ⟨k, hk, rfl, hown, hbel⟩ := hrel
      by_cases hlt : k < l.length
      · have hcell := hcs k hlt
        have hcell2 : wr.cell? ⟨b, off + k, none⟩ = some (.int .i64 (l[k]?.getD 0)) := (hbel.cell (p := ⟨b, off + k, none⟩) (lt_of_cellSome hcell)).trans hcell
        clear hcs hcell
        generalize hx : l[k]?.getD 0 = x at hcell2
        have HX := Lib.hid hx
        clear hx
        go_wp2_with fail
        refine (hf x (by rw [← HX.out]; simp [hlt]) wr hbel).mono ?_
        rintro e w2 ⟨rfl, rfl⟩
        go_wp2_with (at_builtin; refine wpList_append_own _ rfl _ _ 155 rfl w.heap.size 27 i0 (.int .i64 0) 1 8 Tryz.underlying155 hi hz0 hz1 hz2 rfl (by decide) _ _ _ rfl (hown.alloc _) ⟨wr.heap.size, 0, none⟩ 1 1 [.int .i64 (g x)] rfl rfl (cell_one_new _ _ _) (by simp [Value.oneCell']) (by unfold maxLen; omega) (by omega) (by have := hbel.size; simp; omega) ?_; intro v' w1 hown' hgrow _)
        have hbel' := below_own hbel hown hgrow
        have hown2 : w1.ownsRow w.heap.size 27 1 v' (k + 1) ((l.take (k + 1)).map fun x => Value.int .i64 (g x)) := by
          rw [take_succ_map _ _ _ x (getElem?_of_getD hlt HX.out)]; exact hown'
        clear hown hbel hown' hgrow
        go_wp2
        go_roundw
        case rel => exact ⟨k + 1, by omega, by go_num, hown2, hbel'⟩
        case measure => simp [intOf]; omega
      · obtain rfl : k = l.length := by omega
        have hout : Ints wr u5 (l.map g) := Ints.of_own (n := l.length) (by rw [List.take_length] at hown; rw [List.map_map]; exact hown) (by simp)
        clear hown
        go_wp2
        go_ret
        exact ⟨⟨_, rfl, hout⟩, hbel⟩

theorem Tryz.enterCheckCoefficient (args : Array Value) (w : World) : Sem.run Tryz.prog (callFunc 94 args) w = .ok (.enter 94 args) w :=
  MuLone.run_callFunc_enter Tryz.func94 (by kernel_rfl) rfl args w

def coefE (x : Int) : Int := withinE x (-100) 100

def checkPolyE (l : List Int) : Int :=
  if l.length = 0 then 12 else if 5 < l.length then 5 else firstE [firstE (l.map coefE), whenE (l[l.length - 1]?.getD 0 == 0) 6]

set_option maxHeartbeats 400000 in
theorem CheckPoly_any (v : Value) (l : List Int) (w : World) (hl : l.length * 8 ≤ 140737488351232) (hv : Ints w v l) :
    Calls Tryz.prog 54 #[v] w fun r w' => r = .returned (.int .i64 (checkPolyE l)) ∧ Below w.heap.size w w' := by
  have hv0 := hv
  obtain ⟨a, cp, rfl, hc, hv⟩ := hv
  by_cases h0 : l.length = 0
  · clear hv hv0
    go_enter Tryz.func54, Tryz.ntmps54
    go_wp2_with fail
    refine (when_any _ _ _).mono ?_
    rintro e w' ⟨rfl, rfl⟩
    go_wp2_with fail
    refine (when_any _ _ _).mono ?_
    rintro e w' ⟨rfl, rfl⟩
    go_wp2_with fail
    refine (first2 _ _ _ _).mono ?_
    rintro e w' ⟨rfl, rfl⟩
    go_wp2
    go_ret
    exact ⟨ret_int (by simp [checkPolyE, h0, whenE, firstE]), (Below.refl _ _).alloc (Nat.le_refl _) _⟩
  · have b0 : ((l.length : Int) == 0) = false := by rw [beq_eq_false_iff_ne]; omega
    by_cases h5 : 5 < l.length
    · clear hv hv0
      have b5 : decide ((5 : Int) < (l.length : Int)) = true := by simp; omega
      go_enter Tryz.func54, Tryz.ntmps54
      go_wp2_with fail
      refine (when_any _ _ _).mono ?_
      rintro e w' ⟨rfl, rfl⟩
      go_wp2_with fail
      refine (when_any _ _ _).mono ?_
      rintro e w' ⟨rfl, rfl⟩
      go_wp2_with fail
      refine (first2 _ _ _ _).mono ?_
      rintro e w' ⟨rfl, rfl⟩
      go_wp2
      go_ret
      exact ⟨ret_int (by simp [checkPolyE, h0, h5, whenE, firstE]), (Below.refl _ _).alloc (Nat.le_refl _) _⟩
    · obtain ⟨b, off, rfl, hcs⟩ := hv (by omega)
      have b5 : decide ((5 : Int) < (l.length : Int)) = false := by simp; omega
      have hcell := hcs (l.length - 1) (by omega)
      clear hcs hv
      generalize hx : l[l.length - 1]?.getD 0 = x at hcell
      have HX := Lib.hid hx
      clear hx
      go_enter Tryz.func54, Tryz.ntmps54
      go_wp2_with fail
      refine (when_any _ _ _).mono ?_
      rintro e w' ⟨rfl, rfl⟩
      go_wp2_with fail
      refine (when_any _ _ _).mono ?_
      rintro e w' ⟨rfl, rfl⟩
      go_wp2_with fail
      refine (first2 _ _ _ _).mono ?_
      rintro e w' ⟨rfl, rfl⟩
      go_wp2_with fail
      have hbw : b < w.heap.size := lt_of_cellSome hcell
      have hv1 := hv0.alloc (.cells #[Value.int IntKind.i64 (whenE false 12), Value.int IntKind.i64 (whenE false 5)] 27)
      have hb1 : Below w.heap.size w (w.alloc (.cells #[Value.int IntKind.i64 (whenE false 12), Value.int IntKind.i64 (whenE false 5)] 27)) := (Below.refl _ _).alloc (Nat.le_refl _) _
      have hcell1 := (hb1.cell (p := ⟨b, off + (l.length - 1), none⟩) hbw).trans hcell
      obtain ⟨W, hW⟩ : ∃ W, W = w.alloc (.cells #[Value.int IntKind.i64 (whenE false 12), Value.int IntKind.i64 (whenE false 5)] 27) := ⟨_, rfl⟩
      rw [← hW] at hv1 hb1 hcell1 ⊢
      clear hW
      have e1 : IntKind.i64.wrap ((l.length : Int) - 1) = (l.length : Int) - 1 := IntWalk.i64_in _ (by omega)
      have e2 : (0 : Int) ≤ (l.length : Int) - 1 := by omega
      have e3 : ((l.length : Int) - 1).toNat = l.length - 1 := by omega
      have e4 : (l.length : Int) - 1 < (l.length : Int) := by omega
      have e5 : (1 : Int) ≤ (l.length : Int) := by omega
      have e6 : 1 ≤ l.length := by omega
      have e7 : 0 < l.length := by omega
      have hmap : Calls Tryz.prog 93 #[.slice (some ⟨b, off, none⟩) l.length cp, .func (.func 94) #[] #[]] W.drew (fun r w' => (∃ u, r = .returned u ∧ Ints w' u (l.map coefE)) ∧ Below W.heap.size W w') := mappedE_any 94 #[] Tryz.enterCheckCoefficient coefE _ l _ hl hv1.drew (fun x _ w1 _ => checkCoefficient_any x w1) |>.mono fun _ _ h => ⟨h.1, (Below.refl _ _).drew.trans h.2⟩
      go_region_held3 (fun w' => w'.cell? ⟨b, off + (l.length - 1), none⟩ = some (.int .i64 x)) (go_keep)
        (first | (go_at_call 93; (with_reducible refine hmap.mono ?_); rintro e w2 ⟨⟨u, rfl, hu⟩, hb2⟩; have hcell2 := (hb2.cell (p := ⟨b, off + (l.length - 1), none⟩) (lt_of_cellSome hcell1)).trans hcell1) | (go_at_call 46; (with_reducible refine (when_any _ _ _).mono ?_); rintro e w' ⟨rfl, rfl⟩) | (go_at_call 45; (with_reducible refine (first_any _ _ _ ?_ hu).mono ?_); (simp; unfold maxLen; omega); rintro e w' ⟨rfl, rfl⟩) | (go_at_call 45; (with_reducible refine (first2 _ _ _ _).mono ?_); rintro e w' ⟨rfl, rfl⟩))
      go_wp2
      go_ret
      exact ⟨ret_int (by rw [checkPolyE, if_neg h0, if_neg h5, HX.out]), (hb1.trans (hb2.mono hb1.size)).alloc (Nat.le_trans hb1.size hb2.size) _⟩

def tInner (q : List Int) (i : Nat) (a : Int) (out : List Int) : Nat → List Int
  | 0 => out
  | k + 1 => (tInner q i a out k).set (i + k) (wrap64 ((tInner q i a out k)[i + k]?.getD 0 + wrap64 (a * q[k]?.getD 0)))
def tOuter (p q : List Int) (out : List Int) : Nat → List Int
  | 0 => out
  | i + 1 => tInner q i (p[i]?.getD 0) (tOuter p q out i) q.length
def timesW (p q : List Int) : List Int := tOuter p q (List.replicate (p.length + q.length - 1) 0) p.length

theorem tInner_length (q : List Int) (i : Nat) (a : Int) (out : List Int) (k : Nat) : (tInner q i a out k).length = out.length := by
  induction k with
  | zero => rfl
  | succ k ih => simp [tInner, ih]
theorem tOuter_length (p q out : List Int) (k : Nat) : (tOuter p q out k).length = out.length := by
  induction k with
  | zero => rfl
  | succ k ih => simp [tOuter, tInner_length, ih]
theorem timesW_length (p q : List Int) : (timesW p q).length = p.length + q.length - 1 := by simp [timesW, tOuter_length]

theorem Tryz.infoInt : (Tryz.prog.info? 3).map (fun i => (i.zero, i.size, i.bytes)) = some (some (.int .i64 0), 1, 8) := by kernel_rfl

set_option maxHeartbeats 1000000 in
theorem times_any (vp vq : Value) (p q : List Int) (w : World) (hp : Ints w vp p) (hq : Ints w vq q) (hp1 : 1 ≤ p.length) (hq1 : 1 ≤ q.length) (hp2 : p.length ≤ 1000000) (hq2 : q.length ≤ 1000000) :
    Calls Tryz.prog 99 #[vp, vq] w fun r w' => r = .returned (.slice (some ⟨w.heap.size, 0, none⟩) (p.length + q.length - 1) (p.length + q.length - 1)) ∧ w.alloc (.cells (ia (timesW p q)) 3) = w' := by
  obtain ⟨ap, cp, rfl, hcp, hp⟩ := hp
  obtain ⟨aq, cq, rfl, hcq, hq⟩ := hq
  obtain ⟨bp, op, rfl, hpc⟩ := hp hp1
  obtain ⟨bq, oq, rfl, hqc⟩ := hq hq1
  clear hp hq
  have hmk := run_make_row' (P := Tryz.prog) 30 3 (.int .i64 0) 8 Tryz.underlying30 Tryz.infoInt rfl .i64 .i64 (p.length + q.length - 1) (by omega) (by omega)
  rw [ia_made] at hmk
  rw [show ((p.length + q.length - 1 : Nat) : Int) = (p.length : Int) + (q.length : Int) - 1 from by omega] at hmk
  go_enter Tryz.func99, Tryz.ntmps99
  go_wp2
  clear hmk
  have hz : (List.replicate (p.length + q.length - 1) (0 : Int)).length = p.length + q.length - 1 := by simp
  generalize hZ : List.replicate (p.length + q.length - 1) (0 : Int) = Z at hz
  have HZ := Lib.hid hZ
  clear hZ
  go_loopw [19] (fun i wr => ∃ k : Nat, k ≤ p.length ∧ i = .int .i64 k ∧ wr = w.alloc (.cells (ia (tOuter p q Z k)) 3)) (fun i _ => p.length - (intOf i).toNat)
  case atStart => exact ⟨0, by omega, rfl, rfl⟩
  case round =>
    obtain ⟨i, hi, rfl, rfl⟩ := hrel
    by_cases hlt : i < p.length
    · have hcell := cell_past (hpc i hlt) (.cells (ia (tOuter p q Z i)) 3)
      have hlen := tOuter_length p q Z i
      generalize ho : tOuter p q Z i = out at hcell hlen
      have HO := Lib.hid ho
      clear ho
      generalize ha : p[i]?.getD 0 = a at hcell
      have HA := Lib.hid ha
      clear ha
      go_wp2
      go_loopw [26] (fun j wr => ∃ k : Nat, k ≤ q.length ∧ j = .int .i64 k ∧ wr = w.alloc (.cells (ia (tInner q i a out k)) 3)) (fun j _ => q.length - (intOf j).toNat)
      case atStart => exact ⟨0, by omega, rfl, rfl⟩
      case round =>
        obtain ⟨k, hk, rfl, rfl⟩ := hrel
        by_cases hlk : k < q.length
        · have hcell2 := cell_past (hqc k hlk) (.cells (ia (tInner q i a out k)) 3)
          have hlen2 := tInner_length q i a out k
          have hnext : ∀ x, x = wrap64 ((tInner q i a out k)[i + k]?.getD 0 + wrap64 (a * q[k]?.getD 0)) → (ia (tInner q i a out k)).setIfInBounds (i + k) (.int .i64 x) = ia (tInner q i a out (k + 1)) := fun x hx => by rw [ia_set, tInner, hx]
          have HN := Lib.hid hnext
          clear hnext
          generalize tInner q i a out k = o2 at hcell2 hlen2 HN
          generalize q[k]?.getD 0 = b at hcell2 HN
          have hoc := ia_cell w 3 o2 (i + k) (by omega)
          have hof := ia_frozen w 3 o2 (i + k)
          generalize o2[i + k]?.getD 0 = c at hoc HN
          clear hcell
          go_wp2
          go_roundw
          case rel => exact ⟨k + 1, by omega, by go_num, by rw [HN.out _ rfl]⟩
          case measure => simp [intOf]; omega
        · obtain rfl : k = q.length := by omega
          have hN : tInner q i a out q.length = tOuter p q Z (i + 1) := by rw [tOuter, HO.out, HA.out]
          have HN := Lib.hid hN
          clear hN hcell
          go_wp2
          go_roundw
          case rel => exact ⟨i + 1, by omega, by go_num, by rw [HN.out]⟩
          case measure => simp [intOf]; omega
    · obtain rfl : i = p.length := by omega
      go_wp2
      go_ret
      exact ⟨rfl, by rw [timesW, HZ.out]⟩

def powW (a : Int) : Nat → Int
  | 0 => 1
  | k + 1 => wrap64 (powW a k * a)

set_option maxHeartbeats 400000 in
theorem power_any (a : Int) (n : Nat) (w : World) (hn : n ≤ 1000000) :
    Calls Tryz.prog 71 #[.int .i64 a, .int .i64 n] w fun r w' => r = .returned (.int .i64 (powW a n)) ∧ w = w' := by
  go_enter Tryz.func71, Tryz.ntmps71
  go_wp2
  go_loop [5, 7] (fun o i => ∃ k : Nat, k ≤ n ∧ i = .int .i64 k ∧ o = .int .i64 (powW a k)) (fun _ i => n - (intOf i).toNat)
  case atStart => exact ⟨0, by omega, rfl, rfl⟩
  case round =>
    obtain ⟨k, hk, rfl, rfl⟩ := hrel
    by_cases hlt : k < n
    · have hN : wrap64 (powW a k * a) = powW a (k + 1) := rfl
      have HN := Lib.hid hN
      clear hN
      go_wp2
      go_round
      case rel => exact ⟨k + 1, by omega, by go_num, by rw [HN.out]⟩
      case measure => simp [intOf]; omega
    · obtain rfl : k = n := by omega
      go_wp2
      go_ret
      exact ⟨rfl, rfl⟩

set_option maxHeartbeats 400000 in
theorem degree_any (a : Option Addr) (n cp : Nat) (w : World) (hn : n ≤ 1000000) :
    Calls Tryz.prog 69 #[.slice a n cp] w fun r w' => r = .returned (.int .i64 ((n : Int) - 1)) ∧ w = w' := by
  go_enter Tryz.func69, Tryz.ntmps69
  go_wp2
  go_ret
  exact ⟨rfl, rfl⟩

def largeB (x : Int) : Bool := coefE x != 0

set_option maxHeartbeats 400000 in
theorem isLarge1_any (x : Int) (w : World) :
    Calls Tryz.prog 102 #[.int .i64 x] w fun r w' => r = .returned (.bool (largeB x)) ∧ w = w' := by
  go_enter Tryz.func102, Tryz.ntmps102
  go_wp2_with fail
  refine (checkCoefficient_any _ _).mono ?_
  rintro e w' ⟨rfl, rfl⟩
  go_wp2
  go_ret
  exact ⟨rfl, rfl⟩

theorem Tryz.enterIsLarge1 (args : Array Value) (w : World) : Sem.run Tryz.prog (callFunc 102 args) w = .ok (.enter 102 args) w :=
  MuLone.run_callFunc_enter Tryz.func102 (by kernel_rfl) rfl args w

def findI (g : Int → Bool) (l : List Int) : Int := match l.findIdx? g with | some i => (i : Int) | none => -1

theorem findI_none {g : Int → Bool} {l : List Int} (h : l.any g = false) : findI g l = -1 := by
  have : l.findIdx? g = none := by
    rw [List.findIdx?_eq_none_iff]; intro x hx; exact (List.any_eq_false.1 h) x hx |> Bool.eq_false_iff.2
  simp [findI, this]

theorem findI_some {g : Int → Bool} {l : List Int} {k : Nat} {x : Int} (hk : l[k]? = some x) (h : (l.take k).any g = false) (hx : g x = true) : findI g l = k := by
  have : l.findIdx? g = some k := by
    rw [List.findIdx?_eq_some_iff_getElem]
    obtain ⟨hlt, he⟩ := List.getElem?_eq_some_iff.1 hk
    refine ⟨hlt, by rw [he]; exact hx, fun j hj => ?_⟩
    have := List.any_eq_false.1 h (l[j]'(by omega)) (by rw [List.mem_take_iff_getElem]; exact ⟨j, by omega, rfl⟩)
    simpa using this
  simp [findI, this]

theorem findI_ge (g : Int → Bool) (l : List Int) : decide (0 ≤ findI g l) = l.any g := by
  unfold findI
  cases h : l.findIdx? g with
  | none =>
    have : l.any g = false := by
      rw [List.findIdx?_eq_none_iff] at h
      rw [List.any_eq_false]; intro x hx; rw [h x hx]; simp
    simp [this]
  | some i =>
    rw [List.findIdx?_eq_some_iff_getElem] at h
    obtain ⟨hlt, hg, _⟩ := h
    have : l.any g = true := List.any_eq_true.2 ⟨_, List.getElem_mem hlt, hg⟩
    simp [this]

theorem any_take_succ {g : Int → Bool} {l : List Int} {k : Nat} {x : Int} (hk : l[k]? = some x) (h : (l.take k).any g = false) (hx : g x = false) : (l.take (k + 1)).any g = false := by
  rw [List.take_add_one, hk, List.any_append, h]; simp [hx]

set_option maxHeartbeats 400000 in
theorem IndexFuncP_any (K : Nat) (cap : Array Value) (henter : ∀ args w, Sem.run Tryz.prog (callFunc K args) w = .ok (.enter K args) w) (g : Int → Bool) (v : Value) (l : List Int) (w : World) (hl : l.length ≤ 1000000000) (hv : Ints w v l)
    (hf : ∀ x ∈ l, Calls Tryz.prog K (#[.int .i64 x] ++ cap) w fun r w2 => r = .returned (.bool (g x)) ∧ w = w2) :
    Calls Tryz.prog 128 #[v, .func (.func K) #[] cap] w fun r w' => r = .returned (.int .i64 (findI g l)) ∧ w = w' := by
  obtain ⟨a, cp, rfl, hc, hv⟩ := hv
  rcases Nat.eq_zero_or_pos l.length with h0 | h0
  · obtain rfl : l = [] := List.length_eq_zero_iff.1 h0
    go_enter Tryz.func128, Tryz.ntmps128
    go_wp2
    go_loop [8] (fun i => i = .int .i64 0) (fun _ => 0)
    case atStart => rfl
    case round =>
      obtain rfl := hrel
      go_wp2
      go_ret
      exact ⟨rfl, rfl⟩
  · obtain ⟨b, off, rfl, hcs⟩ := hv h0
    clear hv
    go_enter Tryz.func128, Tryz.ntmps128
    go_wp2
    go_loop [8] (fun i => ∃ k : Nat, k ≤ l.length ∧ i = .int .i64 k ∧ (l.take k).any g = false) (fun i => l.length - (intOf i).toNat)
    case atStart => exact ⟨0, by omega, rfl, rfl⟩
    case round =>
      obtain ⟨k, hk, rfl, hf0⟩ := hrel
      have HF := Lib.hid hf0
      clear hf0
      by_cases hlt : k < l.length
      · have hcell := hcs k hlt
        clear hcs
        generalize hx : l[k]?.getD 0 = x at hcell
        have HX := Lib.hid (getElem?_of_getD hlt hx)
        clear hx
        have hmem : x ∈ l := List.mem_of_getElem? HX.out
        by_cases hg : g x = true
        · go_wp2_with fail
          refine (hf x hmem).mono ?_
          rintro e w2 ⟨rfl, rfl⟩
          go_wp2
          go_ret
          exact ⟨ret_int (findI_some HX.out HF.out hg).symm, rfl⟩
        · have hg' : g x = false := by simpa using hg
          clear hg
          go_wp2_with fail
          refine (hf x hmem).mono ?_
          rintro e w2 ⟨rfl, rfl⟩
          go_wp2
          go_round
          case rel => exact ⟨k + 1, by omega, by go_num, any_take_succ HX.out HF.out hg'⟩
          case measure => simp [intOf]; omega
      · obtain rfl : k = l.length := by omega
        go_wp2
        go_ret
        exact ⟨ret_int (findI_none (by have := HF.out; rwa [List.take_length] at this)).symm, rfl⟩

set_option maxHeartbeats 400000 in
theorem ContainsFuncP_any (K : Nat) (cap : Array Value) (henter : ∀ args w, Sem.run Tryz.prog (callFunc K args) w = .ok (.enter K args) w) (g : Int → Bool) (v : Value) (l : List Int) (w : World) (hl : l.length ≤ 1000000000) (hv : Ints w v l)
    (hf : ∀ x ∈ l, Calls Tryz.prog K (#[.int .i64 x] ++ cap) w fun r w2 => r = .returned (.bool (g x)) ∧ w = w2) :
    Calls Tryz.prog 101 #[v, .func (.func K) #[] cap] w fun r w' => r = .returned (.bool (l.any g)) ∧ w = w' := by
  have hge := findI_ge g l
  have HG := Lib.hid hge
  clear hge
  go_enter Tryz.func101, Tryz.ntmps101
  go_wp2_with fail
  refine (IndexFuncP_any K cap henter g v l w hl hv hf).mono ?_
  rintro e w' ⟨rfl, rfl⟩
  go_wp2
  go_ret
  exact ⟨ret_bool HG.out, rfl⟩

set_option maxHeartbeats 400000 in
theorem isLarge_any (v : Value) (l : List Int) (w : World) (hl : l.length ≤ 1000000000) (hv : Ints w v l) :
    Calls Tryz.prog 63 #[v] w fun r w' => r = .returned (.bool (l.any largeB)) ∧ w = w' := by
  go_enter Tryz.func63, Tryz.ntmps63
  go_wp2_with fail
  refine (ContainsFuncP_any 102 #[] Tryz.enterIsLarge1 largeB v l w hl hv (fun x _ => isLarge1_any x w)).mono ?_
  rintro e w' ⟨rfl, rfl⟩
  go_wp2
  go_ret
  exact ⟨rfl, rfl⟩

set_option maxHeartbeats 400000 in
theorem fitting_any (v : Value) (l : List Int) (w : World) (hl : l.length ≤ 1000000000) (hv : Ints w v l) :
    Calls Tryz.prog 68 #[v] w fun r w' => r = .returned (.tuple #[if l.any largeB then .slice none 0 0 else v, .int .i64 (if l.any largeB then 4 else 0)]) ∧ w = w' := by
  by_cases hg : l.any largeB = true
  · go_enter Tryz.func68, Tryz.ntmps68
    go_wp2_with fail
    refine (isLarge_any v l w hl hv).mono ?_
    rintro e w' ⟨rfl, rfl⟩
    go_wp2
    go_ret2
    exact ⟨by simp, rfl⟩
  · go_enter Tryz.func68, Tryz.ntmps68
    go_wp2_with fail
    refine (isLarge_any v l w hl hv).mono ?_
    rintro e w' ⟨rfl, rfl⟩
    go_wp2
    go_ret2
    exact ⟨by simp, rfl⟩

end Go.Proofs.YtfdehcphmmhjaaaGreatDoor

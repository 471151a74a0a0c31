/- Package phasor: when, within, first, mapped. (printed by gen/valBD.py) -/
import Derived.Test.YtgpdalgfbfboaaaGreatDoorVbC
namespace Go.Proofs.YtgpdalgfbfboaaaGreatDoor
set_option linter.unusedSimpArgs false
set_option linter.unusedVariables false
open Go.RowKit
theorem rw6 {α : Type} {n : Nat} {f : α → List Value} {w : World} {b off : Nat} {j : Nat} {x : α} (h : ∀ (i : Nat) (u : Value), (f x)[i]? = some u → w.cell? ⟨b, off + j * n + i, none⟩ = some u) {u0 u1 u2 u3 u4 u5 : Value} (hx : f x = [u0, u1, u2, u3, u4, u5]) : w.cell? ⟨b, off + j * n, none⟩ = some u0 ∧ w.cell? ⟨b, off + j * n + 1, none⟩ = some u1 ∧ w.cell? ⟨b, off + j * n + 2, none⟩ = some u2 ∧ w.cell? ⟨b, off + j * n + 3, none⟩ = some u3 ∧ w.cell? ⟨b, off + j * n + 4, none⟩ = some u4 ∧ w.cell? ⟨b, off + j * n + 5, none⟩ = some u5 :=
 ⟨h 0 u0 (by rw [hx]; rfl), h 1 u1 (by rw [hx]; rfl), h 2 u2 (by rw [hx]; rfl), h 3 u3 (by rw [hx]; rfl), h 4 u4 (by rw [hx]; rfl), h 5 u5 (by rw [hx]; rfl)⟩
set_option maxHeartbeats 400000 in
theorem whenP_any (c : Bool) (e : Int) (w : World) :
 Calls Tryz.prog 163 #[.bool c, .int .i64 e] w fun r w' => r = .returned (.int .i64 (whenE c e)) ∧ w = w' := by
 cases c
 ·go_enter Tryz.func163, Tryz.ntmps163
  go_wp2
  go_ret
  exact ⟨rfl, rfl⟩
 ·go_enter Tryz.func163, Tryz.ntmps163
  go_wp2
  go_ret
  exact ⟨rfl, rfl⟩
set_option maxHeartbeats 400000 in
theorem withinP_any (n lo hi : Int) (w : World) :
 Calls Tryz.prog 184 #[.int .i64 n, .int .i64 lo, .int .i64 hi] w fun r w' => r = .returned (.int .i64 (withinE n lo hi)) ∧ w = w' := by
 by_cases h1 : n < lo
 ·go_enter Tryz.func184, Tryz.ntmps184
  go_wp2_with fail
  refine (whenP_any _ _ _).mono ?_
  rintro e w' ⟨rfl, rfl⟩
  go_wp2_with fail
  go_ret
  exact ⟨by simp [whenE, withinE, h1], rfl⟩
 ·by_cases h2 : hi < n
  all_goals
   go_enter Tryz.func184, Tryz.ntmps184
   go_wp2_with fail
   refine (whenP_any _ _ _).mono ?_
   rintro e w' ⟨rfl, rfl⟩
   go_wp2_with fail
   go_ret
   exact ⟨by simp [whenE, withinE, h1, h2], rfl⟩
set_option maxHeartbeats 400000 in
theorem firstP_any (v : Value) (l : List Int) (w : World) (hl : l.length ≤ maxLen) (hv : Ints w v l) :
 Calls Tryz.prog 155 #[v] w fun r w' => r = .returned (.int .i64 (firstE l)) ∧ w = w' := by
 unfold maxLen at hl
 obtain ⟨a, cap, rfl, hc, hv⟩ := hv
 rcases Nat.eq_zero_or_pos l.length with h0 | h0
 ·obtain rfl : l = [] := List.length_eq_zero_iff.1 h0
  go_enter Tryz.func155, Tryz.ntmps155
  go_wp2
  go_loop [7] (fun i => i = .int .i64 0) (fun _ => 0)
  case atStart => rfl
  case round =>
   obtain rfl := hrel
   go_wp2
   go_ret
   exact ⟨rfl, rfl⟩
 ·obtain ⟨b, off, rfl, hcs⟩ := hv h0
  clear hv
  go_enter Tryz.func155, Tryz.ntmps155
  go_wp2
  go_loop [7] (fun i => ∃ k : Nat, k ≤ l.length ∧ i = .int .i64 k ∧ firstE (l.take k) = 0) (fun i => l.length - (intOf i).toNat)
  case atStart => exact ⟨0, by omega, rfl, rfl⟩
  case round =>
   obtain ⟨k, hk, rfl, hf⟩ := hrel
   by_cases hlt : k < l.length
   ·have hcell := hcs k hlt
    have hs := firstE_take_succ l k hlt hf
    clear hcs
    generalize l[k]?.getD 0 = x at hcell hs
    have HS := Lib.hid hs
    clear hs hf
    by_cases hz : x = 0
    ·go_wp2
     go_round
     case rel => exact ⟨k + 1, by omega, by go_num, by rw [HS.out]; exact hz⟩
     case measure => simp [intOf]; omega
    ·go_wp2
     go_ret
     exact ⟨ret_int (by rw [firstE_of_take l (k+1) (by rw [HS.out]; exact hz), HS.out]), rfl⟩
   ·have HF := Lib.hid hf
    clear hf
    go_wp2
    go_ret
    have h := HF.out
    rw [List.take_of_length_le (by omega)] at h
    exact ⟨ret_int h.symm, rfl⟩
theorem Tryz.infZapiErrno : (Tryz.prog.info? 27).map (fun i => (i.zero, i.size, i.bytes)) = some (some (.int .i64 0), 1, 8) := by kernel_rfl
theorem Tryz.undZapiErrno : Tryz.prog.underlying 137 = some (.slice 27) := by kernel_rfl
set_option maxRecDepth 100000 in
set_option maxHeartbeats 2000000 in
theorem mapIEp_any (K : Nat) (cap : Array Value) (henter : ∀ args w, Sem.run Tryz.prog (callFunc K args) w = .ok (.enter K args) w) (g : Int → Int) (v : Value) (l : List Int) (w : World) (hl : l.length ≤ 1000000) (hv : Rw 1 nV w v l)
 (hf : ∀ x ∈ l, ∀ w1, Below w.heap.size w w1 → Calls Tryz.prog K (#[.int .i64 x] ++ cap) w1 fun r w2 => r = .returned (.int .i64 (g x)) ∧ Below w1.heap.size w1 w2) :
 Calls Tryz.prog 185 #[v, .func (.func K) #[] cap] w fun r w' => (∃ u, r = .returned u ∧ OwR w' w.heap.size 27 1 nV u (l.map g)) ∧ Below w.heap.size w w' := by
 rcases Nat.eq_zero_or_pos l.length with h0 | h0
 ·obtain rfl : l = [] := List.length_eq_zero_iff.1 h0
  obtain ⟨a, cp, rfl, _, _⟩ := hv
  go_enter Tryz.func185, Tryz.ntmps185
  go_wp2
  go_loop [5, 10] (fun v i => v = .slice none 0 0 ∧ i = .int .i64 0) (fun _ _ => 0)
  case atStart => exact ⟨rfl, rfl⟩
  case round =>
   obtain ⟨rfl, rfl⟩ := hrel
   go_wp2
   go_ret
   exact ⟨⟨_, rfl, World.ownsRow_nil _ _ _ _⟩, Below.refl _ _⟩
 ·obtain ⟨b, off, cp, rfl, hcs⟩ := hv.head h0
  clear hv
  obtain ⟨i0, hi, hz0, hz1, hz2⟩ := info_parts Tryz.infZapiErrno
  go_enter Tryz.func185, Tryz.ntmps185
  go_wp2
  go_loopw [5, 10] (fun v i wr => ∃ k : Nat, k ≤ l.length ∧ i = .int .i64 k ∧ wr.ownsRow w.heap.size 27 1 v k (((l.take k).map g).flatMap nV) ∧ Below w.heap.size w wr) (fun _ i _ => l.length - (intOf i).toNat)
  case atStart => exact ⟨0, by omega, rfl, World.ownsRow_nil _ _ _ _, Below.refl _ _⟩
  case round =>
   obtain ⟨k, hk, rfl, hown, hbel⟩ := hrel
   by_cases hlt : k < l.length
   ·obtain ⟨x, hx⟩ : ∃ x, l[k]? = some x := ⟨_, List.getElem?_eq_getElem hlt⟩
    have c0 := rw1 (hcs k x hx) (show nV x = [.int .i64 x] from rfl)
    have c0 := cellb c0 hbel
    have hts := flatMap_take_succ nV g l k x hx
    have hts : ((l.take (k + 1)).map g).flatMap nV = ((l.take k).map g).flatMap nV ++ [.int .i64 (g x)] := hts
    have TF := Lib.hid (fun W hE => hf x (List.mem_of_getElem? hx) W hE)
    obtain ⟨y0, hy0⟩ : ∃ y, y = (g x) := ⟨_, rfl⟩
    rw [← hy0] at TF hts
    have HTS := Lib.hid hts
    clear hcs hx hts hy0
    go_wp2_with fail
    refine (TF.out _ hbel).mono ?_
    rintro e w2 ⟨rfl, hb2⟩
    have hbx2 := bthen hbel hb2
    have hown := own_below hown hb2
    clear hb2 hbel c0
    go_wp2_with (at_builtin; refine wpList_append_own _ rfl _ _ 137 rfl w.heap.size 27 i0 (.int .i64 0) 1 8 Tryz.undZapiErrno hi hz0 hz1 hz2 rfl (by decide) _ _ _ rfl (own_below hown (below_new _ _)) ⟨w2.heap.size, 0, none⟩ 1 1 [.int .i64 y0] rfl rfl (fun j u hj => (Blk.new w2 27 [.int .i64 y0]).news j u hj) (by simp [Value.oneCell']) (by unfold maxLen; omega) (by omega) (by have := hbx2.size; simp; omega) ?_; intro v' w1 hown' hgrow _)
    have hbel' : Below w.heap.size w w1 := (bthen hbx2 (below_new w2 (.cells #[.int .i64 y0] 27))).trans (below_grow (own_below hown (below_new _ _)) (by have := hbx2.size; simp; omega) hgrow)
    have hown2 : w1.ownsRow w.heap.size 27 1 v' (k + 1) (((l.take (k + 1)).map g).flatMap nV) := by
     rw [HTS.out]; exact hown'
    clear hown hbx2 hown' hgrow
    go_wp2
    go_roundw
    case rel => exact ⟨k + 1, by omega, by go_num, hown2, hbel'⟩
    case measure => simp [intOf]; omega
   ·obtain rfl : k = l.length := by omega
    have hout : OwR wr w.heap.size 27 1 nV u5 (l.map g) := by
     unfold OwR
     rw [List.take_length] at hown
     rw [List.length_map]; exact hown
    clear hown
    go_wp2
    go_ret
    exact ⟨⟨_, rfl, hout⟩, hbel⟩
set_option maxRecDepth 100000 in
set_option maxHeartbeats 2000000 in
theorem mapTEp_any (K : Nat) (cap : Array Value) (henter : ∀ args w, Sem.run Tryz.prog (callFunc K args) w = .ok (.enter K args) w) (g : Tg → Int) (v : Value) (l : List Tg) (w : World) (hl : l.length ≤ 1000000) (hv : Rw 6 tV w v l)
 (hf : ∀ x ∈ l, ∀ w1, Below w.heap.size w w1 → Calls Tryz.prog K (#[.agg #[.int .i64 x.1, .int .i64 x.2.1, .int .i64 x.2.2.1, .int .i64 x.2.2.2.1, .int .i64 x.2.2.2.2.1, .int .i64 x.2.2.2.2.2]] ++ cap) w1 fun r w2 => r = .returned (.int .i64 (g x)) ∧ Below w1.heap.size w1 w2) :
 Calls Tryz.prog 156 #[v, .func (.func K) #[] cap] w fun r w' => (∃ u, r = .returned u ∧ OwR w' w.heap.size 27 1 nV u (l.map g)) ∧ Below w.heap.size w w' := by
 rcases Nat.eq_zero_or_pos l.length with h0 | h0
 ·obtain rfl : l = [] := List.length_eq_zero_iff.1 h0
  obtain ⟨a, cp, rfl, _, _⟩ := hv
  go_enter Tryz.func156, Tryz.ntmps156
  go_wp2
  go_loop [5, 10] (fun v i => v = .slice none 0 0 ∧ i = .int .i64 0) (fun _ _ => 0)
  case atStart => exact ⟨rfl, rfl⟩
  case round =>
   obtain ⟨rfl, rfl⟩ := hrel
   go_wp2
   go_ret
   exact ⟨⟨_, rfl, World.ownsRow_nil _ _ _ _⟩, Below.refl _ _⟩
 ·obtain ⟨b, off, cp, rfl, hcs⟩ := hv.head h0
  clear hv
  obtain ⟨i0, hi, hz0, hz1, hz2⟩ := info_parts Tryz.infZapiErrno
  go_enter Tryz.func156, Tryz.ntmps156
  go_wp2
  go_loopw [5, 10] (fun v i wr => ∃ k : Nat, k ≤ l.length ∧ i = .int .i64 k ∧ wr.ownsRow w.heap.size 27 1 v k (((l.take k).map g).flatMap nV) ∧ Below w.heap.size w wr) (fun _ i _ => l.length - (intOf i).toNat)
  case atStart => exact ⟨0, by omega, rfl, World.ownsRow_nil _ _ _ _, Below.refl _ _⟩
  case round =>
   obtain ⟨k, hk, rfl, hown, hbel⟩ := hrel
   by_cases hlt : k < l.length
   ·obtain ⟨x, hx⟩ : ∃ x, l[k]? = some x := ⟨_, List.getElem?_eq_getElem hlt⟩
    obtain ⟨c0, c1, c2, c3, c4, c5⟩ := rw6 (hcs k x hx) (show tV x = [.int .i64 x.1, .int .i64 x.2.1, .int .i64 x.2.2.1, .int .i64 x.2.2.2.1, .int .i64 x.2.2.2.2.1, .int .i64 x.2.2.2.2.2] from rfl)
    have c0 := cellb c0 hbel
    have c1 := cellb c1 hbel
    have c2 := cellb c2 hbel
    have c3 := cellb c3 hbel
    have c4 := cellb c4 hbel
    have c5 := cellb c5 hbel
    have hts := flatMap_take_succ nV g l k x hx
    have hts : ((l.take (k + 1)).map g).flatMap nV = ((l.take k).map g).flatMap nV ++ [.int .i64 (g x)] := hts
    have TF := Lib.hid (fun W hE => hf x (List.mem_of_getElem? hx) W hE)
    obtain ⟨y0, hy0⟩ : ∃ y, y = (g x) := ⟨_, rfl⟩
    rw [← hy0] at TF hts
    have HTS := Lib.hid hts
    clear hcs hx hts hy0
    go_wp2_with fail
    have hbx := bthen hbel (below_new wr (Obj.cells #[Value.int IntKind.i64 x.1, Value.int IntKind.i64 x.2.1, Value.int IntKind.i64 x.2.2.1, Value.int IntKind.i64 x.2.2.2.1, Value.int IntKind.i64 x.2.2.2.2.1, Value.int IntKind.i64 x.2.2.2.2.2] 75))
    refine (TF.out _ hbx).mono ?_
    rintro e w2 ⟨rfl, hb2⟩
    have hbx2 := bthen hbx hb2
    have hown := own_below hown (bthen (below_new wr (Obj.cells #[Value.int IntKind.i64 x.1, Value.int IntKind.i64 x.2.1, Value.int IntKind.i64 x.2.2.1, Value.int IntKind.i64 x.2.2.2.1, Value.int IntKind.i64 x.2.2.2.2.1, Value.int IntKind.i64 x.2.2.2.2.2] 75)) hb2)
    clear hbx hb2 hbel c0 c1 c2 c3 c4 c5
    go_wp2_with (at_builtin; refine wpList_append_own _ rfl _ _ 137 rfl w.heap.size 27 i0 (.int .i64 0) 1 8 Tryz.undZapiErrno hi hz0 hz1 hz2 rfl (by decide) _ _ _ rfl (own_below hown (below_new _ _)) ⟨w2.heap.size, 0, none⟩ 1 1 [.int .i64 y0] rfl rfl (fun j u hj => (Blk.new w2 27 [.int .i64 y0]).news j u hj) (by simp [Value.oneCell']) (by unfold maxLen; omega) (by omega) (by have := hbx2.size; simp; omega) ?_; intro v' w1 hown' hgrow _)
    have hbel' : Below w.heap.size w w1 := (bthen hbx2 (below_new w2 (.cells #[.int .i64 y0] 27))).trans (below_grow (own_below hown (below_new _ _)) (by have := hbx2.size; simp; omega) hgrow)
    have hown2 : w1.ownsRow w.heap.size 27 1 v' (k + 1) (((l.take (k + 1)).map g).flatMap nV) := by
     rw [HTS.out]; exact hown'
    clear hown hbx2 hown' hgrow
    go_wp2
    go_roundw
    case rel => exact ⟨k + 1, by omega, by go_num, hown2, hbel'⟩
    case measure => simp [intOf]; omega
   ·obtain rfl : k = l.length := by omega
    have hout : OwR wr w.heap.size 27 1 nV u5 (l.map g) := by
     unfold OwR
     rw [List.take_length] at hown
     rw [List.length_map]; exact hown
    clear hown
    go_wp2
    go_ret
    exact ⟨⟨_, rfl, hout⟩, hbel⟩
set_option maxRecDepth 100000 in
set_option maxHeartbeats 2000000 in
theorem mapISp_any (K : Nat) (cap : Array Value) (henter : ∀ args w, Sem.run Tryz.prog (callFunc K args) w = .ok (.enter K args) w) (g : Int → ByteArray) (v : Value) (l : List Int) (w : World) (hl : l.length ≤ 1000000) (hv : Rw 1 nV w v l)
 (hf : ∀ x ∈ l, ∀ w1, Below w.heap.size w w1 → Calls Tryz.prog K (#[.int .i64 x] ++ cap) w1 fun r w2 => r = .returned (.string (g x)) ∧ Below w1.heap.size w1 w2) :
 Calls Tryz.prog 161 #[v, .func (.func K) #[] cap] w fun r w' => (∃ u, r = .returned u ∧ OwR w' w.heap.size 9 1 sV u (l.map g)) ∧ Below w.heap.size w w' := by
 rcases Nat.eq_zero_or_pos l.length with h0 | h0
 ·obtain rfl : l = [] := List.length_eq_zero_iff.1 h0
  obtain ⟨a, cp, rfl, _, _⟩ := hv
  go_enter Tryz.func161, Tryz.ntmps161
  go_wp2
  go_loop [5, 10] (fun v i => v = .slice none 0 0 ∧ i = .int .i64 0) (fun _ _ => 0)
  case atStart => exact ⟨rfl, rfl⟩
  case round =>
   obtain ⟨rfl, rfl⟩ := hrel
   go_wp2
   go_ret
   exact ⟨⟨_, rfl, World.ownsRow_nil _ _ _ _⟩, Below.refl _ _⟩
 ·obtain ⟨b, off, cp, rfl, hcs⟩ := hv.head h0
  clear hv
  obtain ⟨i0, hi, hz0, hz1, hz2⟩ := info_parts Tryz.infZstring
  go_enter Tryz.func161, Tryz.ntmps161
  go_wp2
  go_loopw [5, 10] (fun v i wr => ∃ k : Nat, k ≤ l.length ∧ i = .int .i64 k ∧ wr.ownsRow w.heap.size 9 1 v k (((l.take k).map g).flatMap sV) ∧ Below w.heap.size w wr) (fun _ i _ => l.length - (intOf i).toNat)
  case atStart => exact ⟨0, by omega, rfl, World.ownsRow_nil _ _ _ _, Below.refl _ _⟩
  case round =>
   obtain ⟨k, hk, rfl, hown, hbel⟩ := hrel
   by_cases hlt : k < l.length
   ·obtain ⟨x, hx⟩ : ∃ x, l[k]? = some x := ⟨_, List.getElem?_eq_getElem hlt⟩
    have c0 := rw1 (hcs k x hx) (show nV x = [.int .i64 x] from rfl)
    have c0 := cellb c0 hbel
    have hts := flatMap_take_succ sV g l k x hx
    have hts : ((l.take (k + 1)).map g).flatMap sV = ((l.take k).map g).flatMap sV ++ [.string (g x)] := hts
    have TF := Lib.hid (fun W hE => hf x (List.mem_of_getElem? hx) W hE)
    obtain ⟨y0, hy0⟩ : ∃ y, y = (g x) := ⟨_, rfl⟩
    rw [← hy0] at TF hts
    have HTS := Lib.hid hts
    clear hcs hx hts hy0
    go_wp2_with fail
    refine (TF.out _ hbel).mono ?_
    rintro e w2 ⟨rfl, hb2⟩
    have hbx2 := bthen hbel hb2
    have hown := own_below hown hb2
    clear hb2 hbel c0
    go_wp2_with (at_builtin; refine wpList_append_own _ rfl _ _ 196 rfl w.heap.size 9 i0 (.string ⟨#[]⟩) 1 16 Tryz.undZstring hi hz0 hz1 hz2 rfl (by decide) _ _ _ rfl (own_below hown (below_new _ _)) ⟨w2.heap.size, 0, none⟩ 1 1 [.string y0] rfl rfl (fun j u hj => (Blk.new w2 9 [.string y0]).news j u hj) (by simp [Value.oneCell']) (by unfold maxLen; omega) (by omega) (by have := hbx2.size; simp; omega) ?_; intro v' w1 hown' hgrow _)
    have hbel' : Below w.heap.size w w1 := (bthen hbx2 (below_new w2 (.cells #[.string y0] 9))).trans (below_grow (own_below hown (below_new _ _)) (by have := hbx2.size; simp; omega) hgrow)
    have hown2 : w1.ownsRow w.heap.size 9 1 v' (k + 1) (((l.take (k + 1)).map g).flatMap sV) := by
     rw [HTS.out]; exact hown'
    clear hown hbx2 hown' hgrow
    go_wp2
    go_roundw
    case rel => exact ⟨k + 1, by omega, by go_num, hown2, hbel'⟩
    case measure => simp [intOf]; omega
   ·obtain rfl : k = l.length := by omega
    have hout : OwR wr w.heap.size 9 1 sV u5 (l.map g) := by
     unfold OwR
     rw [List.take_length] at hown
     rw [List.length_map]; exact hown
    clear hown
    go_wp2
    go_ret
    exact ⟨⟨_, rfl, hout⟩, hbel⟩
set_option maxRecDepth 100000 in
set_option maxHeartbeats 2000000 in
theorem mapTSp_any (K : Nat) (cap : Array Value) (henter : ∀ args w, Sem.run Tryz.prog (callFunc K args) w = .ok (.enter K args) w) (g : Tg → ByteArray) (v : Value) (l : List Tg) (w : World) (hl : l.length ≤ 1000000) (hv : Rw 6 tV w v l)
 (hf : ∀ x ∈ l, ∀ w1, Below w.heap.size w w1 → Calls Tryz.prog K (#[.agg #[.int .i64 x.1, .int .i64 x.2.1, .int .i64 x.2.2.1, .int .i64 x.2.2.2.1, .int .i64 x.2.2.2.2.1, .int .i64 x.2.2.2.2.2]] ++ cap) w1 fun r w2 => r = .returned (.string (g x)) ∧ Below w1.heap.size w1 w2) :
 Calls Tryz.prog 124 #[v, .func (.func K) #[] cap] w fun r w' => (∃ u, r = .returned u ∧ OwR w' w.heap.size 9 1 sV u (l.map g)) ∧ Below w.heap.size w w' := by
 rcases Nat.eq_zero_or_pos l.length with h0 | h0
 ·obtain rfl : l = [] := List.length_eq_zero_iff.1 h0
  obtain ⟨a, cp, rfl, _, _⟩ := hv
  go_enter Tryz.func124, Tryz.ntmps124
  go_wp2
  go_loop [5, 10] (fun v i => v = .slice none 0 0 ∧ i = .int .i64 0) (fun _ _ => 0)
  case atStart => exact ⟨rfl, rfl⟩
  case round =>
   obtain ⟨rfl, rfl⟩ := hrel
   go_wp2
   go_ret
   exact ⟨⟨_, rfl, World.ownsRow_nil _ _ _ _⟩, Below.refl _ _⟩
 ·obtain ⟨b, off, cp, rfl, hcs⟩ := hv.head h0
  clear hv
  obtain ⟨i0, hi, hz0, hz1, hz2⟩ := info_parts Tryz.infZstring
  go_enter Tryz.func124, Tryz.ntmps124
  go_wp2
  go_loopw [5, 10] (fun v i wr => ∃ k : Nat, k ≤ l.length ∧ i = .int .i64 k ∧ wr.ownsRow w.heap.size 9 1 v k (((l.take k).map g).flatMap sV) ∧ Below w.heap.size w wr) (fun _ i _ => l.length - (intOf i).toNat)
  case atStart => exact ⟨0, by omega, rfl, World.ownsRow_nil _ _ _ _, Below.refl _ _⟩
  case round =>
   obtain ⟨k, hk, rfl, hown, hbel⟩ := hrel
   by_cases hlt : k < l.length
   ·obtain ⟨x, hx⟩ : ∃ x, l[k]? = some x := ⟨_, List.getElem?_eq_getElem hlt⟩
    obtain ⟨c0, c1, c2, c3, c4, c5⟩ := rw6 (hcs k x hx) (show tV x = [.int .i64 x.1, .int .i64 x.2.1, .int .i64 x.2.2.1, .int .i64 x.2.2.2.1, .int .i64 x.2.2.2.2.1, .int .i64 x.2.2.2.2.2] from rfl)
    have c0 := cellb c0 hbel
    have c1 := cellb c1 hbel
    have c2 := cellb c2 hbel
    have c3 := cellb c3 hbel
    have c4 := cellb c4 hbel
    have c5 := cellb c5 hbel
    have hts := flatMap_take_succ sV g l k x hx
    have hts : ((l.take (k + 1)).map g).flatMap sV = ((l.take k).map g).flatMap sV ++ [.string (g x)] := hts
    have TF := Lib.hid (fun W hE => hf x (List.mem_of_getElem? hx) W hE)
    obtain ⟨y0, hy0⟩ : ∃ y, y = (g x) := ⟨_, rfl⟩
    rw [← hy0] at TF hts
    have HTS := Lib.hid hts
    clear hcs hx hts hy0
    go_wp2_with fail
    have hbx := bthen hbel (below_new wr (Obj.cells #[Value.int IntKind.i64 x.1, Value.int IntKind.i64 x.2.1, Value.int IntKind.i64 x.2.2.1, Value.int IntKind.i64 x.2.2.2.1, Value.int IntKind.i64 x.2.2.2.2.1, Value.int IntKind.i64 x.2.2.2.2.2] 75))
    refine (TF.out _ hbx).mono ?_
    rintro e w2 ⟨rfl, hb2⟩
    have hbx2 := bthen hbx hb2
    have hown := own_below hown (bthen (below_new wr (Obj.cells #[Value.int IntKind.i64 x.1, Value.int IntKind.i64 x.2.1, Value.int IntKind.i64 x.2.2.1, Value.int IntKind.i64 x.2.2.2.1, Value.int IntKind.i64 x.2.2.2.2.1, Value.int IntKind.i64 x.2.2.2.2.2] 75)) hb2)
    clear hbx hb2 hbel c0 c1 c2 c3 c4 c5
    go_wp2_with (at_builtin; refine wpList_append_own _ rfl _ _ 196 rfl w.heap.size 9 i0 (.string ⟨#[]⟩) 1 16 Tryz.undZstring hi hz0 hz1 hz2 rfl (by decide) _ _ _ rfl (own_below hown (below_new _ _)) ⟨w2.heap.size, 0, none⟩ 1 1 [.string y0] rfl rfl (fun j u hj => (Blk.new w2 9 [.string y0]).news j u hj) (by simp [Value.oneCell']) (by unfold maxLen; omega) (by omega) (by have := hbx2.size; simp; omega) ?_; intro v' w1 hown' hgrow _)
    have hbel' : Below w.heap.size w w1 := (bthen hbx2 (below_new w2 (.cells #[.string y0] 9))).trans (below_grow (own_below hown (below_new _ _)) (by have := hbx2.size; simp; omega) hgrow)
    have hown2 : w1.ownsRow w.heap.size 9 1 v' (k + 1) (((l.take (k + 1)).map g).flatMap sV) := by
     rw [HTS.out]; exact hown'
    clear hown hbx2 hown' hgrow
    go_wp2
    go_roundw
    case rel => exact ⟨k + 1, by omega, by go_num, hown2, hbel'⟩
    case measure => simp [intOf]; omega
   ·obtain rfl : k = l.length := by omega
    have hout : OwR wr w.heap.size 9 1 sV u5 (l.map g) := by
     unfold OwR
     rw [List.take_length] at hown
     rw [List.length_map]; exact hown
    clear hown
    go_wp2
    go_ret
    exact ⟨⟨_, rfl, hout⟩, hbel⟩
end Go.Proofs.YtgpdalgfbfboaaaGreatDoor

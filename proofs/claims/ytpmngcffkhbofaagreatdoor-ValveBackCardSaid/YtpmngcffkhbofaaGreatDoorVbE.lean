/- Package phasor: when, within, first, mapped. (printed by gen/valBD.py) -/
import Derived.Test.YtpmngcffkhbofaaGreatDoorVbC
namespace Go.Proofs.YtpmngcffkhbofaaGreatDoor
section
set_option linter.unusedSimpArgs false
set_option linter.unusedVariables false
open Go.RowKit
theorem rw6 {α : Type} {n : Nat} {f : α → List Value} {w : World} {b off : Nat} {j : Nat} {x : α} (h : ∀ (i : Nat) (u : Value), (f x)[i]? = some u → w.cell? ⟨b, off + j * n + i, none⟩ = some u) {u0 u1 u2 u3 u4 u5 : Value} (hx : f x = [u0, u1, u2, u3, u4, u5]) : w.cell? ⟨b, off + j * n, none⟩ = some u0 ∧ w.cell? ⟨b, off + j * n + 1, none⟩ = some u1 ∧ w.cell? ⟨b, off + j * n + 2, none⟩ = some u2 ∧ w.cell? ⟨b, off + j * n + 3, none⟩ = some u3 ∧ w.cell? ⟨b, off + j * n + 4, none⟩ = some u4 ∧ w.cell? ⟨b, off + j * n + 5, none⟩ = some u5 :=
 ⟨h 0 u0 (by rw [hx]; rfl), h 1 u1 (by rw [hx]; rfl), h 2 u2 (by rw [hx]; rfl), h 3 u3 (by rw [hx]; rfl), h 4 u4 (by rw [hx]; rfl), h 5 u5 (by rw [hx]; rfl)⟩
set_option maxHeartbeats 400000 in
theorem whenP_any (c : Bool) (e : Int) (w : World) :
 Calls Tryz.prog 178 #[.bool c, .int .i64 e] w fun r w' => r = .returned (.int .i64 (whenE c e)) ∧ w = w' := by
 cases c
 ·go_enter Tryz.func178, Tryz.ntmps178
  go_wp2
  go_ret
  exact ⟨rfl, rfl⟩
 ·go_enter Tryz.func178, Tryz.ntmps178
  go_wp2
  go_ret
  exact ⟨rfl, rfl⟩
set_option maxHeartbeats 400000 in
theorem withinP_any (n lo hi : Int) (w : World) :
 Calls Tryz.prog 200 #[.int .i64 n, .int .i64 lo, .int .i64 hi] w fun r w' => r = .returned (.int .i64 (withinE n lo hi)) ∧ w = w' := by
 by_cases h1 : n < lo
 ·go_enter Tryz.func200, Tryz.ntmps200
  go_wp2_with fail
  refine (whenP_any _ _ _).mono ?_
  rintro e w' ⟨rfl, rfl⟩
  go_wp2_with fail
  go_ret
  exact ⟨by simp [whenE, withinE, h1], rfl⟩
 ·by_cases h2 : hi < n
  all_goals
   go_enter Tryz.func200, Tryz.ntmps200
   go_wp2_with fail
   refine (whenP_any _ _ _).mono ?_
   rintro e w' ⟨rfl, rfl⟩
   go_wp2_with fail
   go_ret
   exact ⟨by simp [whenE, withinE, h1, h2], rfl⟩
set_option maxHeartbeats 400000 in
theorem firstP_any (v : Value) (l : List Int) (w : World) (hl : l.length ≤ maxLen) (hv : Ints w v l) :
 Calls Tryz.prog 161 #[v] w fun r w' => r = .returned (.int .i64 (firstE l)) ∧ w = w' := by
 unfold maxLen at hl
 obtain ⟨a, cap, rfl, hc, hv⟩ := hv
 rcases Nat.eq_zero_or_pos l.length with h0 | h0
 ·obtain rfl : l = [] := List.length_eq_zero_iff.1 h0
  go_enter Tryz.func161, Tryz.ntmps161
  go_wp2
  go_loop [7] (fun i => i = .int .i64 0) (fun _ => 0)
  case atStart => rfl
  case round =>
   obtain rfl := hrel
   go_wp2
   go_ret
   exact ⟨rfl, rfl⟩
 ·obtain ⟨b, off, rfl, hcs⟩ := hv h0
  clear hv
  go_enter Tryz.func161, Tryz.ntmps161
  go_wp2
  go_loop [7] (fun i => ∃ k : Nat, k ≤ l.length ∧ i = .int .i64 k ∧ firstE (l.take k) = 0) (fun i => l.length - (intOf i).toNat)
  case atStart => exact ⟨0, by omega, rfl, rfl⟩
  case round =>
   obtain ⟨k, hk, rfl, hf⟩ := hrel
   by_cases hlt : k < l.length
   ·have hcell := hcs k hlt
    have hs := firstE_take_succ l k hlt hf
    clear hcs
    generalize l[k]?.getD 0 = x at hcell hs
    have HS := Lib.hid hs
    clear hs hf
    by_cases hz : x = 0
    ·go_wp2
     go_round
     case rel => exact ⟨k + 1, by omega, by go_num, by rw [HS.out]; exact hz⟩
     case measure => simp [intOf]; omega
    ·go_wp2
     go_ret
     exact ⟨ret_int (by rw [firstE_of_take l (k+1) (by rw [HS.out]; exact hz), HS.out]), rfl⟩
   ·have HF := Lib.hid hf
    clear hf
    go_wp2
    go_ret
    have h := HF.out
    rw [List.take_of_length_le (by omega)] at h
    exact ⟨ret_int h.symm, rfl⟩
theorem Tryz.infZapiErrno : (Tryz.prog.info? 27).map (fun i => (i.zero, i.size, i.bytes)) = some (some (.int .i64 0), 1, 8) := by kernel_rfl
theorem Tryz.undZapiErrno : Tryz.prog.underlying 150 = some (.slice 27) := by kernel_rfl
set_option maxRecDepth 100000 in
set_option maxHeartbeats 2000000 in
theorem mapIEp_any (K : Nat) (cap : Array Value) (henter : ∀ args w, Sem.run Tryz.prog (callFunc K args) w = .ok (.enter K args) w) (g : Int → Int) (v : Value) (l : List Int) (w : World) (hl : l.length ≤ 1000000) (hv : Rw 1 nV w v l)
 (hf : ∀ x ∈ l, ∀ w1, Below w.heap.size w w1 → Calls Tryz.prog K (#[.int .i64 x] ++ cap) w1 fun r w2 => r = .returned (.int .i64 (g x)) ∧ Below w1.heap.size w1 w2) :
 Calls Tryz.prog 201 #[v, .func (.func K) #[] cap] w fun r w' => (∃ u, r = .returned u ∧ OwR w' w.heap.size 27 1 nV u (l.map g)) ∧ Below w.heap.size w w' := by
 rcases Nat.eq_zero_or_pos l.length with h0 | h0
 ·obtain rfl : l = [] := List.length_eq_zero_iff.1 h0
  obtain ⟨a, cp, rfl, _, _⟩ := hv
  go_enter Tryz.func201, Tryz.ntmps201
  go_wp2
  go_loop [5, 10] (fun v i => v = .slice none 0 0 ∧ i = .int .i64 0) (fun _ _ => 0)
  case atStart => exact ⟨rfl, rfl⟩
  case round =>
   obtain ⟨rfl, rfl⟩ := hrel
   go_wp2
   go_ret
   exact ⟨⟨_, rfl, World.ownsRow_nil _ _ _ _⟩, Below.refl _ _⟩
 ·obtain ⟨b, off, cp, rfl, hcs⟩ := hv.head h0
  clear hv
  obtain ⟨i0, hi, hz0, hz1, hz2⟩ := info_parts Tryz.infZapiErrno
  go_enter Tryz.func201, Tryz.ntmps201
  go_wp2
  go_loopw [5, 10] (fun v i wr => ∃ k : Nat, k ≤ l.length ∧ i = .int .i64 k ∧ wr.ownsRow w.heap.size 27 1 v k (((l.take k).map g).flatMap nV) ∧ Below w.heap.size w wr) (fun _ i _ => l.length - (intOf i).toNat)
  case atStart => exact ⟨0, by omega, rfl, World.ownsRow_nil _ _ _ _, Below.refl _ _⟩
  case round =>
   obtain ⟨k, hk, rfl, hown, hbel⟩ := hrel
   by_cases hlt : k < l.length
   ·obtain ⟨x, hx⟩ : ∃ x, l[k]? = some x := ⟨_, List.getElem?_eq_getElem hlt⟩
    have c0 := rw1 (hcs k x hx) (show nV x = [.int .i64 x] from rfl)
    have c0 := cellb c0 hbel
    have hts := flatMap_take_succ nV g l k x hx
    have hts : ((l.take (k + 1)).map g).flatMap nV = ((l.take k).map g).flatMap nV ++ [.int .i64 (g x)] := hts
    have TF := Lib.hid (fun W hE => hf x (List.mem_of_getElem? hx) W hE)
    obtain ⟨y0, hy0⟩ : ∃ y, y = (g x) := ⟨_, rfl⟩
    rw [← hy0] at TF hts
    have HTS := Lib.hid hts
    clear hcs hx hts hy0
    go_wp2_with fail
    refine (TF.out _ hbel).mono ?_
    rintro e w2 ⟨rfl, hb2⟩
    have hbx2 := bthen hbel hb2
    have hown := own_below hown hb2
    clear hb2 hbel c0
    go_wp2_with (at_builtin; refine wpList_append_own _ rfl _ _ 150 rfl w.heap.size 27 i0 (.int .i64 0) 1 8 Tryz.undZapiErrno hi hz0 hz1 hz2 rfl (by decide) _ _ _ rfl (own_below hown (below_new _ _)) ⟨w2.heap.size, 0, none⟩ 1 1 [.int .i64 y0] rfl rfl (fun j u hj => (Blk.new w2 27 [.int .i64 y0]).news j u hj) (by simp [Value.oneCell']) (by unfold maxLen; omega) (by omega) (by have := hbx2.size; simp; omega) ?_; intro v' w1 hown' hgrow _)
    have hbel' : Below w.heap.size w w1 := (bthen hbx2 (below_new w2 (.cells #[.int .i64 y0] 27))).trans (below_grow (own_below hown (below_new _ _)) (by have := hbx2.size; simp; omega) hgrow)
    have hown2 : w1.ownsRow w.heap.size 27 1 v' (k + 1) (((l.take (k + 1)).map g).flatMap nV) := by
     rw [HTS.out]; exact hown'
    clear hown hbx2 hown' hgrow
    go_wp2
    go_roundw
    case rel => exact ⟨k + 1, by omega, by go_num, hown2, hbel'⟩
    case measure => simp [intOf]; omega
   ·obtain rfl : k = l.length := by omega
    have hout : OwR wr w.heap.size 27 1 nV u5 (l.map g) := by
     unfold OwR
     rw [List.take_length] at hown
     rw [List.length_map]; exact hown
    clear hown
    go_wp2
    go_ret
    exact ⟨⟨_, rfl, hout⟩, hbel⟩
set_option maxRecDepth 100000 in
set_option maxHeartbeats 2000000 in
theorem mapTEp_any (K : Nat) (cap : Array Value) (henter : ∀ args w, Sem.run Tryz.prog (callFunc K args) w = .ok (.enter K args) w) (g : Tg → Int) (v : Value) (l : List Tg) (w : World) (hl : l.length ≤ 1000000) (hv : Rw 6 tV w v l)
 (hf : ∀ x ∈ l, ∀ w1, Below w.heap.size w w1 → Calls Tryz.prog K (#[.agg #[.int .i64 x.1, .int .i64 x.2.1, .int .i64 x.2.2.1, .int .i64 x.2.2.2.1, .int .i64 x.2.2.2.2.1, .int .i64 x.2.2.2.2.2]] ++ cap) w1 fun r w2 => r = .returned (.int .i64 (g x)) ∧ Below w1.heap.size w1 w2) :
 Calls Tryz.prog 162 #[v, .func (.func K) #[] cap] w fun r w' => (∃ u, r = .returned u ∧ OwR w' w.heap.size 27 1 nV u (l.map g)) ∧ Below w.heap.size w w' := by
 rcases Nat.eq_zero_or_pos l.length with h0 | h0
 ·obtain rfl : l = [] := List.length_eq_zero_iff.1 h0
  obtain ⟨a, cp, rfl, _, _⟩ := hv
  go_enter Tryz.func162, Tryz.ntmps162
  go_wp2
  go_loop [5, 10] (fun v i => v = .slice none 0 0 ∧ i = .int .i64 0) (fun _ _ => 0)
  case atStart => exact ⟨rfl, rfl⟩
  case round =>
   obtain ⟨rfl, rfl⟩ := hrel
   go_wp2
   go_ret
   exact ⟨⟨_, rfl, World.ownsRow_nil _ _ _ _⟩, Below.refl _ _⟩
 ·obtain ⟨b, off, cp, rfl, hcs⟩ := hv.head h0
  clear hv
  obtain ⟨i0, hi, hz0, hz1, hz2⟩ := info_parts Tryz.infZapiErrno
  go_enter Tryz.func162, Tryz.ntmps162
  go_wp2
  go_loopw [5, 10] (fun v i wr => ∃ k : Nat, k ≤ l.length ∧ i = .int .i64 k ∧ wr.ownsRow w.heap.size 27 1 v k (((l.take k).map g).flatMap nV) ∧ Below w.heap.size w wr) (fun _ i _ => l.length - (intOf i).toNat)
  case atStart => exact ⟨0, by omega, rfl, World.ownsRow_nil _ _ _ _, Below.refl _ _⟩
  case round =>
   obtain ⟨k, hk, rfl, hown, hbel⟩ := hrel
   by_cases hlt : k < l.length
   ·obtain ⟨x, hx⟩ : ∃ x, l[k]? = some x := ⟨_, List.getElem?_eq_getElem hlt⟩
    obtain ⟨c0, c1, c2, c3, c4, c5⟩ := rw6 (hcs k x hx) (show tV x = [.int .i64 x.1, .int .i64 x.2.1, .int .i64 x.2.2.1, .int .i64 x.2.2.2.1, .int .i64 x.2.2.2.2.1, .int .i64 x.2.2.2.2.2] from rfl)
    have c0 := cellb c0 hbel
    have c1 := cellb c1 hbel
    have c2 := cellb c2 hbel
    have c3 := cellb c3 hbel
    have c4 := cellb c4 hbel
    have c5 := cellb c5 hbel
    have hts := flatMap_take_succ nV g l k x hx
    have hts : ((l.take (k + 1)).map g).flatMap nV = ((l.take k).map g).flatMap nV ++ [.int .i64 (g x)] := hts
    have TF := Lib.hid (fun W hE => hf x (List.mem_of_getElem? hx) W hE)
    obtain ⟨y0, hy0⟩ : ∃ y, y = (g x) := ⟨_, rfl⟩
    rw [← hy0] at TF hts
    have HTS := Lib.hid hts
    clear hcs hx hts hy0
    go_wp2_with fail
    have hbx := bthen hbel (below_new wr (Obj.cells #[Value.int IntKind.i64 x.1, Value.int IntKind.i64 x.2.1, Value.int IntKind.i64 x.2.2.1, Value.int IntKind.i64 x.2.2.2.1, Value.int IntKind.i64 x.2.2.2.2.1, Value.int IntKind.i64 x.2.2.2.2.2] 53))
    refine (TF.out _ hbx).mono ?_
    rintro e w2 ⟨rfl, hb2⟩
    have hbx2 := bthen hbx hb2
    have hown := own_below hown (bthen (below_new wr (Obj.cells #[Value.int IntKind.i64 x.1, Value.int IntKind.i64 x.2.1, Value.int IntKind.i64 x.2.2.1, Value.int IntKind.i64 x.2.2.2.1, Value.int IntKind.i64 x.2.2.2.2.1, Value.int IntKind.i64 x.2.2.2.2.2] 53)) hb2)
    clear hbx hb2 hbel c0 c1 c2 c3 c4 c5
    go_wp2_with (at_builtin; refine wpList_append_own _ rfl _ _ 150 rfl w.heap.size 27 i0 (.int .i64 0) 1 8 Tryz.undZapiErrno hi hz0 hz1 hz2 rfl (by decide) _ _ _ rfl (own_below hown (below_new _ _)) ⟨w2.heap.size, 0, none⟩ 1 1 [.int .i64 y0] rfl rfl (fun j u hj => (Blk.new w2 27 [.int .i64 y0]).news j u hj) (by simp [Value.oneCell']) (by unfold maxLen; omega) (by omega) (by have := hbx2.size; simp; omega) ?_; intro v' w1 hown' hgrow _)
    have hbel' : Below w.heap.size w w1 := (bthen hbx2 (below_new w2 (.cells #[.int .i64 y0] 27))).trans (below_grow (own_below hown (below_new _ _)) (by have := hbx2.size; simp; omega) hgrow)
    have hown2 : w1.ownsRow w.heap.size 27 1 v' (k + 1) (((l.take (k + 1)).map g).flatMap nV) := by
     rw [HTS.out]; exact hown'
    clear hown hbx2 hown' hgrow
    go_wp2
    go_roundw
    case rel => exact ⟨k + 1, by omega, by go_num, hown2, hbel'⟩
    case measure => simp [intOf]; omega
   ·obtain rfl : k = l.length := by omega
    have hout : OwR wr w.heap.size 27 1 nV u5 (l.map g) := by
     unfold OwR
     rw [List.take_length] at hown
     rw [List.length_map]; exact hown
    clear hown
    go_wp2
    go_ret
    exact ⟨⟨_, rfl, hout⟩, hbel⟩
set_option maxRecDepth 100000 in
set_option maxHeartbeats 2000000 in
theorem mapISp_any (K : Nat) (cap : Array Value) (henter : ∀ args w, Sem.run Tryz.prog (callFunc K args) w = .ok (.enter K args) w) (g : Int → ByteArray) (v : Value) (l : List Int) (w : World) (hl : l.length ≤ 1000000) (hv : Rw 1 nV w v l)
 (hf : ∀ x ∈ l, ∀ w1, Below w.heap.size w w1 → Calls Tryz.prog K (#[.int .i64 x] ++ cap) w1 fun r w2 => r = .returned (.string (g x)) ∧ Below w1.heap.size w1 w2) :
 Calls Tryz.prog 164 #[v, .func (.func K) #[] cap] w fun r w' => (∃ u, r = .returned u ∧ OwR w' w.heap.size 9 1 sV u (l.map g)) ∧ Below w.heap.size w w' := by
 rcases Nat.eq_zero_or_pos l.length with h0 | h0
 ·obtain rfl : l = [] := List.length_eq_zero_iff.1 h0
  obtain ⟨a, cp, rfl, _, _⟩ := hv
  go_enter Tryz.func164, Tryz.ntmps164
  go_wp2
  go_loop [5, 10] (fun v i => v = .slice none 0 0 ∧ i = .int .i64 0) (fun _ _ => 0)
  case atStart => exact ⟨rfl, rfl⟩
  case round =>
   obtain ⟨rfl, rfl⟩ := hrel
   go_wp2
   go_ret
   exact ⟨⟨_, rfl, World.ownsRow_nil _ _ _ _⟩, Below.refl _ _⟩
 ·obtain ⟨b, off, cp, rfl, hcs⟩ := hv.head h0
  clear hv
  obtain ⟨i0, hi, hz0, hz1, hz2⟩ := info_parts Tryz.infZstring
  go_enter Tryz.func164, Tryz.ntmps164
  go_wp2
  go_loopw [5, 10] (fun v i wr => ∃ k : Nat, k ≤ l.length ∧ i = .int .i64 k ∧ wr.ownsRow w.heap.size 9 1 v k (((l.take k).map g).flatMap sV) ∧ Below w.heap.size w wr) (fun _ i _ => l.length - (intOf i).toNat)
  case atStart => exact ⟨0, by omega, rfl, World.ownsRow_nil _ _ _ _, Below.refl _ _⟩
  case round =>
   obtain ⟨k, hk, rfl, hown, hbel⟩ := hrel
   by_cases hlt : k < l.length
   ·obtain ⟨x, hx⟩ : ∃ x, l[k]? = some x := ⟨_, List.getElem?_eq_getElem hlt⟩
    have c0 := rw1 (hcs k x hx) (show nV x = [.int .i64 x] from rfl)
    have c0 := cellb c0 hbel
    have hts := flatMap_take_succ sV g l k x hx
    have hts : ((l.take (k + 1)).map g).flatMap sV = ((l.take k).map g).flatMap sV ++ [.string (g x)] := hts
    have TF := Lib.hid (fun W hE => hf x (List.mem_of_getElem? hx) W hE)
    obtain ⟨y0, hy0⟩ : ∃ y, y = (g x) := ⟨_, rfl⟩
    rw [← hy0] at TF hts
    have HTS := Lib.hid hts
    clear hcs hx hts hy0
    go_wp2_with fail
    refine (TF.out _ hbel).mono ?_
    rintro e w2 ⟨rfl, hb2⟩
    have hbx2 := bthen hbel hb2
    have hown := own_below hown hb2
    clear hb2 hbel c0
    go_wp2_with (at_builtin; refine wpList_append_own _ rfl _ _ 44 rfl w.heap.size 9 i0 (.string ⟨#[]⟩) 1 16 Tryz.undZstring hi hz0 hz1 hz2 rfl (by decide) _ _ _ rfl (own_below hown (below_new _ _)) ⟨w2.heap.size, 0, none⟩ 1 1 [.string y0] rfl rfl (fun j u hj => (Blk.new w2 9 [.string y0]).news j u hj) (by simp [Value.oneCell']) (by unfold maxLen; omega) (by omega) (by have := hbx2.size; simp; omega) ?_; intro v' w1 hown' hgrow _)
    have hbel' : Below w.heap.size w w1 := (bthen hbx2 (below_new w2 (.cells #[.string y0] 9))).trans (below_grow (own_below hown (below_new _ _)) (by have := hbx2.size; simp; omega) hgrow)
    have hown2 : w1.ownsRow w.heap.size 9 1 v' (k + 1) (((l.take (k + 1)).map g).flatMap sV) := by
     rw [HTS.out]; exact hown'
    clear hown hbx2 hown' hgrow
    go_wp2
    go_roundw
    case rel => exact ⟨k + 1, by omega, by go_num, hown2, hbel'⟩
    case measure => simp [intOf]; omega
   ·obtain rfl : k = l.length := by omega
    have hout : OwR wr w.heap.size 9 1 sV u5 (l.map g) := by
     unfold OwR
     rw [List.take_length] at hown
     rw [List.length_map]; exact hown
    clear hown
    go_wp2
    go_ret
    exact ⟨⟨_, rfl, hout⟩, hbel⟩
set_option maxRecDepth 100000 in
set_option maxHeartbeats 2000000 in
theorem mapTSp_any (K : Nat) (cap : Array Value) (henter : ∀ args w, Sem.run Tryz.prog (callFunc K args) w = .ok (.enter K args) w) (g : Tg → ByteArray) (v : Value) (l : List Tg) (w : World) (hl : l.length ≤ 1000000) (hv : Rw 6 tV w v l)
 (hf : ∀ x ∈ l, ∀ w1, Below w.heap.size w w1 → Calls Tryz.prog K (#[.agg #[.int .i64 x.1, .int .i64 x.2.1, .int .i64 x.2.2.1, .int .i64 x.2.2.2.1, .int .i64 x.2.2.2.2.1, .int .i64 x.2.2.2.2.2]] ++ cap) w1 fun r w2 => r = .returned (.string (g x)) ∧ Below w1.heap.size w1 w2) :
 Calls Tryz.prog 121 #[v, .func (.func K) #[] cap] w fun r w' => (∃ u, r = .returned u ∧ OwR w' w.heap.size 9 1 sV u (l.map g)) ∧ Below w.heap.size w w' := by
 rcases Nat.eq_zero_or_pos l.length with h0 | h0
 ·obtain rfl : l = [] := List.length_eq_zero_iff.1 h0
  obtain ⟨a, cp, rfl, _, _⟩ := hv
  go_enter Tryz.func121, Tryz.ntmps121
  go_wp2
  go_loop [5, 10] (fun v i => v = .slice none 0 0 ∧ i = .int .i64 0) (fun _ _ => 0)
  case atStart => exact ⟨rfl, rfl⟩
  case round =>
   obtain ⟨rfl, rfl⟩ := hrel
   go_wp2
   go_ret
   exact ⟨⟨_, rfl, World.ownsRow_nil _ _ _ _⟩, Below.refl _ _⟩
 ·obtain ⟨b, off, cp, rfl, hcs⟩ := hv.head h0
  clear hv
  obtain ⟨i0, hi, hz0, hz1, hz2⟩ := info_parts Tryz.infZstring
  go_enter Tryz.func121, Tryz.ntmps121
  go_wp2
  go_loopw [5, 10] (fun v i wr => ∃ k : Nat, k ≤ l.length ∧ i = .int .i64 k ∧ wr.ownsRow w.heap.size 9 1 v k (((l.take k).map g).flatMap sV) ∧ Below w.heap.size w wr) (fun _ i _ => l.length - (intOf i).toNat)
  case atStart => exact ⟨0, by omega, rfl, World.ownsRow_nil _ _ _ _, Below.refl _ _⟩
  case round =>
   obtain ⟨k, hk, rfl, hown, hbel⟩ := hrel
   by_cases hlt : k < l.length
   ·obtain ⟨x, hx⟩ : ∃ x, l[k]? = some x := ⟨_, List.getElem?_eq_getElem hlt⟩
    obtain ⟨c0, c1, c2, c3, c4, c5⟩ := rw6 (hcs k x hx) (show tV x = [.int .i64 x.1, .int .i64 x.2.1, .int .i64 x.2.2.1, .int .i64 x.2.2.2.1, .int .i64 x.2.2.2.2.1, .int .i64 x.2.2.2.2.2] from rfl)
    have c0 := cellb c0 hbel
    have c1 := cellb c1 hbel
    have c2 := cellb c2 hbel
    have c3 := cellb c3 hbel
    have c4 := cellb c4 hbel
    have c5 := cellb c5 hbel
    have hts := flatMap_take_succ sV g l k x hx
    have hts : ((l.take (k + 1)).map g).flatMap sV = ((l.take k).map g).flatMap sV ++ [.string (g x)] := hts
    have TF := Lib.hid (fun W hE => hf x (List.mem_of_getElem? hx) W hE)
    obtain ⟨y0, hy0⟩ : ∃ y, y = (g x) := ⟨_, rfl⟩
    rw [← hy0] at TF hts
    have HTS := Lib.hid hts
    clear hcs hx hts hy0
    go_wp2_with fail
    have hbx := bthen hbel (below_new wr (Obj.cells #[Value.int IntKind.i64 x.1, Value.int IntKind.i64 x.2.1, Value.int IntKind.i64 x.2.2.1, Value.int IntKind.i64 x.2.2.2.1, Value.int IntKind.i64 x.2.2.2.2.1, Value.int IntKind.i64 x.2.2.2.2.2] 53))
    refine (TF.out _ hbx).mono ?_
    rintro e w2 ⟨rfl, hb2⟩
    have hbx2 := bthen hbx hb2
    have hown := own_below hown (bthen (below_new wr (Obj.cells #[Value.int IntKind.i64 x.1, Value.int IntKind.i64 x.2.1, Value.int IntKind.i64 x.2.2.1, Value.int IntKind.i64 x.2.2.2.1, Value.int IntKind.i64 x.2.2.2.2.1, Value.int IntKind.i64 x.2.2.2.2.2] 53)) hb2)
    clear hbx hb2 hbel c0 c1 c2 c3 c4 c5
    go_wp2_with (at_builtin; refine wpList_append_own _ rfl _ _ 44 rfl w.heap.size 9 i0 (.string ⟨#[]⟩) 1 16 Tryz.undZstring hi hz0 hz1 hz2 rfl (by decide) _ _ _ rfl (own_below hown (below_new _ _)) ⟨w2.heap.size, 0, none⟩ 1 1 [.string y0] rfl rfl (fun j u hj => (Blk.new w2 9 [.string y0]).news j u hj) (by simp [Value.oneCell']) (by unfold maxLen; omega) (by omega) (by have := hbx2.size; simp; omega) ?_; intro v' w1 hown' hgrow _)
    have hbel' : Below w.heap.size w w1 := (bthen hbx2 (below_new w2 (.cells #[.string y0] 9))).trans (below_grow (own_below hown (below_new _ _)) (by have := hbx2.size; simp; omega) hgrow)
    have hown2 : w1.ownsRow w.heap.size 9 1 v' (k + 1) (((l.take (k + 1)).map g).flatMap sV) := by
     rw [HTS.out]; exact hown'
    clear hown hbx2 hown' hgrow
    go_wp2
    go_roundw
    case rel => exact ⟨k + 1, by omega, by go_num, hown2, hbel'⟩
    case measure => simp [intOf]; omega
   ·obtain rfl : k = l.length := by omega
    have hout : OwR wr w.heap.size 9 1 sV u5 (l.map g) := by
     unfold OwR
     rw [List.take_length] at hown
     rw [List.length_map]; exact hown
    clear hown
    go_wp2
    go_ret
    exact ⟨⟨_, rfl, hout⟩, hbel⟩
end
section
set_option linter.unusedSimpArgs false
set_option linter.unusedVariables false
open Go.RowKit
def tgL (t : Tg) : List Int := [t.2.2.1, t.2.2.2.1, t.2.2.2.2.1, t.2.2.2.2.2]
def tgA (t : Tg) : Int := firstE [withinE t.1 0 255, withinE t.2.1 0 65535]
def tgB (t : Tg) : Int := firstE ((tgL t).map fun n => withinE n (-32768) 32767)
def tgE (t : Tg) : Int := if tgA t = 0 then tgB t else tgA t
theorem Tryz.enterTg1 (args : Array Value) (w : World) : Sem.run Tryz.prog (callFunc 202 args) w = .ok (.enter 202 args) w :=
 MuLone.run_callFunc_enter Tryz.func202 (by kernel_rfl) rfl args w
theorem Tryz.enterCkT (args : Array Value) (w : World) : Sem.run Tryz.prog (callFunc 163 args) w = .ok (.enter 163 args) w :=
 MuLone.run_callFunc_enter Tryz.func163 (by kernel_rfl) rfl args w
theorem Tryz.enterTln (args : Array Value) (w : World) : Sem.run Tryz.prog (callFunc 122 args) w = .ok (.enter 122 args) w :=
 MuLone.run_callFunc_enter Tryz.func122 (by kernel_rfl) rfl args w
theorem CheckTg1_any (n : Int) (w : World) : Calls Tryz.prog 202 #[.int .i64 n] w fun r w' => r = .returned (.int .i64 (withinE n (-32768) 32767)) ∧ w = w' := by
 go_enter Tryz.func202, Tryz.ntmps202
 go_wp2_with fail
 refine (withinP_any _ _ _ _).mono ?_
 rintro e w' ⟨rfl, rfl⟩
 go_wp2_with fail
 go_ret
 exact ⟨rfl, rfl⟩
set_option maxRecDepth 100000 in
set_option maxHeartbeats 2000000 in
theorem CheckTelegram_any (a b c d e f : Int) (w : World) :
 Calls Tryz.prog 163 #[.agg #[.int .i64 a, .int .i64 b, .int .i64 c, .int .i64 d, .int .i64 e, .int .i64 f]] w fun r w' => r = .returned (.int .i64 (tgE (a, b, c, d, e, f))) ∧ Below w.heap.size w w' := by
 have R1 := Lib.hid (fun W => withinP_any a 0 255 W)
 have R2 := Lib.hid (fun W => withinP_any b 0 65535 W)
 have hA : tgA (a, b, c, d, e, f) = firstE [withinE a 0 255, withinE b 0 65535] := rfl
 have hB1 : tgB (a, b, c, d, e, f) = firstE ([c, d, e, f].map fun n => withinE n (-32768) 32767) := rfl
 have he1 : tgA (a, b, c, d, e, f) = 0 → tgE (a, b, c, d, e, f) = tgB (a, b, c, d, e, f) := fun h => by unfold tgE; rw [if_pos h]
 have he2 : tgA (a, b, c, d, e, f) ≠ 0 → tgE (a, b, c, d, e, f) = tgA (a, b, c, d, e, f) := fun h => by unfold tgE; rw [if_neg h]
 obtain ⟨e0, he0⟩ : ∃ z, z = withinE a 0 255 := ⟨_, rfl⟩
 obtain ⟨e1, hee1⟩ : ∃ z, z = withinE b 0 65535 := ⟨_, rfl⟩
 rw [← he0] at R1 hA
 rw [← hee1] at R2 hA
 have RF := Lib.hid (fun (u : Value) (W : World) (h : Ints W u [e0, e1]) => firstP_any u [e0, e1] W (by simp [maxLen]) h)
 rw [← hA] at RF
 have RM := Lib.hid (fun (u : Value) (W : World) (h : Ints W u [c, d, e, f]) => mapIEp_any 202 #[] Tryz.enterTg1 (fun n => withinE n (-32768) 32767) u [c, d, e, f] W (by simp) (Rw.of_ints h) (fun x _ w1 _ => (CheckTg1_any x w1).mono fun r w2 ⟨hr, hw⟩ => ⟨hr, by rw [← hw]; exact Below.refl _ _⟩))
 have RG := Lib.hid (fun (u : Value) (W : World) (h : Ints W u ([c, d, e, f].map fun n => withinE n (-32768) 32767)) => firstP_any u _ W (by simp [maxLen]) h)
 rw [← hB1] at RG
 obtain ⟨L, hL⟩ : ∃ L, L = ([c, d, e, f].map fun n => withinE n (-32768) 32767) := ⟨_, rfl⟩
 rw [← hL] at RM RG
 obtain ⟨A, hAA⟩ : ∃ z, z = tgA (a, b, c, d, e, f) := ⟨_, rfl⟩
 obtain ⟨B, hBB⟩ : ∃ z, z = tgB (a, b, c, d, e, f) := ⟨_, rfl⟩
 obtain ⟨E, hEE⟩ : ∃ z, z = tgE (a, b, c, d, e, f) := ⟨_, rfl⟩
 rw [← hAA] at RF he1 he2
 rw [← hBB] at RG he1
 rw [← hEE] at he1 he2 ⊢
 have HE1 := Lib.hid he1
 have HE2 := Lib.hid he2
 clear hA hB1 he0 hee1 hL hAA hBB hEE he1 he2
 go_enter Tryz.func163, Tryz.ntmps163
 go_upto_region 1 with fail
 obtain ⟨W1, hW1⟩ : ∃ v, v = World.alloc w (Obj.cells #[.int .i64 a, .int .i64 b, .int .i64 c, .int .i64 d, .int .i64 e, .int .i64 f] 53) := ⟨_, rfl⟩
 have kW1 : Below w.heap.size w W1 := by rw [hW1]; exact below_new _ _
 have iW1 : Blk W1 (w.heap.size) 53 [.int .i64 a, .int .i64 b, .int .i64 c, .int .i64 d, .int .i64 e, .int .i64 f] := by rw [hW1]; exact Blk.new _ _ _
 have sW1 : W1.heap.size = w.heap.size + 1 := by rw [hW1]; simp
 rw [← hW1]
 clear hW1
 have i1 := iW1
 have hB := kW1
 have a0 := i1.cell (j := 0) (v := .int .i64 a) rfl
 have a1 := i1.cell (j := 1) (v := .int .i64 b) rfl
 clear iW1 kW1 sW1
 refine wp_region_E 99 (by kernel_rfl) ?_
 obtain ⟨wz, hwz⟩ : ∃ v, v = W1.drew := ⟨_, rfl⟩
 rw [← hwz]
 have hlz : Below W1.heap.size W1 wz := by rw [hwz]; exact (Below.refl _ _).drew
 have hbz := bthen hB hlz
 have a0 := cellb a0 hlz
 have a1 := cellb a1 hlz
 have i1 := i1.carry hlz
 clear hwz hlz
 refine zV 0 ⟨some 4, .fieldAddr 53 (.tmp 1) 0, 0, "telegram.go:35", #[], none⟩ rfl ?_
 simp only [Act.put, zS]
 refine zV 1 ⟨some 5, .load 3 (.tmp 4), 3, "telegram.go:35", #[⟨0, .data⟩], none⟩ rfl ?_ (hv := fun w hE => by have a0 := cellb a0 hE; have a1 := cellb a1 hE; (try dsimp only); go_simp; try rfl)
 simp only [Act.put, zS]
 refine zV 3 ⟨some 7, .fieldAddr 53 (.tmp 1) 1, 0, "telegram.go:35", #[], none⟩ rfl ?_
 simp only [Act.put, zS]
 refine zV 4 ⟨some 8, .load 3 (.tmp 7), 3, "telegram.go:35", #[⟨3, .data⟩], none⟩ rfl ?_ (hv := fun w hE => by have a0 := cellb a0 hE; have a1 := cellb a1 hE; (try dsimp only); go_simp; try rfl)
 simp only [Act.put, zS]
 refine zB 2 ⟨some 6, .call ⟨.value (.func 200), #[.tmp 5, .const (.int .i64 0), .const (.int .i64 255)], #[3, 3, 3]⟩, 27, "telegram.go:35", #[⟨1, .data⟩], none⟩ (fun w hE => ofPure (R1.out w)) rfl ?_
 simp only [Act.put, zS]
 refine zB 5 ⟨some 9, .call ⟨.value (.func 200), #[.tmp 8, .const (.int .i64 0), .const (.int .i64 65535)], #[3, 3, 3]⟩, 27, "telegram.go:35", #[⟨4, .data⟩, ⟨2, .chain⟩], none⟩ (fun w hE => ofPure (R2.out w)) rfl ?_
 simp only [Act.put, zS]
 refine wpAnyE_one (i := 6) (o := ⟨some 10, .buildSlice 150 2 #[(0, .tmp 6), (1, .tmp 9)], 150, "telegram.go:35", #[⟨2, .data⟩, ⟨5, .data⟩], none⟩) (by kernel_rfl) rfl (fun wy1 hE K hK => ?_)
 have a0 := cellb a0 hE
 have a1 := cellb a1 hE
 have i1 := i1.carry hE
 have hbz1 := bthen hbz hE
 clear hE
 go_simp
 obtain ⟨wx1, hwz⟩ : ∃ v, v = wy1.alloc (Obj.cells #[.int .i64 e0, .int .i64 e1] 27) := ⟨_, rfl⟩
 rw [← hwz]
 have hl : Below wy1.heap.size wy1 wx1 := by rw [hwz]; exact below_new _ _
 have hcz1 := bthen hbz1 hl
 have iN : BlkI wx1 wy1.heap.size 27 [e0, e1] := by rw [hwz]; exact Blk.new _ _ _
 generalize wy1.heap.size = G at iN ⊢
 have a0 := cellb a0 hl
 have a1 := cellb a1 hl
 have i1 := i1.carry hl
 clear hwz
 refine hK _ _ (fun _ => hl) ?_
 clear hK K hl
 try simp only [Act.put, zS]
 refine zB 7 ⟨some 11, .call ⟨.value (.func 161), #[.tmp 10], #[150]⟩, 27, "telegram.go:35", #[⟨6, .data⟩, ⟨5, .chain⟩], none⟩ (fun w hE => ofPure (RF.out _ w ((BlkI.ints iN rfl).carry hE))) rfl ?_
 simp only [Act.put, zS]
 refine zV 8 ⟨some 3, .assign (.tmp 11), 27, "telegram.go:35", #[⟨7, .data⟩, ⟨7, .chain⟩, ⟨0, .phase⟩, ⟨1, .phase⟩, ⟨2, .phase⟩, ⟨3, .phase⟩, ⟨4, .phase⟩, ⟨5, .phase⟩, ⟨6, .phase⟩, ⟨7, .phase⟩], none⟩ rfl ?_
 simp only [Act.put, zS]
 refine wpAnyE_done (by kernel_rfl) (fun wy2 hE => ?_) _
 have hbz2 := bthen hcz1 hE
 have a0 := cellb a0 hE
 have a1 := cellb a1 hE
 have i1 := i1.carry hE
 clear hE
 have hB := hbz2
 obtain ⟨W9, hW9⟩ : ∃ v, v = wy2 := ⟨_, rfl⟩
 rw [← hW9] at hB i1 ⊢
 clear hW9
 have hI : Ints W9 (.slice (some ⟨w.heap.size, 2, none⟩) 4 4) [c, d, e, f] := by
  refine ⟨some ⟨w.heap.size, 2, none⟩, 4, rfl, by simp, fun _ => ⟨w.heap.size, 2, rfl, fun j hj => ?_⟩⟩
  have hj4 : j = 0 ∨ j = 1 ∨ j = 2 ∨ j = 3 := by simp at hj; omega
  rcases hj4 with rfl | rfl | rfl | rfl
  ·exact i1.cell (j := 2) (v := .int .i64 c) rfl
  ·exact i1.cell (j := 3) (v := .int .i64 d) rfl
  ·exact i1.cell (j := 4) (v := .int .i64 e) rfl
  ·exact i1.cell (j := 5) (v := .int .i64 f) rfl
 by_cases h0 : A = 0
 ·subst h0
  obtain rfl := HE1.out (by trivial)
  clear HE1 HE2
  go_wp2_with fail
  refine (RM.out _ W9 hI).mono ?_
  rintro e w5 ⟨⟨u, rfl, hu⟩, hb5⟩
  go_wp2_with fail
  refine (RG.out u w5 (OwR.ints hu)).mono ?_
  rintro e w6 ⟨rfl, rfl⟩
  go_wp2
  go_ret
  exact ⟨rfl, bthen hB hb5⟩
 ·obtain rfl := HE2.out h0
  have b0 : (E != 0) = true := by rw [bne_iff_ne]; exact h0
  clear h0 HE1 HE2
  go_wp2
  go_ret
  exact ⟨rfl, hB⟩
def ctE (l : List Tg) : Int := if 1024 < l.length then 5 else firstE (l.map tgE)
set_option maxRecDepth 100000 in
set_option maxHeartbeats 1000000 in
theorem checkTelegrams_any (v : Value) (l : List Tg) (w : World) (hl : l.length ≤ 1000000) (hv : Rw 6 tV w v l) :
 Calls Tryz.prog 120 #[v] w fun r w' => r = .returned (.int .i64 (ctE l)) ∧ Below w.heap.size w w' := by
 have T0 := Lib.hid (mapTEp_any 163 #[] Tryz.enterCkT tgE v l w hl hv (fun x _ w1 _ => CheckTelegram_any x.1 x.2.1 x.2.2.1 x.2.2.2.1 x.2.2.2.2.1 x.2.2.2.2.2 w1))
 have TF := Lib.hid (fun (u : Value) (W : World) (h : Ints W u (l.map tgE)) => firstP_any u _ W (by simp [maxLen]; omega) h)
 have h1 : 1024 < l.length → ctE l = 5 := fun h => by unfold ctE; rw [if_pos h]
 have h2 : ¬ 1024 < l.length → ctE l = firstE (l.map tgE) := fun h => by unfold ctE; rw [if_neg h]
 obtain ⟨a, cp, rfl, hcp⟩ := hv.slice
 obtain ⟨N, hN⟩ : ∃ N, N = l.length := ⟨_, rfl⟩
 obtain ⟨E, hE⟩ : ∃ e, e = ctE l := ⟨_, rfl⟩
 rw [← hN] at T0 h1 h2 hl ⊢
 rw [← hE] at h1 h2 ⊢
 clear hv hcp hN hE
 by_cases h9 : 1024 < N
 ·obtain rfl := h1 h9
  have b9 : decide ((1024 : Int) < (N : Int)) = true := by simp; omega
  clear h1 h2 h9
  go_enter Tryz.func120, Tryz.ntmps120
  go_wp2
  go_ret
  exact ⟨rfl, Below.refl _ _⟩
 ·have hE := h2 h9
  rw [← hE] at TF
  have b9 : decide ((1024 : Int) < (N : Int)) = false := by simp; omega
  clear h1 h2 h9 hE
  go_enter Tryz.func120, Tryz.ntmps120
  go_wp2_with fail
  refine T0.out.mono ?_
  rintro e w2 ⟨⟨u, rfl, hu⟩, hb2⟩
  go_wp2_with fail
  refine (TF.out u w2 (OwR.ints hu)).mono ?_
  rintro e w3 ⟨rfl, rfl⟩
  go_wp2
  go_ret
  exact ⟨rfl, hb2⟩
end
end Go.Proofs.YtpmngcffkhbofaaGreatDoor

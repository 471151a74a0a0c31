/- Package valve: CheckLogs, Behind. -/
import Derived.Test.YtpmngcffkhbofaaGreatDoorVaN
namespace Go.Proofs.YtpmngcffkhbofaaGreatDoor
section
set_option linter.unusedSimpArgs false
set_option linter.unusedVariables false
open Go.RowKit
/-- a log: its controller, its train. -/
abbrev Lg : Type := Int × List P2
def okR (w : World) (r : LgV) (t : Lg) : Prop := r.1 = t.1 ∧ Prs w (.slice r.2.1 r.2.2.1 r.2.2.2) t.2
/-- the slice v holds the logs ls; as they lie: rs. -/
structure Lgs (w : World) (v : Value) (rs : List LgV) (ls : List Lg) : Prop where
 rw : Rw 2 lV w v rs
 len : rs.length = ls.length
 ok : ∀ (k : Nat) (r : LgV) (t : Lg), rs[k]? = some r → ls[k]? = some t → okR w r t
theorem Lgs.carry {w w' : World} {v : Value} {rs : List LgV} {ls : List Lg} (h : Lgs w v rs ls) (hb : Below w.heap.size w w') : Lgs w' v rs ls :=
 ⟨h.rw.carry hb, h.len, fun k r t h1 h2 => ⟨(h.ok k r t h1 h2).1, (h.ok k r t h1 h2).2.carry hb⟩⟩
theorem Lgs.any {w : World} {v : Value} {rs : List LgV} {ls : List Lg} (h : Lgs w v rs ls) (k : Nat) (c : Int) : ((rs.take k).any fun r => r.1 == c) = ((ls.take k).any fun t => t.1 == c) := by
 have e : rs.map (·.1) = ls.map (·.1) := by
  apply List.ext_getElem?
  intro j
  rw [List.getElem?_map, List.getElem?_map]
  by_cases hj : j < rs.length
  ·obtain ⟨r, hr⟩ : ∃ r, rs[j]? = some r := ⟨_, List.getElem?_eq_getElem hj⟩
   obtain ⟨t, ht⟩ : ∃ t, ls[j]? = some t := ⟨_, List.getElem?_eq_getElem (by rw [← h.len]; exact hj)⟩
   rw [hr, ht]
   exact congrArg some (h.ok j r t hr ht).1
  ·rw [List.getElem?_eq_none (by omega), List.getElem?_eq_none (by rw [← h.len]; omega)]; rfl
 have h1 : ((rs.take k).any fun r => r.1 == c) = ((rs.map (·.1)).take k).any fun x => x == c := by rw [← List.map_take, List.any_map]; rfl
 have h2 : ((ls.take k).any fun r => r.1 == c) = ((ls.map (·.1)).take k).any fun x => x == c := by rw [← List.map_take, List.any_map]; rfl
 rw [h1, h2, e]
def logsG (ls : List Lg) (k : Nat) (t : Lg) : Int := firstE [logE t.1 t.2, whenE ((ls.take k).any fun o => o.1 == t.1) 9]
def logsE (ls : List Lg) : Int := if 6 < ls.length then 5 else eachE (logsG ls) ls
theorem Tryz.enterCL1 (args : Array Value) (w : World) : Sem.run Tryz.prog (callFunc 133 args) w = .ok (.enter 133 args) w :=
 MuLone.run_callFunc_enter Tryz.func133 (by kernel_rfl) rfl args w
theorem Tryz.enterCL11 (args : Array Value) (w : World) : Sem.run Tryz.prog (callFunc 135 args) w = .ok (.enter 135 args) w :=
 MuLone.run_callFunc_enter Tryz.func135 (by kernel_rfl) rfl args w
theorem CheckLogs11_any (c d : Int) (a : Option Addr) (n cap : Nat) (B : Nat) (w : World) (hB : w.cell? ⟨B, 0, none⟩ = some (.int .i64 d)) :
 Calls Tryz.prog 135 #[.agg #[.int .i64 c, .slice a n cap], .pointer (some ⟨B, 0, none⟩)] w fun r w' => r = .returned (.bool (c == d)) ∧ Below w.heap.size w w' := by
 have k1 := below_new w (.cells #[.int .i64 c, .slice a n cap] 32)
 have hB2 := cellb hB k1
 go_enter Tryz.func135, Tryz.ntmps135
 go_wp2
 go_ret
 exact ⟨rfl, k1⟩
set_option maxRecDepth 100000 in
set_option maxHeartbeats 2000000 in
theorem CheckLogs1_any (k : Nat) (c : Int) (a : Option Addr) (n cap : Nat) (t : List P2) (ra : Option Addr) (N rcap : Nat) (rs : List LgV) (B : Nat) (w : World) (ht : t.length ≤ 1000000) (hN : N = rs.length) (hN9 : N ≤ 1000) (hk : k < N) (hcap : N ≤ rcap) (hv : Prs w (.slice a n cap) t)
 (hr : Rw 2 lV w (.slice ra N rcap) rs) (hB : w.cell? ⟨B, 0, none⟩ = some (.slice ra N rcap)) :
 Calls Tryz.prog 133 #[.int .i64 k, .agg #[.int .i64 c, .slice a n cap], .pointer (some ⟨B, 0, none⟩)] w fun r w' => r = .returned (.int .i64 (firstE [logE c t, whenE ((rs.take k).any fun o => o.1 == c) 9])) ∧ Below w.heap.size w w' := by
 have T0 := Lib.hid (fun W (h : Prs W (.slice a n cap) t) => logCheck_any c a n cap t W (by omega) h)
 have TX := Lib.hid (fun (D : Nat) (W : World) (hd : W.cell? ⟨D, 0, none⟩ = some (.int .i64 c)) (h : Rw 2 lV W (.slice ra k rcap) (rs.take k)) => ContainsL_any 135 #[.pointer (some ⟨D, 0, none⟩)] Tryz.enterCL11 (fun o => o.1 == c) (.slice ra k rcap) (rs.take k) W (by rw [List.length_take]; omega) h (fun x _ w1 hE => CheckLogs11_any x.1 c x.2.1 x.2.2.1 x.2.2.2 D w1 (cellb hd hE)))
 obtain ⟨A, hA⟩ : ∃ A, A = (rs.take k).any fun o => o.1 == c := ⟨_, rfl⟩
 rw [← hA] at TX ⊢
 obtain ⟨e0, he0⟩ : ∃ e, e = logE c t := ⟨_, rfl⟩
 rw [← he0] at T0 ⊢
 have T1 := Lib.hid (fun W => when_any A 9 W)
 obtain ⟨e1, he1⟩ : ∃ e, e = whenE A 9 := ⟨_, rfl⟩
 rw [← he1] at T1 ⊢
 have TF := Lib.hid (fun W => first2 e0 e1 27 W)
 have htk := hr.takeA hN k (by omega)
 have hk1 : (k : Int) ≤ (N : Int) := by omega
 have hk2 : (N : Int) ≤ (rcap : Int) := by omega
 have hk3 : (k : Int) ≤ (rcap : Int) := by omega
 clear hA he0 he1 hr ht hN
 go_enter Tryz.func133, Tryz.ntmps133
 go_upto_region 1 with fail
 obtain ⟨W1, hW1⟩ : ∃ v, v = World.alloc w (Obj.cells #[.int .i64 c, .slice a n cap] 32) := ⟨_, rfl⟩
 have kW1 : Below w.heap.size w W1 := by rw [hW1]; exact below_new _ _
 have iW1 : Blk W1 (w.heap.size) 32 [.int .i64 c, .slice a n cap] := by rw [hW1]; exact Blk.new _ _ _
 have sW1 : W1.heap.size = w.heap.size + 1 := by rw [hW1]; simp
 rw [← hW1]
 clear hW1
 have d0 := iW1.cell (j := 0) (v := .int .i64 c) rfl
 have d1 := iW1.cell (j := 1) (v := .slice a n cap) rfl
 have hB1 := cellb hB kW1
 have hbel := kW1
 replace hv := hv.carry kW1
 replace htk := htk.carry kW1
 clear iW1 sW1 kW1 hB
 go_wp2_with fail
 refine (TX.out _ W1 d0 htk).mono ?_
 rintro e w2 ⟨rfl, hb2⟩
 have d0 := cellb d0 hb2
 have d1 := cellb d1 hb2
 replace hv := hv.carry hb2
 replace hbel := bthen hbel hb2
 clear hb2 htk hB1 TX
 go_wp2_with fail
 refine (T0.out w2 hv).mono ?_
 rintro e w3 ⟨rfl, hb3⟩
 replace hbel := bthen hbel hb3
 clear d0 d1 hv hb3
 go_wp2_with fail
 refine (T1.out w3).mono ?_
 rintro e w3' ⟨rfl, rfl⟩
 go_wp2_with fail
 refine (TF.out w3).mono ?_
 rintro e w4 ⟨rfl, hw4⟩
 have hb4 : Below w.heap.size w w4 := by rw [← hw4]; exact bthen hbel (below_new _ _)
 clear hw4
 go_wp2
 go_ret
 exact ⟨rfl, hb4⟩
set_option maxRecDepth 100000 in
set_option maxHeartbeats 2000000 in
theorem CheckLogs_any (v : Value) (rs : List LgV) (ls : List Lg) (w : World) (hl : ls.length ≤ 1000) (hlt : ∀ t ∈ ls, t.2.length ≤ 1000000) (hv : Lgs w v rs ls) :
 Calls Tryz.prog 66 #[v] w fun r w' => r = .returned (.int .i64 (logsE ls)) ∧ Below w.heap.size w w' := by
 have hlen := hv.len
 obtain ⟨a, cp, rfl, hcp⟩ := hv.rw.slice
 obtain ⟨N, hN⟩ : ∃ N, N = rs.length := ⟨_, rfl⟩
 have HV := Lib.hid hv
 rw [← hN] at hcp HV ⊢
 have HN := Lib.hid hN
 by_cases h9 : 6 < N
 ·have b9 : decide ((6 : Int) < (N : Int)) = true := by simp; omega
  have he : logsE ls = 5 := by rw [logsE, if_pos (by omega)]
  rw [he]
  clear he hv hN hlen
  go_enter Tryz.func66, Tryz.ntmps66
  go_upto_region 1 with fail
  obtain ⟨W1, hW1⟩ : ∃ v, v = World.alloc w (Obj.cells #[.slice a N cp] 68) := ⟨_, rfl⟩
  have kW1 : Below w.heap.size w W1 := by rw [hW1]; exact below_new _ _
  have iW1 : Blk W1 (w.heap.size) 68 [.slice a N cp] := by rw [hW1]; exact Blk.new _ _ _
  have sW1 : W1.heap.size = w.heap.size + 1 := by rw [hW1]; simp
  rw [← hW1]
  clear hW1
  have d0 := iW1.cell (j := 0) (v := .slice a N cp) rfl
  clear sW1 iW1
  go_wp2
  go_ret
  exact ⟨rfl, kW1⟩
 ·have b9 : decide ((6 : Int) < (N : Int)) = false := by simp; omega
  have he : logsE ls = eachE (fun k (_ : LgV) => logsG ls k (ls[k]?.getD (0, []))) rs := by
   rw [logsE, if_neg (by omega)]
   unfold eachE
   congr 1
   apply List.ext_getElem?
   intro j
   rw [List.getElem?_mapIdx, List.getElem?_mapIdx]
   by_cases hj : j < rs.length
   ·rw [List.getElem?_eq_getElem hj, List.getElem?_eq_getElem (by omega)]; rfl
   ·rw [List.getElem?_eq_none (by omega), List.getElem?_eq_none (by omega)]; rfl
  rw [he]
  have TE := Lib.hid (fun (W : World) (B : Nat) (hW : Below w.heap.size w W) (hb : W.cell? ⟨B, 0, none⟩ = some (.slice a N cp)) => eachL_any 133 #[.pointer (some ⟨B, 0, none⟩)] Tryz.enterCL1 (fun k (_ : LgV) => logsG ls k (ls[k]?.getD (0, []))) (fun _ _ => True) W.heap.size (.slice a N cp) rs W (by omega) (Nat.le_refl _) (fun w1 h1 => (HV.out.rw.carry hW).carry h1) trivial (fun _ _ _ _ _ => trivial) (fun k x hx w1 h1 _ => by
   have hkl := (List.getElem?_eq_some_iff.1 hx).1
   obtain ⟨t, ht⟩ : ∃ t, ls[k]? = some t := ⟨_, List.getElem?_eq_getElem (by omega)⟩
   have hvw := (HV.out.carry hW).carry h1
   obtain ⟨e1, e2⟩ := hvw.ok k x t hx ht
   have := CheckLogs1_any k x.1 x.2.1 x.2.2.1 x.2.2.2 t.2 a N cp rs B w1 (hlt t (List.mem_of_getElem? ht)) HN.out (by omega) (by omega) hcp e2 hvw.rw (cellb hb h1)
   refine this.mono fun r w2 ⟨hr, hb2⟩ => ⟨?_, hb2.mono h1.size, fun _ => trivial⟩
   rw [hr, ht]
   unfold logsG
   rw [hvw.any k x.1, e1]; rfl))
  obtain ⟨E, hE⟩ : ∃ E, E = eachE (fun k (_ : LgV) => logsG ls k (ls[k]?.getD (0, []))) rs := ⟨_, rfl⟩
  rw [← hE] at TE ⊢
  clear he hE hv hN hlen h9
  go_enter Tryz.func66, Tryz.ntmps66
  go_upto_region 1 with fail
  obtain ⟨W1, hW1⟩ : ∃ v, v = World.alloc w (Obj.cells #[.slice a N cp] 68) := ⟨_, rfl⟩
  have kW1 : Below w.heap.size w W1 := by rw [hW1]; exact below_new _ _
  have iW1 : Blk W1 (w.heap.size) 68 [.slice a N cp] := by rw [hW1]; exact Blk.new _ _ _
  have sW1 : W1.heap.size = w.heap.size + 1 := by rw [hW1]; simp
  rw [← hW1]
  clear hW1
  have d0 := iW1.cell (j := 0) (v := .slice a N cp) rfl
  clear sW1 iW1
  go_wp2_with fail
  refine (TE.out W1 _ kW1 d0).mono ?_
  rintro e w2 ⟨rfl, hb2⟩
  go_wp2
  go_ret
  exact ⟨rfl, bthen kW1 hb2⟩
end
section
set_option linter.unusedSimpArgs false
set_option linter.unusedVariables false
open Go.RowKit
def maxN (l : List Int) : Nat → Int
 | 0 => l[0]?.getD 0
 | k + 1 => if maxN l k < l[k + 1]?.getD 0 then l[k + 1]?.getD 0 else maxN l k
def maxW (l : List Int) : Int := maxN l (l.length - 1)
set_option maxHeartbeats 1000000 in
theorem Max_any (v : Value) (l : List Int) (w : World) (hv : Ints w v l) (hl : l.length ≤ 1000000) (h0 : 0 < l.length) :
 Calls Tryz.prog 67 #[v] w fun e w' => e = .returned (.int .i64 (maxW l)) ∧ w = w' := by
 obtain ⟨n, hn⟩ : ∃ n, n = l.length := ⟨_, rfl⟩
 obtain ⟨b, off, cp, rfl, hcs⟩ := hv.head h0
 have c0 := hcs 0 h0
 rw [Nat.add_zero] at c0
 have hm0 : l[0]?.getD 0 = maxN l 0 := rfl
 rw [hm0] at c0
 have HR := Lib.hid (show maxW l = maxN l (n - 1) by rw [hn]; rfl)
 rw [← hn] at hcs h0 hl ⊢
 generalize maxW l = R at HR ⊢
 have HC := Lib.hid hcs
 have a1 : ¬ ((n : Int) < 1) := by omega
 have a2 : (0 : Int) < (n : Int) := by omega
 clear hcs hv hn hm0
 go_enter Tryz.func67, Tryz.ntmps67
 go_wp2_with fail
 clear c0
 go_loop [3, 4] (fun m i => ∃ k : Nat, 1 ≤ k ∧ k ≤ n ∧ i = .int .i64 k ∧ m = .int .i64 (maxN l (k - 1))) (fun _ i => n - (intOf i).toNat)
 case atStart => exact ⟨1, by omega, by omega, rfl, rfl⟩
 case round =>
  obtain ⟨k, hk1, hk, rfl, rfl⟩ := hrel
  by_cases hlt : k < n
  ·have c0 := HC.out k hlt
   have hs : maxN l k = if maxN l (k - 1) < l[k]?.getD 0 then l[k]?.getD 0 else maxN l (k - 1) := by
    obtain ⟨j, rfl⟩ : ∃ j, k = j + 1 := ⟨k - 1, by omega⟩
    rfl
   generalize l[k]?.getD 0 = x at c0 hs
   generalize maxN l (k - 1) = m at hs ⊢
   have HS := Lib.hid hs
   clear hs
   have d1 : (k : Int) < n := by omega
   by_cases hc : m < x
   all_goals
    go_wp2
    go_round
    case rel => exact ⟨k + 1, by omega, by omega, by go_num, by rw [Nat.add_sub_cancel, HS.out]; simp [hc]; try omega⟩
    case measure => simp [intOf]; omega
  ·obtain rfl : k = n := by omega
   go_wp2
   go_ret
   exact ⟨ret_int HR.out.symm, rfl⟩
theorem nV_flat (l : List Int) : l.flatMap nV = l.map (Value.int .i64) := by
 induction l with
 | nil => rfl
 | cons x l ih => rw [List.flatMap_cons, ih]; rfl
/-- the last tick of a train, or -1. -/
def lastT (t : List P2) : Int := if t.length = 0 then -1 else (t[t.length - 1]?.getD (0, 0)).1
theorem Prs.uniq {w : World} {v : Value} {t t' : List P2} (h : Prs w v t) (h' : Prs w v t') : t = t' := by
 obtain ⟨a, cap, rfl, _, h⟩ := h
 have hl := h'.len
 apply List.ext_getElem?
 intro j
 by_cases hj : j < t.length
 ·obtain ⟨x, hx⟩ : ∃ x, t[j]? = some x := ⟨_, List.getElem?_eq_getElem hj⟩
  obtain ⟨y, hy⟩ : ∃ y, t'[j]? = some y := ⟨_, List.getElem?_eq_getElem (by omega)⟩
  obtain ⟨b, off, rfl, h1⟩ := h (by omega)
  obtain ⟨b', off', cap', he, h2⟩ := h'.head (by omega)
  simp only [Value.slice.injEq, Option.some.injEq, Addr.mk.injEq] at he
  obtain ⟨⟨rfl, rfl, -⟩, -, -⟩ := he
  obtain ⟨c0, c1⟩ := rw2 (h1 j x hx) (show pV x = [.int .i64 x.1, .int .i64 x.2] from rfl)
  obtain ⟨d0, d1⟩ := rw2 (h2 j y hy) (show pV y = [.int .i64 y.1, .int .i64 y.2] from rfl)
  rw [c0] at d0
  rw [c1] at d1
  simp at d0 d1
  rw [hx, hy]
  exact congrArg some (Prod.ext d0 d1)
 ·rw [List.getElem?_eq_none (by omega), List.getElem?_eq_none (by omega)]
theorem Tryz.enterLast (args : Array Value) (w : World) : Sem.run Tryz.prog (callFunc 69 args) w = .ok (.enter 69 args) w :=
 MuLone.run_callFunc_enter Tryz.func69 (by kernel_rfl) rfl args w
set_option maxRecDepth 100000 in
set_option maxHeartbeats 1000000 in
theorem last_any (c : Int) (a : Option Addr) (n cap : Nat) (t : List P2) (w : World) (ht : t.length ≤ 1000000) (hv : Prs w (.slice a n cap) t) :
 Calls Tryz.prog 69 #[.agg #[.int .i64 c, .slice a n cap]] w fun r w' => r = .returned (.int .i64 (lastT t)) ∧ Below w.heap.size w w' := by
 have hn := hv.len
 rcases Nat.eq_zero_or_pos n with h0 | h0
 ·have hL : lastT t = -1 := by unfold lastT; rw [if_pos (by omega)]
  rw [hL]
  subst h0
  clear hL hv hn ht
  go_enter Tryz.func69, Tryz.ntmps69
  go_upto_region 1 with fail
  obtain ⟨W1, hW1⟩ : ∃ v, v = World.alloc w (Obj.cells #[.int .i64 c, .slice a 0 cap] 32) := ⟨_, rfl⟩
  have kW1 : Below w.heap.size w W1 := by rw [hW1]; exact below_new _ _
  have iW1 : Blk W1 (w.heap.size) 32 [.int .i64 c, .slice a 0 cap] := by rw [hW1]; exact Blk.new _ _ _
  have sW1 : W1.heap.size = w.heap.size + 1 := by rw [hW1]; simp
  rw [← hW1]
  clear hW1
  have d1 := iW1.cell (j := 1) (v := .slice a 0 cap) rfl
  clear iW1 sW1
  go_wp2
  go_ret
  exact ⟨rfl, kW1⟩
 ·have hL : lastT t = (t[n - 1]?.getD (0, 0)).1 := by unfold lastT; rw [if_neg (by omega), hn]
  obtain ⟨x, hx⟩ : ∃ x, t[n - 1]? = some x := ⟨_, List.getElem?_eq_getElem (by omega)⟩
  rw [hL, hx, Option.getD_some]
  obtain ⟨b, off, cp, he, hcs⟩ := hv.head (by omega)
  simp only [Value.slice.injEq] at he
  obtain ⟨rfl, -, rfl⟩ := he
  obtain ⟨c0, -⟩ := rw2 (hcs (n - 1) x hx) (show pV x = [.int .i64 x.1, .int .i64 x.2] from rfl)
  obtain ⟨x0, hx0⟩ : ∃ y, y = x.1 := ⟨_, rfl⟩
  rw [← hx0] at c0 ⊢
  have hn9 : n ≤ 1000000 := by omega
  clear hcs hL hx hv hn ht hx0
  have b0 : ((n : Int) == 0) = false := by rw [beq_eq_false_iff_ne]; omega
  have e1 : IntKind.i64.wrap ((n : Int) - 1) = (n : Int) - 1 := IntWalk.i64_in _ (by omega)
  have e2 : (0 : Int) ≤ (n : Int) - 1 := by omega
  have e3 : ((n : Int) - 1).toNat = n - 1 := by omega
  have e4 : (n : Int) - 1 < (n : Int) := by omega
  have e5 : (1 : Int) ≤ (n : Int) := by omega
  go_enter Tryz.func69, Tryz.ntmps69
  go_upto_region 1 with fail
  obtain ⟨W1, hW1⟩ : ∃ v, v = World.alloc w (Obj.cells #[.int .i64 c, .slice (some ⟨b, off, none⟩) n cap] 32) := ⟨_, rfl⟩
  have kW1 : Below w.heap.size w W1 := by rw [hW1]; exact below_new _ _
  have iW1 : Blk W1 (w.heap.size) 32 [.int .i64 c, .slice (some ⟨b, off, none⟩) n cap] := by rw [hW1]; exact Blk.new _ _ _
  have sW1 : W1.heap.size = w.heap.size + 1 := by rw [hW1]; simp
  rw [← hW1]
  clear hW1
  have d1 := iW1.cell (j := 1) (v := .slice (some ⟨b, off, none⟩) n cap) rfl
  have c0 := cellb c0 kW1
  clear iW1 sW1
  go_wp2
  go_ret
  exact ⟨rfl, kW1⟩
def mostT (ls : List Lg) : Int := maxW (ls.map (fun t => lastT t.2) ++ [-1])
/-- the logs among the first k that are behind. -/
def behK (ls : List Lg) (lim : Int) (k : Nat) : List Int := ((List.range k).filter fun i => decide (lim < mostT ls - lastT (ls[i]?.getD (0, [])).2)).map fun (i : Nat) => (i : Int)
def behE (ls : List Lg) (lim : Int) : Int := firstE [logsE ls, withinE lim 0 100000]
def behR (ls : List Lg) (lim : Int) : List Int := if behE ls lim = 0 then behK ls lim ls.length else []
theorem behK_succ (ls : List Lg) (lim : Int) (k : Nat) : behK ls lim (k + 1) = behK ls lim k ++ (if lim < mostT ls - lastT (ls[k]?.getD (0, [])).2 then [(k : Int)] else []) := by
 unfold behK
 rw [List.range_succ, List.filter_append, List.map_append]
 congr 1
 by_cases h : lim < mostT ls - lastT (ls[k]?.getD (0, [])).2
 ·simp [h]
 ·simp [h]
theorem behK_len (ls : List Lg) (lim : Int) (k : Nat) : (behK ls lim k).length ≤ k := by
 unfold behK
 rw [List.length_map]
 exact Nat.le_trans (List.length_filter_le _ _) (by simp)
/-- all logs are valid. -/
structure LgOk (ls : List Lg) : Prop where
 len : ls.length ≤ 6
 rng : ∀ (k : Nat) (t : Lg), ls[k]? = some t → (0 ≤ t.1 ∧ t.1 ≤ 255) ∧ TrOk t.2
 one : ∀ (k : Nat) (t : Lg), ls[k]? = some t → ((ls.take k).any fun o => o.1 == t.1) = false
theorem logsE_ok {ls : List Lg} (h : logsE ls = 0) : LgOk ls := by
 unfold logsE at h
 split at h
 ·simp at h
 ·rename_i h9
  refine ⟨by omega, fun k t ht => ?_, fun k t ht => ?_⟩
  ·have := eachE_zero h k t ht
   unfold logsG logE at this
   rw [firstE_cons0, firstE_cons0, firstE_cons0, withinE_zero] at this
   exact ⟨this.1.1, trainE_ok this.1.2.1⟩
  ·have := eachE_zero h k t ht
   unfold logsG at this
   rw [firstE_cons0, firstE_cons0, whenE_zero (by decide)] at this
   exact this.2.1
theorem lastT_rng {t : List P2} (h : TrOk t) : -1 ≤ lastT t ∧ lastT t ≤ 100000 := by
 unfold lastT
 split
 ·omega
 ·have := (h.at (t.length - 1)).1
  omega
theorem maxN_mem (l : List Int) (P : Int → Prop) (h : ∀ x ∈ l, P x) : ∀ k, k < l.length → P (maxN l k)
 | 0, hk => by
   unfold maxN
   rw [List.getElem?_eq_getElem hk]
   exact h _ (List.getElem_mem _)
 | k + 1, hk => by
   unfold maxN
   split
   ·rw [List.getElem?_eq_getElem hk]
    exact h _ (List.getElem_mem _)
   ·exact maxN_mem l P h k (by omega)
theorem mostT_rng {ls : List Lg} (h : LgOk ls) : -1 ≤ mostT ls ∧ mostT ls ≤ 100000 := by
 unfold mostT maxW
 refine maxN_mem _ (fun x => -1 ≤ x ∧ x ≤ 100000) (fun x hx => ?_) _ (by simp)
 rcases List.mem_append.1 hx with hx | hx
 ·obtain ⟨t, ht, rfl⟩ := List.mem_map.1 hx
  obtain ⟨k, hk⟩ := List.getElem?_of_mem ht
  exact lastT_rng (h.rng k t hk).2
 ·rw [List.mem_singleton] at hx; omega
set_option maxRecDepth 100000 in
set_option maxHeartbeats 4000000 in
theorem Behind_any (v : Value) (rs : List LgV) (ls : List Lg) (lim : Int) (w : World) (hl : ls.length ≤ 1000) (hlt : ∀ t ∈ ls, t.2.length ≤ 1000000) (hv : Lgs w v rs ls) :
 Calls Tryz.prog 26 #[v, .int .i64 lim] w fun r w' => (∃ u, r = .returned (.tuple #[u, .int .i64 (behE ls lim)]) ∧ Ints w' u (behR ls lim)) ∧ Below w.heap.size w w' := by
 have TC := Lib.hid (fun W (h : Lgs W v rs ls) => CheckLogs_any v rs ls W hl hlt h)
 have TW := Lib.hid (fun W => within_any lim 0 100000 W)
 have hE : behE ls lim = firstE [logsE ls, withinE lim 0 100000] := rfl
 have hok : behE ls lim = 0 → LgOk ls := fun h => by rw [hE, firstE_cons0] at h; exact logsE_ok h.1
 have hr0 : behE ls lim ≠ 0 → behR ls lim = [] := fun h => by unfold behR; rw [if_neg h]
 have hr1 : behE ls lim = 0 → behR ls lim = behK ls lim ls.length := fun h => by unfold behR; rw [if_pos h]
 have HLT := Lib.hid hlt
 have HLEN := Lib.hid hv.len
 obtain ⟨e0, he0⟩ : ∃ e, e = logsE ls := ⟨_, rfl⟩
 obtain ⟨e1, he1⟩ : ∃ e, e = withinE lim 0 100000 := ⟨_, rfl⟩
 rw [← he0] at TC hE
 rw [← he1] at TW hE
 have TF := Lib.hid (fun W => first2 e0 e1 27 W)
 rw [← hE] at TF
 obtain ⟨E, hEE⟩ : ∃ E, E = behE ls lim := ⟨_, rfl⟩
 obtain ⟨R, hR⟩ : ∃ R, R = behR ls lim := ⟨_, rfl⟩
 rw [← hEE] at TF hok hr0 hr1 ⊢
 rw [← hR] at hr0 hr1 ⊢
 have HOK := Lib.hid hok
 have HR0 := Lib.hid hr0
 have HR1 := Lib.hid hr1
 clear hE he0 he1 hEE hR hok hr0 hr1 hlt
 go_enter Tryz.func26, Tryz.ntmps26
 go_wp2_with fail
 refine (TC.out w hv).mono ?_
 rintro e w1 ⟨rfl, hb1⟩
 go_wp2_with fail
 refine (TW.out w1).mono ?_
 rintro e w1' ⟨rfl, rfl⟩
 go_wp2_with fail
 refine (TF.out w1).mono ?_
 rintro e w2 ⟨rfl, hw2⟩
 have hB : Below w.heap.size w w2 := by rw [← hw2]; exact bthen hb1 (below_new _ _)
 clear hw2 hb1 TC TW TF
 by_cases h0 : E = 0
 ·subst h0
  have hok := HOK.out (by trivial)
  have hR1 := HR1.out (by trivial)
  have hmr := mostT_rng hok
  obtain ⟨g, hg⟩ : ∃ g : LgV → Int, ∀ r t, Prs w2 (.slice r.2.1 r.2.2.1 r.2.2.2) t → g r = lastT t := by
   have : ∀ r : LgV, ∃ x : Int, ∀ t, Prs w2 (.slice r.2.1 r.2.2.1 r.2.2.2) t → x = lastT t := fun r => by
    by_cases h : ∃ t, Prs w2 (.slice r.2.1 r.2.2.1 r.2.2.2) t
    ·obtain ⟨t, ht⟩ := h
     exact ⟨lastT t, fun t' ht' => by rw [ht.uniq ht']⟩
    ·exact ⟨0, fun t ht => absurd ⟨t, ht⟩ h⟩
   exact Classical.axiomOfChoice this
  have hv2 := hv.carry hB
  have hmap : rs.map g = ls.map fun t => lastT t.2 := by
   apply List.ext_getElem?
   intro j
   rw [List.getElem?_map, List.getElem?_map]
   by_cases hj : j < rs.length
   ·obtain ⟨r, hr⟩ : ∃ r, rs[j]? = some r := ⟨_, List.getElem?_eq_getElem hj⟩
    obtain ⟨t, ht⟩ : ∃ t, ls[j]? = some t := ⟨_, List.getElem?_eq_getElem (by rw [← HLEN.out]; exact hj)⟩
    rw [hr, ht]
    exact congrArg some (hg r t.2 (hv2.ok j r t hr ht).2)
   ·rw [List.getElem?_eq_none (by omega), List.getElem?_eq_none (by rw [← HLEN.out]; omega)]; rfl
  have TM := Lib.hid (mapLI_any 69 #[] Tryz.enterLast g v rs w2 (by rw [HLEN.out]; omega) hv2.rw (fun x hx w1 hE => by
   obtain ⟨j, hj⟩ := List.getElem?_of_mem hx
   obtain ⟨t, ht⟩ : ∃ t, ls[j]? = some t := ⟨_, List.getElem?_eq_getElem (by rw [← HLEN.out]; exact (List.getElem?_eq_some_iff.1 hj).1)⟩
   have hp := (hv2.ok j x t hj ht).2
   rw [hg x t.2 hp]
   exact last_any x.1 x.2.1 x.2.2.1 x.2.2.2 t.2 w1 (HLT.out t (List.mem_of_getElem? ht)) (hp.carry hE)))
  rw [hmap] at TM
  have HV := Lib.hid hv
  obtain ⟨a, cp, rfl, hcp⟩ := hv.rw.slice
  obtain ⟨N, hN⟩ : ∃ N, N = rs.length := ⟨_, rfl⟩
  rw [← hN] at hcp HV TM ⊢
  have HN := Lib.hid hN
  have hN9 : N ≤ 6 := by have := hok.len; have := HLEN.out; omega
  obtain ⟨i0, hi, hz0, hz1, hz2⟩ := info_parts Tryz.infZint
  have HKO := Lib.hid hok
  have HR9 := Lib.hid hR1
  clear hg hmap hv hv2 hok hN HOK HR0 HR1 hR1
  go_wp2_with fail
  refine TM.out.mono ?_
  rintro e w3 ⟨⟨u, rfl, hu⟩, hb3⟩
  have hul : (ls.map fun t => lastT t.2).length = N := by rw [List.length_map, HN.out, HLEN.out]
  have huo : w3.ownsRow w2.heap.size 3 1 u N ((ls.map fun t => lastT t.2).map (Value.int .i64)) := by
   have := hu
   unfold OwR at this
   rw [hul] at this
   rw [nV_flat] at this
   exact this
  obtain ⟨ua, uc, rfl⟩ := own_slice huo
  have hb3s := hb3.size
  have hB3 := bthen hB hb3
  clear hu TM hul
  go_wp2_with (at_builtin; refine wpList_append_own _ rfl _ _ 63 rfl w2.heap.size 3 i0 (.int .i64 0) 1 8 Tryz.undZint hi hz0 hz1 hz2 rfl (by decide) (.slice ua N uc) N _ rfl (own_below huo (below_new _ _)) ⟨w3.heap.size, 0, none⟩ 1 1 [.int .i64 (-1)] rfl rfl (cell_one_new _ _ _) (by simp [Value.oneCell']) (by unfold maxLen; omega) (by omega) (by simp; omega) ?_; intro v4 w4 hown4 hgrow4 _)
  have hb4 : Below w2.heap.size w2 w4 := (bthen hb3 (below_new w3 (.cells #[.int .i64 (-1)] 3))).trans (below_grow (own_below huo (below_new _ _)) (by simp; omega) hgrow4)
  have hI4 : Ints w4 v4 (ls.map (fun t => lastT t.2) ++ [-1]) := Ints.of_own (base := w2.heap.size) (e := 3) (n := N + 1) (by rw [List.map_append]; exact hown4) (by rw [List.length_append, List.length_map, HN.out, HLEN.out]; rfl)
  have TMx := Lib.hid (Max_any v4 (ls.map (fun t => lastT t.2) ++ [-1]) w4 hI4 (by rw [List.length_append, List.length_map]; simp; omega) (by simp))
  rw [show maxW (ls.map (fun t => lastT t.2) ++ [-1]) = mostT ls from rfl] at TMx
  have hB4 := bthen hB hb4
  obtain ⟨X, hX⟩ : ∃ X, X = mostT ls := ⟨_, rfl⟩
  rw [← hX] at TMx hmr
  have HX := Lib.hid hX
  clear huo hown4 hgrow4 hI4 hb3s hB3 hb3 hb4 hX
  refine TMx.out.mono ?_
  rintro e w5 ⟨rfl, rfl⟩
  clear TMx
  go_wp2_with fail
  go_loopw [8, 27] (fun u i wr => ∃ k : Nat, k ≤ N ∧ i = .int .i64 k ∧ wr.ownsRow w4.heap.size 3 1 u (behK ls lim k).length ((behK ls lim k).map (Value.int .i64)) ∧ Below w4.heap.size w4 wr) (fun _ i _ => N - (intOf i).toNat)
  case atStart => exact ⟨0, by omega, rfl, World.ownsRow_nil _ _ _ _, Below.refl _ _⟩
  case round =>
   obtain ⟨k, hk, rfl, hown, hbel⟩ := hrel
   by_cases hlt : k < N
   ·have hvr := (HV.out.carry hB4).carry hbel
    obtain ⟨r, hr⟩ : ∃ r, rs[k]? = some r := ⟨_, List.getElem?_eq_getElem (by rw [← HN.out]; exact hlt)⟩
    obtain ⟨t, ht⟩ : ∃ t, ls[k]? = some t := ⟨_, List.getElem?_eq_getElem (by rw [← HLEN.out, ← HN.out]; exact hlt)⟩
    obtain ⟨-, htr⟩ := hvr.ok k r t hr ht
    obtain ⟨b, off, cp', he, hcs⟩ := hvr.rw.head (by rw [← HN.out]; omega)
    simp only [Value.slice.injEq] at he
    obtain ⟨rfl, -, rfl⟩ := he
    obtain ⟨c0, c1⟩ := rw2 (hcs k r hr) (show lV r = [.int .i64 r.1, .slice r.2.1 r.2.2.1 r.2.2.2] from rfl)
    have hbs := behK_succ ls lim k
    rw [ht, Option.getD_some, ← HX.out] at hbs
    have hlr := lastT_rng (HKO.out.rng k t ht).2
    have TL := Lib.hid (fun W (h : Prs W (.slice r.2.1 r.2.2.1 r.2.2.2) t.2) => last_any r.1 r.2.1 r.2.2.1 r.2.2.2 t.2 W (HLT.out t (List.mem_of_getElem? ht)) h)
    obtain ⟨L, hL⟩ : ∃ L, L = lastT t.2 := ⟨_, rfl⟩
    rw [← hL] at hbs hlr TL
    have hq : IntKind.i64.wrap (X - L) = X - L := IntWalk.i64_in _ (by omega)
    have hdk : (k : Int) < (N : Int) := by omega
    have kn := below_new wr (.cells #[.int .i64 r.1, .slice r.2.1 r.2.2.1 r.2.2.2] 32)
    have htr2 := htr.carry kn
    have hLe := behK_len ls lim k
    obtain ⟨NB, hNB⟩ : ∃ N, N = (behK ls lim k).length := ⟨_, rfl⟩
    rw [← hNB] at hown hLe
    have HNB := Lib.hid hNB
    obtain ⟨oa, oc, rfl⟩ := own_slice hown
    by_cases hp : lim < X - L
    ·rw [if_pos hp] at hbs
     have HBS := Lib.hid hbs
     have hpd : decide (lim < X - L) = true := by simpa using hp
     clear hcs hr ht htr hbs hL hNB hlt
     go_wp2_with fail
     refine (TL.out _ htr2).mono ?_
     rintro e w6 ⟨rfl, hb6⟩
     have hown6 := own_below hown (bthen kn hb6)
     have hbel6 := bthen hbel (bthen kn hb6)
     clear hown hb6 kn htr2 c0 c1 hbel
     go_wp2_with (at_builtin; refine wpList_append_own _ rfl _ _ 63 rfl w4.heap.size 3 i0 (.int .i64 0) 1 8 Tryz.undZint hi hz0 hz1 hz2 rfl (by decide) (.slice oa NB oc) NB _ rfl (own_below hown6 (below_new _ _)) ⟨w6.heap.size, 0, none⟩ 1 1 [.int .i64 (k : Int)] rfl rfl (cell_one_new _ _ _) (by simp [Value.oneCell']) (by unfold maxLen; omega) (by omega) (by have := hbel6.size; simp; omega) ?_; intro v7 w8 hown' hgrow _)
     have hbelN : Below w4.heap.size w4 w8 := (bthen hbel6 (below_new w6 (.cells #[.int .i64 (k : Int)] 3))).trans (below_grow (own_below hown6 (below_new _ _)) (by have := hbel6.size; simp; omega) hgrow)
     have hownN : w8.ownsRow w4.heap.size 3 1 v7 (behK ls lim (k + 1)).length ((behK ls lim (k + 1)).map (Value.int .i64)) := by
      rw [HBS.out, List.length_append, List.map_append, ← HNB.out]
      exact hown'
     clear hown6 hown' hgrow hbel6
     go_wp2
     go_roundw
     case rel => exact ⟨k + 1, by omega, by go_num, hownN, hbelN⟩
     case measure => simp [intOf]; omega
    ·rw [if_neg hp, List.append_nil] at hbs
     have HBS := Lib.hid hbs
     have hpd : decide (lim < X - L) = false := by simpa using hp
     clear hcs hr ht htr hbs hL hNB hlt
     go_wp2_with fail
     refine (TL.out _ htr2).mono ?_
     rintro e w6 ⟨rfl, hb6⟩
     have hown6 := own_below hown (bthen kn hb6)
     have hbel6 := bthen hbel (bthen kn hb6)
     clear hown hb6 kn htr2 c0 c1 hbel
     go_wp2
     go_roundw
     case rel => exact ⟨k + 1, by omega, by go_num, by rw [HBS.out, ← HNB.out]; exact hown6, hbel6⟩
     case measure => simp [intOf]; omega
   ·have hkN : k = N := by omega
    have e6 : ¬ (k : Int) < (N : Int) := by omega
    have hout : Ints wr u8 R := by
     rw [HR9.out, show ls.length = k by rw [hkN, HN.out, HLEN.out]]
     exact Ints.of_own hown rfl
    clear hown hkN hlt
    go_wp2
    go_ret2
    exact ⟨⟨_, rfl, hout⟩, bthen hB4 hbel⟩
 ·have z : (E == 0) = false := by rw [beq_eq_false_iff_ne]; exact h0
  have hr := HR0.out h0
  clear HR0 HR1 HOK
  subst hr
  go_wp2
  go_ret2
  exact ⟨⟨_, rfl, Ints.nil _⟩, hB⟩
end
end Go.Proofs.YtpmngcffkhbofaaGreatDoor

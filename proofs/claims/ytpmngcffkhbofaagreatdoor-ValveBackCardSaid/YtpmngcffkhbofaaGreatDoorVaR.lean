/- Package valve: Telegrams, Missing. -/
import Derived.Test.YtpmngcffkhbofaaGreatDoorVaP
namespace Go.Proofs.YtpmngcffkhbofaaGreatDoor
section
set_option linter.unusedSimpArgs false
set_option linter.unusedVariables false
open Go.RowKit
theorem Tryz.enterTe1 (args : Array Value) (w : World) : Sem.run Tryz.prog (callFunc 57 args) w = .ok (.enter 57 args) w :=
 MuLone.run_callFunc_enter Tryz.func57 (by kernel_rfl) rfl args w
/-- a pulse's telegram. -/
def telG (c : Int) (x : P2) : Tg := (c, x.1.tmod 65536, x.2, 0, 0, 0)
theorem Tryz.infoTg : (Tryz.prog.info? 53).map (fun x => x.size) = some 6 := by kernel_rfl
set_option maxRecDepth 100000 in
set_option maxHeartbeats 1000000 in
theorem Telegrams1_any (x y c : Int) (a : Option Addr) (n cap : Nat) (B : Nat) (w : World) (hx : 0 ≤ x ∧ x ≤ 1000000) (hB : w.cell? ⟨B, 0, none⟩ = some (.int .i64 c)) :
 Calls Tryz.prog 57 #[.agg #[.int .i64 x, .int .i64 y], .pointer (some ⟨B, 0, none⟩)] w fun r w' => r = .returned (.agg #[.int .i64 c, .int .i64 (x.tmod 65536), .int .i64 y, .int .i64 0, .int .i64 0, .int .i64 0]) ∧ Below w.heap.size w w' := by
 obtain ⟨m, hm⟩ : ∃ m, m = x.tmod 65536 := ⟨_, rfl⟩
 have hm1 : 0 ≤ m ∧ m ≤ 65535 := by rw [hm, Int.tmod_eq_emod_of_nonneg hx.1]; omega
 have hm2 := hm.symm
 have hm3 : x % 65536 = m := by rw [← Int.tmod_eq_emod_of_nonneg hx.1]; exact hm2
 rw [hm2]
 have q1 : IntKind.i64.wrap m = m := IntWalk.i64_in _ (by omega)
 clear hm hx
 go_enter Tryz.func57, Tryz.ntmps57
 go_upto_region 1 with fail
 obtain ⟨W1, hW1⟩ : ∃ v, v = World.alloc w (Obj.cells #[.int .i64 x, .int .i64 y] 104) := ⟨_, rfl⟩
 have kW1 : Below w.heap.size w W1 := by rw [hW1]; exact below_new _ _
 have iW1 : Blk W1 (w.heap.size) 104 [.int .i64 x, .int .i64 y] := by rw [hW1]; exact Blk.new _ _ _
 have sW1 : W1.heap.size = w.heap.size + 1 := by rw [hW1]; simp
 rw [← hW1]
 clear hW1
 obtain ⟨W2, hW2⟩ : ∃ v, v = World.alloc W1 (Obj.cells #[.int .i64 0, .int .i64 0, .int .i64 0, .int .i64 0, .int .i64 0, .int .i64 0] 53) := ⟨_, rfl⟩
 have kW2 : Below W1.heap.size W1 W2 := by rw [hW2]; exact below_new _ _
 have iW2 : Blk W2 (w.heap.size + 1) 53 [.int .i64 0, .int .i64 0, .int .i64 0, .int .i64 0, .int .i64 0, .int .i64 0] := by rw [hW2, ← sW1]; exact Blk.new _ _ _
 have sW2 : W2.heap.size = w.heap.size + 1 + 1 := by rw [hW2]; simp [sW1]
 rw [← hW2]
 clear hW2
 have i1 := iW1.carry kW2
 have i2 : BlkI W2 (w.heap.size + 1) 53 [0, 0, 0, 0, 0, 0] := iW2
 have hbel := bthen kW1 kW2
 have c0 := i1.cell (j := 0) (v := .int .i64 x) rfl
 have c1 := i1.cell (j := 1) (v := .int .i64 y) rfl
 have cB := cellb hB hbel
 clear iW1 sW1 kW1 iW2 sW2 kW2 i1 hB
 have i3 : BlkI (W2.setRow (w.heap.size + 1) (ia [c, m, y, 0, 0, 0])) (w.heap.size + 1) 53 [c, m, y, 0, 0, 0] := BlkI.setRowA i2 _
 go_wp2_with (refine wpList_storeA rfl _ _ _ rfl (w.heap.size + 1) [c, m, y, 0, 0, 0] _ rfl rfl i2 rfl Tryz.infoTg ?_)
 have x0 := BlkI.cell i3 (j := 0) (by simp)
 have x1 := BlkI.cell i3 (j := 1) (by simp)
 have x2 := BlkI.cell i3 (j := 2) (by simp)
 have x3 := BlkI.cell i3 (j := 3) (by simp)
 have x4 := BlkI.cell i3 (j := 4) (by simp)
 have x5 := BlkI.cell i3 (j := 5) (by simp)
 simp only [List.getElem?_cons_zero, List.getElem?_cons_succ, Option.getD_some] at x0 x1 x2 x3 x4 x5
 exact bodyPost_ret (v := .agg #[.int .i64 c, .int .i64 m, .int .i64 y, .int .i64 0, .int .i64 0, .int .i64 0]) (by simp [results, Tryz.f57, go_sem, x0, x1, x2, x3, x4, x5]) rfl ⟨rfl, below_rowA hbel (by omega) _⟩
def telR (c : Int) (t : List P2) : List Tg := if logE c t = 0 then t.map (telG c) else []
set_option maxRecDepth 100000 in
set_option maxHeartbeats 1000000 in
theorem Telegrams_any (c : Int) (a : Option Addr) (n cap : Nat) (t : List P2) (w : World) (ht : t.length ≤ 1000000) (hv : Prs w (.slice a n cap) t) :
 Calls Tryz.prog 17 #[.agg #[.int .i64 c, .slice a n cap]] w fun r w' => (∃ u, r = .returned (.tuple #[u, .int .i64 (logE c t)]) ∧ Rw 6 tV w' u (telR c t)) ∧ Below w.heap.size w w' := by
 have TC := Lib.hid (fun W (h : Prs W (.slice a n cap) t) => logCheck_any c a n cap t W (by omega) h)
 have TM := Lib.hid (fun (hok : TrOk t) (B : Nat) (W : World) (hb : W.cell? ⟨B, 0, none⟩ = some (.int .i64 c)) (h : Prs W (.slice a n cap) t) => mapPT_any 57 #[.pointer (some ⟨B, 0, none⟩)] Tryz.enterTe1 (telG c) (.slice a n cap) t W ht h (fun x hx w1 hE => Telegrams1_any x.1 x.2 c a n cap B w1 (by have := (hok.mem hx).1; omega) (cellb hb hE)))
 have hok : logE c t = 0 → TrOk t := fun h => by unfold logE at h; rw [firstE_cons0, firstE_cons0] at h; exact trainE_ok h.2.1
 have hr0 : logE c t ≠ 0 → telR c t = [] := fun h => by unfold telR; rw [if_neg h]
 have hr1 : logE c t = 0 → telR c t = t.map (telG c) := fun h => by unfold telR; rw [if_pos h]
 obtain ⟨E, hE⟩ : ∃ E, E = logE c t := ⟨_, rfl⟩
 obtain ⟨R, hR⟩ : ∃ R, R = telR c t := ⟨_, rfl⟩
 rw [← hE] at TC hok hr0 hr1 ⊢
 rw [← hR] at hr0 hr1 ⊢
 have HOK := Lib.hid hok
 have HR0 := Lib.hid hr0
 have HR1 := Lib.hid hr1
 clear hE hR hok hr0 hr1
 go_enter Tryz.func17, Tryz.ntmps17
 go_upto_region 1 with fail
 obtain ⟨W1, hW1⟩ : ∃ v, v = World.alloc w (Obj.cells #[.int .i64 c, .slice a n cap] 32) := ⟨_, rfl⟩
 have kW1 : Below w.heap.size w W1 := by rw [hW1]; exact below_new _ _
 have iW1 : Blk W1 (w.heap.size) 32 [.int .i64 c, .slice a n cap] := by rw [hW1]; exact Blk.new _ _ _
 have sW1 : W1.heap.size = w.heap.size + 1 := by rw [hW1]; simp
 rw [← hW1]
 clear hW1
 have d0 := iW1.cell (j := 0) (v := .int .i64 c) rfl
 have d1 := iW1.cell (j := 1) (v := .slice a n cap) rfl
 have hB := kW1
 replace hv := hv.carry kW1
 clear iW1 sW1 kW1
 go_wp2_with fail
 refine (TC.out W1 hv).mono ?_
 rintro e w2 ⟨rfl, hb2⟩
 have d0 := cellb d0 hb2
 have d1 := cellb d1 hb2
 replace hv := hv.carry hb2
 replace hB := bthen hB hb2
 clear hb2 TC
 by_cases h0 : E = 0
 ·subst h0
  have TM := Lib.hid (TM.out (HOK.out (by trivial)) _ w2 d0 hv)
  obtain rfl := HR1.out (by trivial)
  clear HOK HR0 HR1
  go_wp2_with fail
  refine TM.out.mono ?_
  rintro e w3 ⟨⟨u, rfl, hu⟩, hb3⟩
  have hout := hu.rw tV_len
  go_wp2
  go_ret2
  exact ⟨⟨_, rfl, hout⟩, bthen hB hb3⟩
 ·have z : (E == 0) = false := by rw [beq_eq_false_iff_ne]; exact h0
  obtain rfl := HR0.out h0
  clear HOK HR0 HR1
  go_wp2
  go_ret2
  exact ⟨⟨_, rfl, Rw.nil _ _ _ _ _⟩, hB⟩
theorem Tryz.enterMi2 (args : Array Value) (w : World) : Sem.run Tryz.prog (callFunc 75 args) w = .ok (.enter 75 args) w :=
 MuLone.run_callFunc_enter Tryz.func75 (by kernel_rfl) rfl args w
/-- an acknowledgement that tells that valve n's link is there. -/
def misB (n t lim : Int) (x : P2) : Bool := x.1 == n && (decide (t - lim ≤ x.2) && decide (x.2 ≤ t))
set_option maxRecDepth 100000 in
set_option maxHeartbeats 1000000 in
theorem Missing2_any (x y n t lim : Int) (A B C : Nat) (w : World) (ht : 0 ≤ t ∧ t ≤ 100000) (hl : 0 ≤ lim ∧ lim ≤ 100000) (hA : w.cell? ⟨A, 0, none⟩ = some (.int .i64 n)) (hB : w.cell? ⟨B, 0, none⟩ = some (.int .i64 t)) (hC : w.cell? ⟨C, 0, none⟩ = some (.int .i64 lim)) :
 Calls Tryz.prog 75 #[.agg #[.int .i64 x, .int .i64 y], .pointer (some ⟨A, 0, none⟩), .pointer (some ⟨B, 0, none⟩), .pointer (some ⟨C, 0, none⟩)] w fun r w' => r = .returned (.bool (misB n t lim (x, y))) ∧ Below w.heap.size w w' := by
 have k1 := below_new w (.cells #[.int .i64 x, .int .i64 y] 73)
 have hA := cellb hA k1
 have hB := cellb hB k1
 have hC := cellb hC k1
 have q1 : IntKind.i64.wrap (t - lim) = t - lim := IntWalk.i64_in _ (by omega)
 by_cases h1 : x = n
 ·have b1 : (x == n) = true := by simpa using h1
  by_cases h2 : t - lim ≤ y
  ·by_cases h3 : y ≤ t
   ·have hR : misB n t lim (x, y) = true := by unfold misB; simp [h1, h2, h3]
    rw [hR]
    clear h1 hR
    go_enter Tryz.func75, Tryz.ntmps75
    go_wp2
    go_ret
    exact ⟨rfl, k1⟩
   ·have hR : misB n t lim (x, y) = false := by unfold misB; simp [h3]
    have b3 : decide (y ≤ t) = false := by simpa using h3
    rw [hR]
    clear h1 hR h3
    go_enter Tryz.func75, Tryz.ntmps75
    go_wp2
    go_ret
    exact ⟨rfl, k1⟩
  ·have hR : misB n t lim (x, y) = false := by unfold misB; simp [h2]
   have b2 : decide (t - lim ≤ y) = false := by simpa using h2
   rw [hR]
   clear h1 hR h2
   go_enter Tryz.func75, Tryz.ntmps75
   go_wp2
   go_ret
   exact ⟨rfl, k1⟩
 ·have hR : misB n t lim (x, y) = false := by unfold misB; simp [h1]
  have b1 : (x == n) = false := by simpa using h1
  rw [hR]
  clear h1 hR
  go_enter Tryz.func75, Tryz.ntmps75
  go_wp2
  go_ret
  exact ⟨rfl, k1⟩
def ackG (_ : Nat) (x : P2) : Int := firstE [withinE x.1 0 11, withinE x.2 0 100000]
def misE1 (l : List P2) (t lim : Int) : Int := firstE [eachE ackG l, withinE t 0 100000, withinE lim 0 100000]
def misE (l : List P2) (t lim : Int) : Int := if 256 < l.length then 5 else misE1 l t lim
def misK (l : List P2) (t lim : Int) (k : Nat) : List Int := ((List.range k).filter fun (n : Nat) => !(l.any (misB (n : Int) t lim))).map fun (n : Nat) => (n : Int)
def misR (l : List P2) (t lim : Int) : List Int := if misE l t lim = 0 then misK l t lim 12 else []
theorem misK_succ (l : List P2) (t lim : Int) (k : Nat) : misK l t lim (k + 1) = misK l t lim k ++ (if l.any (misB (k : Int) t lim) = true then [] else [(k : Int)]) := by
 unfold misK
 rw [List.range_succ, List.filter_append, List.map_append]
 congr 1
 cases h : l.any (misB (k : Int) t lim)
 ·simp [h]
 ·simp [h]
theorem misK_len (l : List P2) (t lim : Int) (k : Nat) : (misK l t lim k).length ≤ k := by
 unfold misK
 rw [List.length_map]
 exact Nat.le_trans (List.length_filter_le _ _) (by simp)
set_option maxRecDepth 100000 in
set_option maxHeartbeats 4000000 in
theorem Missing_any (v : Value) (l : List P2) (t lim : Int) (w : World) (hl : l.length ≤ 1000000) (hv : Prs w v l) :
 Calls Tryz.prog 30 #[v, .int .i64 t, .int .i64 lim] w fun r w' => (∃ u, r = .returned (.tuple #[u, .int .i64 (misE l t lim)]) ∧ Ints w' u (misR l t lim)) ∧ Below w.heap.size w w' := by
 have TE := Lib.hid (fun W (h : Prs W v l) => eachA_any 73 #[] Tryz.enterMi1 ackG (fun _ _ => True) W.heap.size v l W (by omega) (Nat.le_refl _) (fun w1 h1 => h.carry h1) trivial (fun _ _ _ _ _ => trivial) (fun k x hx w1 h1 _ => (Missing1_any k x.1 x.2 w1).mono fun r w2 ⟨hr, hb⟩ => ⟨hr, hb.mono h1.size, fun _ => trivial⟩))
 have TW1 := Lib.hid (fun W => within_any t 0 100000 W)
 have TW2 := Lib.hid (fun W => within_any lim 0 100000 W)
 have hE : misE1 l t lim = firstE [eachE ackG l, withinE t 0 100000, withinE lim 0 100000] := rfl
 have hok : misE1 l t lim = 0 → (0 ≤ t ∧ t ≤ 100000) ∧ (0 ≤ lim ∧ lim ≤ 100000) := fun h => by
  rw [hE, firstE_cons0, firstE_cons0, firstE_cons0, withinE_zero, withinE_zero] at h
  exact ⟨h.2.1, h.2.2.1⟩
 have hm0 : 256 < l.length → misE l t lim = 5 ∧ misR l t lim = [] := fun h => by
  have : misE l t lim = 5 := by unfold misE; rw [if_pos h]
  exact ⟨this, by unfold misR; rw [this, if_neg (by decide)]⟩
 have hm1 : ¬ 256 < l.length → misE1 l t lim ≠ 0 → misE l t lim = misE1 l t lim ∧ misR l t lim = [] := fun h h2 => by
  have : misE l t lim = misE1 l t lim := by unfold misE; rw [if_neg h]
  exact ⟨this, by unfold misR; rw [this, if_neg h2]⟩
 have hm2 : ¬ 256 < l.length → misE1 l t lim = 0 → misE l t lim = 0 ∧ misR l t lim = misK l t lim 12 := fun h h2 => by
  have : misE l t lim = 0 := by unfold misE; rw [if_neg h, h2]
  exact ⟨this, by unfold misR; rw [this, if_pos rfl]⟩
 have TX := Lib.hid (fun (ht : 0 ≤ t ∧ t ≤ 100000) (hli : 0 ≤ lim ∧ lim ≤ 100000) (n : Int) (A B C : Nat) (W : World) (hA : W.cell? ⟨A, 0, none⟩ = some (.int .i64 n)) (hB : W.cell? ⟨B, 0, none⟩ = some (.int .i64 t)) (hC : W.cell? ⟨C, 0, none⟩ = some (.int .i64 lim)) (h : Prs W v l) =>
  ContainsA_any 75 #[.pointer (some ⟨A, 0, none⟩), .pointer (some ⟨B, 0, none⟩), .pointer (some ⟨C, 0, none⟩)] Tryz.enterMi2 (misB n t lim) v l W (by omega) h (fun x _ w1 hE => Missing2_any x.1 x.2 n t lim A B C w1 ht hli (cellb hA hE) (cellb hB hE) (cellb hC hE)))
 obtain ⟨e0, he0⟩ : ∃ e, e = eachE ackG l := ⟨_, rfl⟩
 obtain ⟨e1, he1⟩ : ∃ e, e = withinE t 0 100000 := ⟨_, rfl⟩
 obtain ⟨e2, he2⟩ : ∃ e, e = withinE lim 0 100000 := ⟨_, rfl⟩
 rw [← he0] at TE hE
 rw [← he1] at TW1 hE
 rw [← he2] at TW2 hE
 have TF := Lib.hid (fun (u : Value) (W : World) (h : Ints W u [e0, e1, e2]) => first_any u _ W (by simp [maxLen]) h)
 rw [← hE] at TF
 obtain ⟨E1, hE1⟩ : ∃ E, E = misE1 l t lim := ⟨_, rfl⟩
 obtain ⟨E, hEE⟩ : ∃ E, E = misE l t lim := ⟨_, rfl⟩
 obtain ⟨R, hR⟩ : ∃ R, R = misR l t lim := ⟨_, rfl⟩
 rw [← hE1] at TF hok hm1 hm2
 rw [← hEE] at hm0 hm1 hm2 ⊢
 rw [← hR] at hm0 hm1 hm2 ⊢
 obtain ⟨a, cp, rfl, hcp⟩ := hv.slice
 obtain ⟨N, hN⟩ : ∃ N, N = l.length := ⟨_, rfl⟩
 rw [← hN] at TE TX hm0 hm1 hm2 hl hv ⊢
 have HOK := Lib.hid hok
 have HM0 := Lib.hid hm0
 have HM1 := Lib.hid hm1
 have HM2 := Lib.hid hm2
 clear hE he0 he1 he2 hE1 hEE hR hok hm0 hm1 hm2 hN hcp
 by_cases h9 : 256 < N
 ·obtain ⟨rfl, rfl⟩ := HM0.out h9
  have b9 : decide ((256 : Int) < (N : Int)) = true := by simp; omega
  clear HM0 HM1 HM2 TE TX TF HOK
  go_enter Tryz.func30, Tryz.ntmps30
  go_upto_region 1 with fail
  obtain ⟨W1, hW1⟩ : ∃ v, v = World.alloc w (Obj.cells #[.int .i64 t] 3) := ⟨_, rfl⟩
  have kW1 : Below w.heap.size w W1 := by rw [hW1]; exact below_new _ _
  have iW1 : Blk W1 (w.heap.size) 3 [.int .i64 t] := by rw [hW1]; exact Blk.new _ _ _
  have sW1 : W1.heap.size = w.heap.size + 1 := by rw [hW1]; simp
  rw [← hW1]
  clear hW1
  obtain ⟨W2, hW2⟩ : ∃ v, v = World.alloc W1 (Obj.cells #[.int .i64 lim] 3) := ⟨_, rfl⟩
  have kW2 : Below W1.heap.size W1 W2 := by rw [hW2]; exact below_new _ _
  have iW2 : Blk W2 (w.heap.size + 1) 3 [.int .i64 lim] := by rw [hW2, ← sW1]; exact Blk.new _ _ _
  have sW2 : W2.heap.size = w.heap.size + 1 + 1 := by rw [hW2]; simp [sW1]
  rw [← hW2]
  clear hW2
  have hB := bthen kW1 kW2
  clear iW1 iW2 sW1 sW2 kW1 kW2
  go_wp2
  go_ret2
  exact ⟨⟨_, rfl, Ints.nil _⟩, hB⟩
 ·have b9 : decide ((256 : Int) < (N : Int)) = false := by simp; omega
  have H9 := Lib.hid h9
  obtain ⟨i0, hi, hz0, hz1, hz2⟩ := info_parts Tryz.infZint
  clear h9
  go_enter Tryz.func30, Tryz.ntmps30
  go_upto_region 1 with fail
  obtain ⟨W1, hW1⟩ : ∃ v, v = World.alloc w (Obj.cells #[.int .i64 t] 3) := ⟨_, rfl⟩
  have kW1 : Below w.heap.size w W1 := by rw [hW1]; exact below_new _ _
  have iW1 : Blk W1 (w.heap.size) 3 [.int .i64 t] := by rw [hW1]; exact Blk.new _ _ _
  have sW1 : W1.heap.size = w.heap.size + 1 := by rw [hW1]; simp
  rw [← hW1]
  clear hW1
  obtain ⟨W2, hW2⟩ : ∃ v, v = World.alloc W1 (Obj.cells #[.int .i64 lim] 3) := ⟨_, rfl⟩
  have kW2 : Below W1.heap.size W1 W2 := by rw [hW2]; exact below_new _ _
  have iW2 : Blk W2 (w.heap.size + 1) 3 [.int .i64 lim] := by rw [hW2, ← sW1]; exact Blk.new _ _ _
  have sW2 : W2.heap.size = w.heap.size + 1 + 1 := by rw [hW2]; simp [sW1]
  rw [← hW2]
  clear hW2
  have hB := bthen kW1 kW2
  have c0 := (iW1.carry kW2).cell (j := 0) (v := .int .i64 t) rfl
  have c1 := iW2.cell (j := 0) (v := .int .i64 lim) rfl
  replace hv := hv.carry hB
  clear iW1 iW2 sW1 sW2 kW1 kW2
  go_wp2_with fail
  refine (TE.out W2 hv).mono ?_
  rintro e w3 ⟨rfl, hb3⟩
  have c0 := cellb c0 hb3
  have c1 := cellb c1 hb3
  replace hv := hv.carry hb3
  replace hB := bthen hB hb3
  clear hb3 TE
  go_upto_region 4 with fail
  refine wp_region_E 7 (by kernel_rfl) ?_
  obtain ⟨wz, hwz⟩ : ∃ v, v = w3.drew := ⟨_, rfl⟩
  rw [← hwz]
  have hlz : Below w3.heap.size w3 wz := by rw [hwz]; exact (Below.refl _ _).drew
  have hbz := bthen hB hlz
  have c0 := cellb c0 hlz
  have c1 := cellb c1 hlz
  have hv := hv.carry hlz
  clear hwz hlz
  refine zV 0 ⟨some 17, .move (.tmp 8), 27, "valve.go:327", #[], none⟩ rfl ?_
  simp only [Act.put, zS]
  refine zV 1 ⟨some 18, .load 3 (.tmp 4), 3, "valve.go:327", #[], none⟩ rfl ?_ (hv := fun w hE => by have c0 := cellb c0 hE; have c1 := cellb c1 hE; (try dsimp only); go_simp; try rfl)
  simp only [Act.put, zS]
  refine zV 3 ⟨some 20, .load 3 (.tmp 5), 3, "valve.go:327", #[], none⟩ rfl ?_ (hv := fun w hE => by have c0 := cellb c0 hE; have c1 := cellb c1 hE; (try dsimp only); go_simp; try rfl)
  simp only [Act.put, zS]
  refine zB 2 ⟨some 19, .call ⟨.value (.func 59), #[.tmp 18, .const (.int .i64 0), .const (.int .i64 100000)], #[3, 3, 3]⟩, 27, "valve.go:327", #[⟨1, .data⟩], none⟩ (fun w hE => ofPure (TW1.out w)) rfl ?_
  simp only [Act.put, zS]
  refine zB 4 ⟨some 21, .call ⟨.value (.func 59), #[.tmp 20, .const (.int .i64 0), .const (.int .i64 100000)], #[3, 3, 3]⟩, 27, "valve.go:327", #[⟨3, .data⟩, ⟨2, .chain⟩], none⟩ (fun w hE => ofPure (TW2.out w)) rfl ?_
  simp only [Act.put, zS]
  refine wpAnyE_one (i := 5) (o := ⟨some 22, .buildSlice 150 3 #[(0, .tmp 17), (1, .tmp 19), (2, .tmp 21)], 150, "valve.go:327", #[⟨0, .data⟩, ⟨2, .data⟩, ⟨4, .data⟩], none⟩) (by kernel_rfl) rfl (fun wy1 hE K hK => ?_)
  have c0 := cellb c0 hE
  have c1 := cellb c1 hE
  have hv := hv.carry hE
  have hbz1 := bthen hbz hE
  clear hE
  go_simp
  obtain ⟨wx1, hwz⟩ : ∃ v, v = wy1.alloc (Obj.cells #[.int .i64 e0, .int .i64 e1, .int .i64 e2] 27) := ⟨_, rfl⟩
  rw [← hwz]
  have hl : Below wy1.heap.size wy1 wx1 := by rw [hwz]; exact below_new _ _
  have hcz1 := bthen hbz1 hl
  have iN : BlkI wx1 wy1.heap.size 27 [e0, e1, e2] := by rw [hwz]; exact Blk.new _ _ _
  generalize wy1.heap.size = G at iN ⊢
  have c0 := cellb c0 hl
  have c1 := cellb c1 hl
  have hv := hv.carry hl
  clear hwz
  refine hK _ _ (fun _ => hl) ?_
  clear hK K hl
  try simp only [Act.put, zS]
  refine zB 6 ⟨some 23, .call ⟨.value (.func 46), #[.tmp 22], #[150]⟩, 27, "valve.go:327", #[⟨5, .data⟩, ⟨4, .chain⟩], none⟩ (fun w hE => ofPure (TF.out _ w ((BlkI.ints iN rfl).carry hE))) rfl ?_
  simp only [Act.put, zS]
  refine wpAnyE_one (i := 7) (o := ⟨some 9, .assign (.tmp 23), 27, "valve.go:327", #[⟨6, .data⟩, ⟨6, .chain⟩, ⟨0, .phase⟩, ⟨1, .phase⟩, ⟨2, .phase⟩, ⟨3, .phase⟩, ⟨4, .phase⟩, ⟨5, .phase⟩, ⟨6, .phase⟩], none⟩) (by kernel_rfl) rfl (fun wy2 hE K hK => ?_)
  have c0 := cellb c0 hE
  have c1 := cellb c1 hE
  have hv := hv.carry hE
  have hbz2 := bthen hcz1 hE
  go_simp
  refine hK _ _ (fun _ => Below.refl _ _) ?_
  clear hK K hE
  try simp only [Act.put, zS]
  refine wpAnyE_done (by kernel_rfl) (fun wy3 hE => ?_) _
  have hbz3 := bthen hbz2 hE
  have c0 := cellb c0 hE
  have c1 := cellb c1 hE
  have hv := hv.carry hE
  clear hE
  have hB := hbz3
  obtain ⟨W9, hW9⟩ : ∃ v, v = wy3 := ⟨_, rfl⟩
  rw [← hW9] at hB c0 c1 hv ⊢
  clear hW9
  by_cases h0 : E1 = 0
  ·subst h0
   obtain ⟨ht, hli⟩ := HOK.out (by trivial)
   have TX := Lib.hid (TX.out ht hli)
   obtain ⟨rfl, hR⟩ := HM2.out H9.out (by trivial)
   have HR := Lib.hid hR
   clear HM0 HM1 HM2 HOK TW1 TW2 TF ht hli hR
   go_wp2_with fail
   go_loopw [10, 27] (fun u i wr => ∃ k : Nat, k ≤ 12 ∧ i = .int .i64 k ∧ wr.ownsRow W9.heap.size 3 1 u (misK l t lim k).length ((misK l t lim k).map (Value.int .i64)) ∧ Below W9.heap.size W9 wr) (fun _ i _ => 12 - (intOf i).toNat)
   case atStart => exact ⟨0, by omega, rfl, World.ownsRow_nil _ _ _ _, Below.refl _ _⟩
   case round =>
    obtain ⟨k, hk, rfl, hown, hbel⟩ := hrel
    by_cases hlt : k < 12
    ·have hms := misK_succ l t lim k
     have hLe := misK_len l t lim k
     obtain ⟨NB, hNB⟩ : ∃ N, N = (misK l t lim k).length := ⟨_, rfl⟩
     rw [← hNB] at hown hLe
     have HNB := Lib.hid hNB
     obtain ⟨oa, oc, rfl⟩ := own_slice hown
     have kn := below_new wr (.cells #[.int .i64 (k : Int)] 3)
     have TXk := Lib.hid (TX.out (k : Int) wr.heap.size _ _ _ ((Blk.new wr 3 [.int .i64 (k : Int)]).cell (j := 0) rfl) (cellb c0 (bthen hbel kn)) (cellb c1 (bthen hbel kn)) (hv.carry (bthen hbel kn)))
     obtain ⟨A, hA⟩ : ∃ A, A = l.any (misB (k : Int) t lim) := ⟨_, rfl⟩
     rw [← hA] at hms TXk
     have hdk : (k : Int) < 12 := by omega
     cases A with
     | true =>
       rw [if_pos rfl, List.append_nil] at hms
       have HMS := Lib.hid hms
       clear hms hA hNB
       go_wp2_with fail
       refine TXk.out.mono ?_
       rintro e w6 ⟨rfl, hb6⟩
       have hown6 := own_below hown (bthen kn hb6)
       have hbel6 := bthen hbel (bthen kn hb6)
       clear hown hbel hb6 kn
       go_wp2
       go_roundw
       case rel => exact ⟨k + 1, by omega, by go_num, by rw [HMS.out, ← HNB.out]; exact hown6, hbel6⟩
       case measure => simp [intOf]; omega
     | false =>
       rw [if_neg (by decide)] at hms
       have HMS := Lib.hid hms
       clear hms hA hNB
       go_wp2_with fail
       refine TXk.out.mono ?_
       rintro e w6 ⟨rfl, hb6⟩
       have hown6 := own_below hown (bthen kn hb6)
       have hbel6 := bthen hbel (bthen kn hb6)
       have ck : w6.cell? ⟨wr.heap.size, 0, none⟩ = some (.int .i64 (k : Int)) := cellb ((Blk.new wr 3 [.int .i64 (k : Int)]).cell (j := 0) rfl) hb6
       clear hown hbel hb6 kn
       go_wp2_with (at_builtin; refine wpList_append_own _ rfl _ _ 63 rfl W9.heap.size 3 i0 (.int .i64 0) 1 8 Tryz.undZint hi hz0 hz1 hz2 rfl (by decide) (.slice oa NB oc) NB _ rfl (own_below hown6 (below_new _ _)) ⟨w6.heap.size, 0, none⟩ 1 1 [.int .i64 (k : Int)] rfl rfl (cell_one_new _ _ _) (by simp [Value.oneCell']) (by unfold maxLen; omega) (by omega) (by have := hbel6.size; simp; omega) ?_; intro v7 w8 hown' hgrow _)
       have hbelN : Below W9.heap.size W9 w8 := (bthen hbel6 (below_new w6 (.cells #[.int .i64 (k : Int)] 3))).trans (below_grow (own_below hown6 (below_new _ _)) (by have := hbel6.size; simp; omega) hgrow)
       have hownN : w8.ownsRow W9.heap.size 3 1 v7 (misK l t lim (k + 1)).length ((misK l t lim (k + 1)).map (Value.int .i64)) := by
        rw [HMS.out, List.length_append, List.map_append, ← HNB.out]
        exact hown'
       clear hown6 hown' hgrow hbel6 ck
       go_wp2
       go_roundw
       case rel => exact ⟨k + 1, by omega, by go_num, hownN, hbelN⟩
       case measure => simp [intOf]; omega
    ·obtain rfl : k = 12 := by omega
     have hout : Ints wr u10 R := by rw [HR.out]; exact Ints.of_own hown rfl
     clear hown
     go_wp2
     go_ret2
     exact ⟨⟨_, rfl, hout⟩, bthen hB hbel⟩
  ·have z : (E1 == 0) = false := by rw [beq_eq_false_iff_ne]; exact h0
   obtain ⟨rfl, rfl⟩ := HM1.out H9.out h0
   clear HM0 HM1 HM2 HOK TX
   go_wp2
   go_ret2
   exact ⟨⟨_, rfl, Ints.nil _⟩, hB⟩
end
section
set_option linter.unusedSimpArgs false
set_option linter.unusedVariables false
open Go.RowKit
/-- whether an outage is permitted for a module. -/
def perB (o : I3) (m : Mo) : Bool := decide (m.2.1 ≤ o.1) && decide (o.1 ≤ m.2.2.1)
set_option maxRecDepth 100000 in
set_option maxHeartbeats 1000000 in
theorem permits_any (o0 o1 o2 : Int) (s : ByteArray) (m1 m2 m3 : Int) (w : World) :
 Calls Tryz.prog 92 #[.agg #[.int .i64 o0, .int .i64 o1, .int .i64 o2], .agg #[.string s, .int .i64 m1, .int .i64 m2, .int .i64 m3]] w fun r w' => r = .returned (.bool (perB (o0, o1, o2) (s, m1, m2, m3))) ∧ Below w.heap.size w w' := by
 have k1 := below_new w (.cells #[.int .i64 o0, .int .i64 o1, .int .i64 o2] 165)
 have k2 := below_new (w.alloc (.cells #[.int .i64 o0, .int .i64 o1, .int .i64 o2] 165)) (.cells #[.string s, .int .i64 m1, .int .i64 m2, .int .i64 m3] 163)
 by_cases h1 : m1 ≤ o0
 ·by_cases h2 : o0 ≤ m2
  ·have hR : perB (o0, o1, o2) (s, m1, m2, m3) = true := by unfold perB; simp [h1, h2]
   rw [hR]
   clear hR
   go_enter Tryz.func92, Tryz.ntmps92
   go_wp2
   go_ret
   exact ⟨rfl, bthen k1 k2⟩
  ·have hR : perB (o0, o1, o2) (s, m1, m2, m3) = false := by unfold perB; simp [h2]
   have b2 : decide (o0 ≤ m2) = false := by simpa using h2
   rw [hR]
   clear hR h2
   go_enter Tryz.func92, Tryz.ntmps92
   go_wp2
   go_ret
   exact ⟨rfl, bthen k1 k2⟩
 ·have hR : perB (o0, o1, o2) (s, m1, m2, m3) = false := by unfold perB; simp [h1]
  have b1 : decide (m1 ≤ o0) = false := by simpa using h1
  rw [hR]
  clear hR h1
  go_enter Tryz.func92, Tryz.ntmps92
  go_wp2
  go_ret
  exact ⟨rfl, bthen k1 k2⟩
theorem Tryz.enterFi1 (args : Array Value) (w : World) : Sem.run Tryz.prog (callFunc 188 args) w = .ok (.enter 188 args) w :=
 MuLone.run_callFunc_enter Tryz.func188 (by kernel_rfl) rfl args w
theorem Tryz.enterFi2 (args : Array Value) (w : World) : Sem.run Tryz.prog (callFunc 190 args) w = .ok (.enter 190 args) w :=
 MuLone.run_callFunc_enter Tryz.func190 (by kernel_rfl) rfl args w
theorem fits1_any (a b c : Int) (w : World) : Calls Tryz.prog 188 #[.agg #[.int .i64 a, .int .i64 b, .int .i64 c]] w fun r w' => r = .returned (.int .i64 b) ∧ Below w.heap.size w w' := by
 have k1 := below_new w (.cells #[.int .i64 a, .int .i64 b, .int .i64 c] 165)
 go_enter Tryz.func188, Tryz.ntmps188
 go_wp2
 go_ret
 exact ⟨rfl, k1⟩
theorem fits2_any (a : Int) (w : World) : Calls Tryz.prog 190 #[.int .i64 a] w fun r w' => r = .returned (.bool (decide (a < 0))) ∧ Below w.heap.size w w' := by
 go_enter Tryz.func190, Tryz.ntmps190
 go_wp2
 go_ret
 exact ⟨rfl, Below.refl _ _⟩
/-- what is left of the hours after the first k modules of a plan. -/
def fitK (ms : List Mo) (os : List I3) (pl : List Int) : Nat → List Int
 | 0 => os.map fun o => o.2.1
 | k + 1 => (fitK ms os pl k).set (pl[k]?.getD 0).toNat (((fitK ms os pl k)[(pl[k]?.getD 0).toNat]?.getD 0) - (ms[k]?.getD (⟨#[]⟩, 0, 0, 0)).2.2.2)
def fitB (ms : List Mo) (os : List I3) (pl : List Int) : Bool := !((fitK ms os pl pl.length).any fun n => decide (n < 0))
theorem fitK_len (ms : List Mo) (os : List I3) (pl : List Int) (k : Nat) : (fitK ms os pl k).length = os.length := by
 induction k with
 | zero => simp [fitK]
 | succ k ih => simp [fitK, ih]
theorem fitK_rng (ms : List Mo) (os : List I3) (pl : List Int) (ho : ∀ o ∈ os, 0 ≤ o.2.1 ∧ o.2.1 ≤ 100) (hm : ∀ m ∈ ms, 0 ≤ m.2.2.2 ∧ m.2.2.2 ≤ 100) (k : Nat) : ∀ x ∈ fitK ms os pl k, -(100 * (k : Int)) ≤ x ∧ x ≤ 100 := by
 induction k with
 | zero =>
   intro x hx
   obtain ⟨o, h, rfl⟩ := List.mem_map.1 hx
   have := ho o h
   omega
 | succ k ih =>
   intro x hx
   simp only [fitK] at hx
   rcases List.mem_or_eq_of_mem_set hx with h | h
   ·have := ih x h; omega
   ·have h1 : -(100 * (k : Int)) ≤ ((fitK ms os pl k)[(pl[k]?.getD 0).toNat]?.getD 0) ∧ ((fitK ms os pl k)[(pl[k]?.getD 0).toNat]?.getD 0) ≤ 100 := by
     cases hq : (fitK ms os pl k)[(pl[k]?.getD 0).toNat]? with
     | none => simp; omega
     | some y => exact ih y (List.mem_of_getElem? hq)
    have h2 : 0 ≤ (ms[k]?.getD (⟨#[]⟩, 0, 0, 0)).2.2.2 ∧ (ms[k]?.getD (⟨#[]⟩, 0, 0, 0)).2.2.2 ≤ 100 := by
     cases hq : ms[k]? with
     | none => simp
     | some y => exact hm y (List.mem_of_getElem? hq)
    omega
/-- the cells of an own row, to be read and written. -/
theorem own_rw {w : World} {base e : Nat} {v : Value} {l : List Int} (h : w.ownsRow base e 1 v l.length (l.map (Value.int .i64))) (hl : 0 < l.length) :
 ∃ g cap, v = .slice (some ⟨g, 0, none⟩) l.length cap ∧ base ≤ g ∧ l.length ≤ cap ∧ Cells w g l := by
 obtain ⟨h1, h2⟩ := h
 rcases h2 with ⟨rfl, h2⟩ | ⟨g, cap, cur, rfl, hg, hh, hnc, hcap, hcs, htk⟩
 ·omega
 ·refine ⟨g, cap, rfl, hg, hnc, fun j hj => ⟨?_, ?_⟩⟩
  ·have : cur[j]? = some (.int .i64 (l[j]?.getD 0)) := by
    have e := congrArg (fun x : List Value => x[j]?) htk
    simp only [Nat.mul_one, List.getElem?_take, List.getElem?_map] at e
    rw [if_pos hj] at e
    rw [← Array.getElem?_toList, e, List.getElem?_eq_getElem hj]
    rfl
   simp [World.cell?, hh, this]
  ·simp [World.frozen?, hh]
set_option maxRecDepth 100000 in
set_option maxHeartbeats 4000000 in
theorem fits_any (vm vo vp : Value) (ms : List Mo) (os : List I3) (pl : List Int) (w : World) (hm : Rw 4 mV w vm ms) (ho : Rw 3 iV w vo os) (hp : Ints w vp pl) (hml : ms.length ≤ 1000) (hol : os.length ≤ 1000) (hpl : pl.length ≤ ms.length)
 (hop : ∀ k ∈ pl, 0 ≤ k ∧ k < os.length) (hor : ∀ o ∈ os, 0 ≤ o.2.1 ∧ o.2.1 ≤ 100) (hmr : ∀ m ∈ ms, 0 ≤ m.2.2.2 ∧ m.2.2.2 ≤ 100) :
 Calls Tryz.prog 148 #[vm, vo, vp] w fun r w' => r = .returned (.bool (fitB ms os pl)) ∧ Below w.heap.size w w' := by
 have TM := Lib.hid (fun W (h : Rw 3 iV W vo os) => mapOI_any 188 #[] Tryz.enterFi1 (fun o => o.2.1) vo os W (by omega) h (fun x _ w1 _ => fits1_any x.1 x.2.1 x.2.2 w1))
 have TX := Lib.hid (fun (v : Value) (W : World) (L : List Int) (hL : L.length ≤ 1000) (h : Ints W v L) => ContainsI_any 190 #[] Tryz.enterFi2 (fun n => decide (n < 0)) v L W (by omega) (Rw.of_ints h) (fun x _ w1 _ => fits2_any x w1))
 have HM := Lib.hid hm
 have HP := Lib.hid hp
 have HOP := Lib.hid hop
 have HR := Lib.hid (fitK_rng ms os pl hor hmr)
 obtain ⟨ma, mc, rfl, hmc⟩ := hm.slice
 obtain ⟨oa, oc, rfl, hoc⟩ := ho.slice
 obtain ⟨pa, pc, rfl, hpc, -⟩ := hp
 obtain ⟨NM, hNM⟩ : ∃ N, N = ms.length := ⟨_, rfl⟩
 obtain ⟨NO, hNO⟩ : ∃ N, N = os.length := ⟨_, rfl⟩
 obtain ⟨NP, hNP⟩ : ∃ N, N = pl.length := ⟨_, rfl⟩
 rw [← hNM] at hmc HM hml hpl ⊢
 rw [← hNO] at hoc ho TM HOP hol ⊢
 rw [← hNP] at hpc HP hpl ⊢
 have HNM := Lib.hid hNM
 have HNO := Lib.hid hNO
 have HNP := Lib.hid hNP
 clear hm hop hor hNM hNO hNP
 go_enter Tryz.func148, Tryz.ntmps148
 go_wp2_with fail
 refine (TM.out w ho).mono ?_
 rintro e w2 ⟨⟨u, rfl, hu⟩, hb2⟩
 have hul : (os.map fun o => o.2.1) = fitK ms os pl 0 := rfl
 have huo : w2.ownsRow w.heap.size 3 1 u (fitK ms os pl 0).length ((fitK ms os pl 0).map (Value.int .i64)) := by
  have := hu
  unfold OwR at this
  rw [nV_flat] at this
  exact this
 have hmr2 : ∀ (k : Nat) (m : Mo), ms[k]? = some m → 0 ≤ m.2.2.2 ∧ m.2.2.2 ≤ 100 := fun k m hk => hmr m (List.mem_of_getElem? hk)
 have HMR := Lib.hid hmr2
 rcases Nat.eq_zero_or_pos NO with h0 | h0
 ·-- no outage: no module can be planned
  have hNP0 : NP = 0 := by
   rcases Nat.eq_zero_or_pos NP with h | h
   ·exact h
   ·obtain ⟨k, hk⟩ : ∃ k, pl[0]? = some k := ⟨_, List.getElem?_eq_getElem (by rw [← HNP.out]; exact h)⟩
    have := HOP.out k (List.mem_of_getElem? hk)
    omega
  have hI : Ints w2 u (fitK ms os pl pl.length) := by
   have e : pl.length = 0 := by rw [← HNP.out]; exact hNP0
   rw [e]
   exact Ints.of_own huo rfl
  have TXk := Lib.hid (TX.out u w2 _ (by rw [fitK_len, ← HNO.out]; omega) hI)
  clear hu huo hI hul h0
  subst hNP0
  go_wp2_with fail
  go_loopw [14] (fun i wr => i = .int .i64 0 ∧ wr = w2) (fun _ _ => 0)
  case atStart => exact ⟨rfl, rfl⟩
  case round =>
   obtain ⟨rfl, hw⟩ := hrel
   replace hw := hw.symm
   subst hw
   go_wp2_with fail
   refine TXk.out.mono ?_
   rintro e w3 ⟨rfl, hb3⟩
   go_wp2
   go_ret
   exact ⟨rfl, bthen hb2 hb3⟩
 ·obtain ⟨g, cap, rfl, hg, hgc, hcells⟩ := own_rw huo (by rw [fitK_len, ← HNO.out]; exact h0)
  rw [fitK_len, ← HNO.out] at hgc ⊢
  clear hu huo hul
  go_wp2_with fail
  go_loopw [14] (fun i wr => ∃ k : Nat, k ≤ NP ∧ i = .int .i64 k ∧ Cells wr g (fitK ms os pl k) ∧ Below w.heap.size w wr) (fun i _ => NP - (intOf i).toNat)
  case atStart => exact ⟨0, by omega, rfl, hcells, hb2⟩
  case round =>
   clear hcells hb2
   obtain ⟨k, hk, rfl, hcells, hbel⟩ := hrel
   by_cases hlt : k < NP
   ·obtain ⟨p, hpk⟩ : ∃ p, pl[k]? = some p := ⟨_, List.getElem?_eq_getElem (by rw [← HNP.out]; exact hlt)⟩
    obtain ⟨m, hmk⟩ : ∃ m, ms[k]? = some m := ⟨_, List.getElem?_eq_getElem (by rw [← HNM.out]; omega)⟩
    have hpr := HOP.out p (List.mem_of_getElem? hpk)
    obtain ⟨P, rfl⟩ := Int.eq_ofNat_of_zero_le hpr.1
    have hpP : P < NO := by have := hpr.2; omega
    have hmrk := HMR.out k m hmk
    obtain ⟨pb, po, pcap, hpe, hpcs⟩ := (Ints.below HP.out hbel).head (by rw [← HNP.out]; omega)
    simp only [Value.slice.injEq] at hpe
    obtain ⟨rfl, -, rfl⟩ := hpe
    have cp := hpcs k (by rw [← HNP.out]; exact hlt)
    rw [hpk, Option.getD_some] at cp
    obtain ⟨mb, mo, mcap, hme, hmcs⟩ := (HM.out.carry hbel).head (by rw [← HNM.out]; omega)
    simp only [Value.slice.injEq] at hme
    obtain ⟨rfl, -, rfl⟩ := hme
    obtain ⟨-, -, -, cm⟩ := rw4 (hmcs k m hmk) (show mV m = [.string m.1, .int .i64 m.2.1, .int .i64 m.2.2.1, .int .i64 m.2.2.2] from rfl)
    obtain ⟨cg, fg⟩ := hcells P (by rw [fitK_len, ← HNO.out]; exact hpP)
    have hs : fitK ms os pl (k + 1) = (fitK ms os pl k).set P (((fitK ms os pl k)[P]?.getD 0) - m.2.2.2) := by
     simp only [fitK]
     rw [hpk, hmk]; rfl
    have hxr : -(100 * (k : Int)) ≤ (fitK ms os pl k)[P]?.getD 0 ∧ (fitK ms os pl k)[P]?.getD 0 ≤ 100 := by
     have hl : P < (fitK ms os pl k).length := by rw [fitK_len, ← HNO.out]; exact hpP
     rw [List.getElem?_eq_getElem hl]
     exact HR.out k _ (List.getElem_mem hl)
    obtain ⟨x, hx⟩ : ∃ x, x = (fitK ms os pl k)[P]?.getD 0 := ⟨_, rfl⟩
    obtain ⟨y, hy⟩ : ∃ y, y = m.2.2.2 := ⟨_, rfl⟩
    rw [← hx] at cg hs hxr
    rw [← hy] at cm hs hmrk
    obtain ⟨z, hz⟩ : ∃ z, z = x - y := ⟨_, rfl⟩
    rw [← hz] at hs
    have q1 : IntKind.i64.wrap (x - y) = z := by rw [hz]; exact IntWalk.i64_in _ (by omega)
    have HS := Lib.hid hs
    have hlP : P < (fitK ms os pl k).length := by rw [fitK_len, ← HNO.out]; exact hpP
    have HLP := Lib.hid hlP
    have hg2 : w.heap.size ≤ g := hg
    have hPI : (P : Int) < (NO : Int) := by omega
    have hkN : (k : Int) < (NP : Int) := by omega
    have hkM : (k : Int) < (NM : Int) := by omega
    clear hpk hmk hpr hpcs hmcs hs hx hy hz hxr hmrk hlP fg
    go_upto_region 5 with fail
    refine wp_region_E 11 (by kernel_rfl) ?_
    obtain ⟨wz, hwz⟩ : ∃ v, v = wr.drew := ⟨_, rfl⟩
    rw [← hwz]
    have hlz : Below wr.heap.size wr wz := by rw [hwz]; exact (Below.refl _ _).drew
    have hbz := bthen hbel hlz
    have cp := cellb cp hlz
    have cm := cellb cm hlz
    have cg := cellb cg hlz
    have hcells := hcells.carry hlz
    clear hwz hlz
    refine zV 0 ⟨some 19, .move (.tmp 7), 63, "plan.go:84", #[], none⟩ rfl ?_
    simp only [Act.put, zS]
    refine zV 1 ⟨some 20, .move (.tmp 9), 3, "plan.go:84", #[], none⟩ rfl ?_
    simp only [Act.put, zS]
    refine zV 2 ⟨some 21, .indexAddr 63 (.tmp 19) (.tmp 20), 0, "plan.go:84", #[⟨0, .data⟩, ⟨1, .data⟩], none⟩ rfl ?_
    simp only [Act.put, zS]
    refine zV 3 ⟨some 22, .load 3 (.tmp 21), 3, "plan.go:84", #[⟨2, .data⟩], none⟩ rfl ?_ (hv := fun w hE => by have cp := cellb cp hE; have cm := cellb cm hE; have cg := cellb cg hE; (try dsimp only); go_simp; try rfl)
    simp only [Act.put, zS]
    refine zV 4 ⟨some 23, .move (.tmp 0), 87, "plan.go:84", #[], none⟩ rfl ?_
    simp only [Act.put, zS]
    refine zV 5 ⟨some 24, .move (.tmp 8), 3, "plan.go:84", #[], none⟩ rfl ?_
    simp only [Act.put, zS]
    refine zV 6 ⟨some 25, .indexAddr 87 (.tmp 23) (.tmp 24), 0, "plan.go:84", #[⟨4, .data⟩, ⟨5, .data⟩], none⟩ rfl ?_
    simp only [Act.put, zS]
    refine zV 7 ⟨some 26, .fieldAddr 163 (.tmp 25) 3, 0, "plan.go:84", #[⟨6, .data⟩], none⟩ rfl ?_
    simp only [Act.put, zS]
    refine zV 8 ⟨some 27, .load 3 (.tmp 26), 3, "plan.go:84", #[⟨7, .data⟩], none⟩ rfl ?_ (hv := fun w hE => by have cp := cellb cp hE; have cm := cellb cm hE; have cg := cellb cg hE; (try dsimp only); go_simp; try rfl)
    simp only [Act.put, zS]
    refine zV 9 ⟨some 28, .binOp .sub 3 (.tmp 22) (.tmp 27) 3, 3, "plan.go:84", #[⟨3, .data⟩, ⟨8, .data⟩], none⟩ rfl ?_
    simp only [Act.put, zS]
    refine zV 10 ⟨some 29, .indexAddr 63 (.tmp 19) (.tmp 20), 0, "plan.go:84", #[⟨0, .data⟩, ⟨1, .data⟩, ⟨0, .phase⟩, ⟨1, .phase⟩, ⟨2, .phase⟩, ⟨3, .phase⟩, ⟨4, .phase⟩, ⟨5, .phase⟩, ⟨6, .phase⟩, ⟨7, .phase⟩, ⟨8, .phase⟩, ⟨9, .phase⟩], none⟩ rfl ?_
    simp only [Act.put, zS]
    refine wpAnyE_one (i := 11) (o := ⟨none, .store 3 (.tmp 29) (.tmp 28), 0, "plan.go:84", #[⟨10, .data⟩, ⟨9, .data⟩, ⟨0, .phase⟩, ⟨1, .phase⟩, ⟨2, .phase⟩, ⟨3, .phase⟩, ⟨4, .phase⟩, ⟨5, .phase⟩, ⟨6, .phase⟩, ⟨7, .phase⟩, ⟨8, .phase⟩, ⟨9, .phase⟩], none⟩) (by kernel_rfl) rfl (fun wy1 hE K hK => ?_)
    have cp := cellb cp hE
    have cm := cellb cm hE
    have cg := cellb cg hE
    have hcells := hcells.carry hE
    have hbz1 := bthen hbz hE
    clear hE
    have fF := (hcells P HLP.out).2
    go_simp
    obtain ⟨wx1, hwz⟩ : ∃ v, v = (wy1.setCell ⟨g, P, none⟩ (.int .i64 z)) := ⟨_, rfl⟩
    rw [← hwz]
    have hcz1 : Below w.heap.size w wx1 := by rw [hwz]; exact (hbz1).setCell hg2 _
    have hcells := hcells.set P HLP.out z
    rw [← hwz, ← HS.out] at hcells
    clear hwz
    refine hK _ _ (fun h => absurd rfl h) ?_
    clear hK K
    try simp only [Act.put, zS]
    refine wpAnyE_done (by kernel_rfl) (fun wy2 hE => ?_) _
    have hbz2 := bthen hcz1 hE
    have hcells := hcells.carry hE
    clear hE
    have hbel := hbz2
    obtain ⟨W9, hW9⟩ : ∃ v, v = wy2 := ⟨_, rfl⟩
    rw [← hW9] at hbel hcells ⊢
    clear hW9
    clear cp cm cg q1
    go_wp2
    go_roundw
    case rel => exact ⟨k + 1, by omega, by go_num, hcells, hbel⟩
    case measure => simp [intOf]; omega
   ·have hkN : k = NP := by omega
    have e6 : ¬ (k : Int) < (NP : Int) := by omega
    have hI : Ints wr (.slice (some ⟨g, 0, none⟩) NO cap) (fitK ms os pl pl.length) := by
     rw [← HNP.out, ← hkN]
     refine ⟨_, cap, by rw [fitK_len, ← HNO.out], by rw [fitK_len, ← HNO.out]; exact hgc, fun _ => ⟨g, 0, rfl, fun j hj => ?_⟩⟩
     rw [Nat.zero_add]; exact (hcells j hj).1
    have TXk := Lib.hid (TX.out _ wr _ (by rw [fitK_len, ← HNO.out]; omega) hI)
    clear hcells hI hkN hlt
    go_wp2_with fail
    refine TXk.out.mono ?_
    rintro e w3 ⟨rfl, hb3⟩
    go_wp2
    go_ret
    exact ⟨rfl, bthen hbel hb3⟩
end
end Go.Proofs.YtpmngcffkhbofaaGreatDoor

/- Package valve: changed, Bypassed, Substituted. -/
import Derived.Test.YtpmngcffkhbofaaGreatDoorVaG
namespace Go.Proofs.YtpmngcffkhbofaaGreatDoor
set_option linter.unusedSimpArgs false
set_option linter.unusedVariables false
open Go.RowKit
theorem run_copy_rowK {P : Program} (w : World) (dT sT ty elem : TypeId) (g o dLen dCap : Nat) (a : Addr) (sLen sCap : Nat) (cur : Array Value) (t : TypeId) (cs : List Value) (k : Nat)
 (hu : P.underlying dT = some (.slice elem)) (hs : (P.info? elem).map (·.size) = some k)
 (hg : w.heap[g]? = some (.cells cur t (0, 0))) (hn : cs.length = Nat.min sLen dLen * k)
 (hsrc : ∀ j v, cs[j]? = some v → w.cell? (a.add j) = some v) (hfit : o + cs.length ≤ cur.size) (h1 : ∀ v ∈ cs, v.oneCell' = true) :
 (Builtin.copy_ #[dT, sT] ty #[.slice (some ⟨g, o, none⟩) dLen dCap, .slice (some a) sLen sCap]).run P w =
   .ok (goInt (Nat.min sLen dLen)) (w.setRow g (cur.toList.take o ++ cs ++ cur.toList.drop (o + cs.length)).toArray) := by
 have hl := run_loadCells_list (P := P) w a cs hsrc
 have hst := run_storeCells_at P g o t cs 0 cur w hg (by simpa using hfit) h1
 cases hq : P.info? elem with
 | none => simp [hq] at hs
 | some i =>
   have hi : i.size = k := by simpa [hq] using hs
   simp [Builtin.copy_, run_underlying hu, Builtin.lenOf, Builtin.firstCells, sizeOf, typeInfo, hq, hi, ← hn, hl, hst]
/-- a whole block is copied over. -/
theorem wpList_copyK {P : Program} {w : World} {ops : Array Oper} {rest : List Oper} {o : Oper} {a : Act} {Q : Exit → Act → World → Prop} (hgd : o.guard = none) (d s : Operand) (dT sT : TypeId)
 (ho : o.op = .call { callee := .builtin .copy, args := #[d, s], argTypes := #[dT, sT] }) (elem : TypeId) (hu : P.underlying dT = some (.slice elem)) (k : Nat) (hsz : (P.info? elem).map (·.size) = some k)
 (g n dCap : Nat) (ad : Addr) (sCap : Nat) (hd : a.eval d = .slice (some ⟨g, 0, none⟩) n dCap) (hs : a.eval s = .slice (some ad) n sCap)
 (cur : Array Value) (t : TypeId) (hg : w.heap[g]? = some (.cells cur t (0, 0))) (cs : List Value) (hn : cs.length = n * k) (hcur : cur.size = n * k)
 (hsrc : ∀ j v, cs[j]? = some v → w.cell? (ad.add j) = some v) (h1 : ∀ v ∈ cs, v.oneCell' = true)
 (h : wpList P ops Q rest (a.put o.dst (goInt n)) (w.setRow g cs.toArray)) : wpList P ops Q (o :: rest) a w := by
 refine wpList_plain hgd fun K hK => ?_
 have hmin : Nat.min n n = n := Nat.min_self n
 have hrun := run_copy_rowK (P := P) w dT sT o.type elem g 0 n dCap ad n sCap cur t cs k hu hsz hg (by rw [hmin]; exact hn) hsrc (by omega) h1
 have hdrop : cur.toList.drop (0 + cs.length) = [] := by
  apply List.drop_eq_nil_of_le
  rw [Array.length_toList]; omega
 rw [hdrop, List.take_zero, List.nil_append, List.append_nil, hmin] at hrun
 unfold Oper.wp
 simp [execOp, ho, resolve, invoke, builtin, hd, hs, hrun, Result.andThen]
 exact hK _ _ h
theorem run_copy_noneK {P : Program} (w : World) (dT sT ty elem : TypeId) (d a : Option Addr) (dLen dCap sLen sCap k : Nat) (hu : P.underlying dT = some (.slice elem)) (hs : (P.info? elem).map (·.size) = some k) (hn : Nat.min sLen dLen = 0) :
 (Builtin.copy_ #[dT, sT] ty #[.slice d dLen dCap, .slice a sLen sCap]).run P w = .ok (goInt 0) w := by
 cases hq : P.info? elem with
 | none => simp [hq] at hs
 | some i =>
   have hl : ∀ (x : Addr), (loadCells x 0).run P w = .ok #[] w := fun x => by simpa using run_loadCells_list (P := P) w x [] (by simp)
   cases d <;> cases a <;> simp [Builtin.copy_, run_underlying hu, Builtin.lenOf, Builtin.firstCells, sizeOf, typeInfo, hq, hn, storeCells, hl]
theorem wpList_copyN {P : Program} {w : World} {ops : Array Oper} {rest : List Oper} {o : Oper} {a : Act} {Q : Exit → Act → World → Prop} (hgd : o.guard = none) (d s : Operand) (dT sT : TypeId)
 (ho : o.op = .call { callee := .builtin .copy, args := #[d, s], argTypes := #[dT, sT] }) (elem : TypeId) (hu : P.underlying dT = some (.slice elem)) (k : Nat) (hsz : (P.info? elem).map (·.size) = some k)
 (dd sa : Option Addr) (dCap sCap : Nat) (hd : a.eval d = .slice dd 0 dCap) (hs : a.eval s = .slice sa 0 sCap)
 (h : wpList P ops Q rest (a.put o.dst (goInt 0)) w) : wpList P ops Q (o :: rest) a w := by
 refine wpList_plain hgd fun K hK => ?_
 have hrun := run_copy_noneK (P := P) w dT sT o.type elem dd sa 0 dCap 0 sCap k hu hsz rfl
 unfold Oper.wp
 simp [execOp, ho, resolve, invoke, builtin, hd, hs, hrun, Result.andThen]
 exact hK _ _ h
theorem Tryz.infZvalvePulse : (Tryz.prog.info? 104).map (fun i => (i.zero, i.size, i.bytes)) = some (some (.agg #[.int .i64 0, .int .i64 0]), 2, 16) := by kernel_rfl
theorem Tryz.undZvalvePulse : Tryz.prog.underlying 30 = some (.slice 104) := by kernel_rfl
theorem Tryz.sizePulse : (Tryz.prog.info? 104).map (·.size) = some 2 := by kernel_rfl
/-- the cells of a list of pairs of which the first k have got new second parts. -/
def chF (l : List P2) (g : Int → Int) (k j : Nat) : Int := if j % 2 = 0 then (l[j / 2]?.getD (0, 0)).1 else if j / 2 < k then g (l[j / 2]?.getD (0, 0)).2 else (l[j / 2]?.getD (0, 0)).2
def chgL (l : List P2) (g : Int → Int) : List P2 := l.map fun x => (x.1, g x.2)
theorem chF_set (l : List P2) (g : Int → Int) (k n : Nat) (x : P2) (hx : l[k]? = some x) : (upto (chF l g k) n).set (k * 2 + 1) (g x.2) = upto (chF l g (k + 1)) n := by
 refine upto_set _ _ _ _ _ ?_ ?_
 ·unfold chF
  rw [if_neg (by omega), if_pos (by omega), show (k * 2 + 1) / 2 = k by omega, hx]; rfl
 ·intro j hj
  unfold chF
  by_cases h : j % 2 = 0
  ·rw [if_pos h, if_pos h]
  ·rw [if_neg h, if_neg h]
   by_cases h2 : j / 2 < k
   ·rw [if_pos h2, if_pos (by omega)]
   ·rw [if_neg h2, if_neg (by omega)]
theorem chF_zero (l : List P2) (g : Int → Int) : (upto (chF l g 0) (l.length * 2)).map (Value.int .i64) = l.flatMap pV := by
 apply List.ext_getElem?
 intro j
 rw [List.getElem?_map]
 by_cases hj : j < l.length * 2
 ·rw [upto_get _ _ _ hj]
  obtain ⟨x, hx⟩ : ∃ x, l[j / 2]? = some x := ⟨_, List.getElem?_eq_getElem (by omega)⟩
  unfold chF
  rw [hx]
  by_cases h : j % 2 = 0
  ·rw [if_pos h]
   have := flat_get pV_len l (j / 2) x hx 0 (.int .i64 x.1) rfl
   rw [show j / 2 * 2 + 0 = j by omega] at this
   rw [this]; rfl
  ·rw [if_neg h, if_neg (by omega)]
   have := flat_get pV_len l (j / 2) x hx 1 (.int .i64 x.2) rfl
   rw [show j / 2 * 2 + 1 = j by omega] at this
   rw [this]; rfl
 ·rw [List.getElem?_eq_none (by rw [upto_length]; omega), List.getElem?_eq_none (by rw [flat_len pV_len]; omega)]; rfl
theorem Prs.of_upto {w : World} {G n : Nat} {T : TypeId} {f : Nat → Int} {L : List P2} (h : BlkI w G T (upto f (n * 2))) (hn : n = L.length) (hf : ∀ j x, L[j]? = some x → f (j * 2) = x.1 ∧ f (j * 2 + 1) = x.2) : Prs w (.slice (some ⟨G, 0, none⟩) n n) L := by
 subst hn
 refine ⟨_, _, rfl, Nat.le_refl _, fun _ => ⟨G, 0, rfl, fun j x hj i u hi => ?_⟩⟩
 have hlt := (List.getElem?_eq_some_iff.1 hj).1
 obtain ⟨h0, h1⟩ := hf j x hj
 have hc : ∀ k, k < L.length * 2 → w.cell? ⟨G, k, none⟩ = some (.int .i64 (f k)) := fun k hk => Blk.cell h (by rw [List.getElem?_map, upto_get _ _ _ hk]; rfl)
 rw [Nat.zero_add]
 match i, hi with
 | 0, hi => simp [pV] at hi; subst hi; rw [Nat.add_zero, hc _ (by omega), h0]
 | 1, hi => simp [pV] at hi; subst hi; rw [hc _ (by omega), h1]
 | i + 2, hi => simp [pV] at hi
set_option maxRecDepth 100000 in
set_option maxHeartbeats 4000000 in
theorem changed_any (K : Nat) (cap : Array Value) (henter : ∀ args w, Sem.run Tryz.prog (callFunc K args) w = .ok (.enter K args) w) (g : Int → Int) (v : Value) (l : List P2) (w : World) (hl : l.length ≤ 1000000) (hv : Prs w v l)
 (hf : ∀ x ∈ l, ∀ w1, Below w.heap.size w w1 → Calls Tryz.prog K (#[.int .i64 x.2] ++ cap) w1 fun r w2 => r = .returned (.int .i64 (g x.2)) ∧ Below w1.heap.size w1 w2) :
 Calls Tryz.prog 81 #[v, .func (.func K) #[] cap] w fun r w' => (∃ u, r = .returned u ∧ Prs w' u (chgL l g)) ∧ Below w.heap.size w w' := by
 obtain ⟨i0, hi, hz0, hz1, hz2⟩ := info_parts Tryz.infZvalvePulse
 obtain ⟨n, hn⟩ : ∃ n, n = l.length := ⟨_, rfl⟩
 have hmk := fun W => run_make (P := Tryz.prog) W 30 104 i0 _ Tryz.undZvalvePulse hi hz0 .i64 .i64 (n : Int) (n : Int) (by omega) (by omega) (by rw [hz2]; omega) (by omega)
 rw [hz1] at hmk
 have hmk2 : ∀ W, Sem.run Tryz.prog (Instr.makeSlice 30 (.int .i64 n) (.int .i64 n)) W = .ok (.slice (some ⟨W.heap.size, 0, none⟩) n n) (W.alloc (.cells (madeCells #[.int .i64 0, .int .i64 0] (n * 2)) 104)) := fun W => by
  have := hmk W
  rw [Int.toNat_natCast] at this
  exact this
 clear hmk hi hz0 hz1 hz2
 have HF := Lib.hid hf
 clear hf
 rcases Nat.eq_zero_or_pos n with h0 | h0
 ·have hl0 : l = [] := List.length_eq_zero_iff.1 (by omega)
  subst hl0
  subst h0
  obtain ⟨a, cp, rfl, _, _⟩ := hv
  clear hn
  have hmk3 : ∀ W, Sem.run Tryz.prog (Instr.makeSlice 30 (.int .i64 0) (.int .i64 0)) W = .ok (.slice (some ⟨W.heap.size, 0, none⟩) 0 0) (W.alloc (.cells (madeCells #[.int .i64 0, .int .i64 0] (0 * 2)) 104)) := hmk2
  clear hmk2
  go_enter Tryz.func81, Tryz.ntmps81
  go_upto_region 2 with fail
  obtain ⟨W3, hW3⟩ : ∃ W, W = w.alloc (.cells (madeCells #[.int .i64 0, .int .i64 0] (0 * 2)) 104) := ⟨_, rfl⟩
  have kW3 : Below w.heap.size w W3 := by rw [hW3]; exact below_new _ _
  rw [← hW3]
  clear hW3 hmk3
  go_wp2_with (refine wpList_copyN rfl _ _ _ _ rfl 104 Tryz.undZvalvePulse 2 Tryz.sizePulse _ _ _ _ rfl rfl ?_)
  go_loopw [15] (fun i wr => i = .int .i64 0 ∧ wr = W3) (fun _ _ => 0)
  case atStart => exact ⟨rfl, rfl⟩
  case round =>
   obtain ⟨rfl, rfl⟩ := hrel
   go_wp2
   go_ret
   exact ⟨⟨_, rfl, Rw.nil _ _ _ _ _⟩, kW3⟩
 ·obtain ⟨bb, off, cp, rfl, hcs⟩ := hv.head (by omega)
  have hsrc0 : ∀ (j : Nat) (v : Value), (l.flatMap pV)[j]? = some v → w.cell? ⟨bb, off + j, none⟩ = some v := fun j u hj => by
   have hlt : j < l.length * 2 := by
    have := (List.getElem?_eq_some_iff.1 hj).1
    rwa [flat_len pV_len] at this
   obtain ⟨x, hx⟩ : ∃ x, l[j / 2]? = some x := ⟨_, List.getElem?_eq_getElem (by omega)⟩
   have hc := hcs (j / 2) x hx
   rcases Nat.mod_two_eq_zero_or_one j with hm | hm
   ·have h1 := flat_get pV_len l (j / 2) x hx 0 (.int .i64 x.1) rfl
    rw [show j / 2 * 2 + 0 = j by omega, hj] at h1
    cases h1
    have := hc 0 _ rfl
    rwa [show off + j / 2 * 2 + 0 = off + j by omega] at this
   ·have h1 := flat_get pV_len l (j / 2) x hx 1 (.int .i64 x.2) rfl
    rw [show j / 2 * 2 + 1 = j by omega, hj] at h1
    cases h1
    have := hc 1 _ rfl
    rwa [show off + j / 2 * 2 + 1 = off + j by omega] at this
  have HSRC := Lib.hid hsrc0
  have HN := Lib.hid hn
  have hFL : (l.flatMap pV).length = n * 2 := by rw [flat_len pV_len, hn]
  have HFL := Lib.hid hFL
  rw [← hn] at hl ⊢
  clear hcs hv hsrc0 hFL hn
  go_enter Tryz.func81, Tryz.ntmps81
  go_upto_region 2 with fail
  obtain ⟨cur, hcur⟩ : ∃ c, c = madeCells #[Value.int .i64 0, Value.int .i64 0] (n * 2) := ⟨_, rfl⟩
  have hcs : cur.size = n * 2 := by rw [hcur]; exact size_madeCells _ _
  rw [← hcur]
  obtain ⟨W3, hW3⟩ : ∃ W, W = w.alloc (.cells cur 104) := ⟨_, rfl⟩
  have hg : W3.heap[w.heap.size]? = some (.cells cur 104 (0, 0)) := by rw [hW3]; exact World.alloc_heap_new _ _
  have kW3 : Below w.heap.size w W3 := by rw [hW3]; exact below_new _ _
  rw [← hW3]
  obtain ⟨G, hG⟩ : ∃ G, G = w.heap.size := ⟨_, rfl⟩
  have hGs : w.heap.size ≤ G := by omega
  rw [← hG] at hg ⊢
  have hsrc1 : ∀ (j : Nat) (v : Value), (l.flatMap pV)[j]? = some v → W3.cell? ((⟨bb, off, none⟩ : Addr).add j) = some v := fun j v hj => by
   rw [addr_add]
   exact cellb (HSRC.out j v hj) kW3
  have HS := Lib.hid hsrc1
  have hone : ∀ v ∈ l.flatMap pV, v.oneCell' = true := fun v hv => by
   obtain ⟨x, _, hx⟩ := List.mem_flatMap.1 hv
   simp [pV] at hx
   rcases hx with rfl | rfl <;> rfl
  have HONE := Lib.hid hone
  clear hW3 hcur hmk2 hG HSRC hsrc1 hone
  go_upto_region 3 with (refine wpList_copyK rfl _ _ _ _ rfl 104 Tryz.undZvalvePulse 2 Tryz.sizePulse G n n ⟨bb, off, none⟩ cp rfl rfl cur 104 hg (l.flatMap pV) HFL.out hcs HS.out HONE.out ?_)
  obtain ⟨W4, hW4⟩ : ∃ W, W = W3.setRow G (l.flatMap pV).toArray := ⟨_, rfl⟩
  have i7 : BlkI W4 G 104 (upto (chF l g 0) (n * 2)) := by
   have e := chF_zero l g
   rw [← HN.out] at e
   show Blk W4 G 104 ((upto (chF l g 0) (n * 2)).map (Value.int .i64))
   rw [e, hW4]
   exact setRow_heap W3 G _ _ _ (0, 0) hg
  have hB : Below w.heap.size w W4 := by rw [hW4]; exact below_rowA kW3 hGs _
  rw [← hW4]
  clear hW4 HS hg kW3 hcs HONE HFL
  go_wp2_with fail
  go_loopw [15] (fun i wx => ∃ k : Nat, k ≤ n ∧ i = .int .i64 k ∧ BlkI wx G 104 (upto (chF l g k) (n * 2)) ∧ Below w.heap.size w wx) (fun i _ => n - (intOf i).toNat)
  case atStart => exact ⟨0, by omega, rfl, i7, hB⟩
  case round =>
   clear i7 hB
   obtain ⟨k, hk, rfl, i7, hbel⟩ := hrel
   by_cases hlt : k < n
   ·obtain ⟨x, hx⟩ : ∃ x, l[k]? = some x := ⟨_, List.getElem?_eq_getElem (by rw [← HN.out]; exact hlt)⟩
    have hset := chF_set l g k (n * 2) x hx
    have c1 : wr.cell? ⟨G, k * 2 + 1, none⟩ = some (.int .i64 x.2) := Blk.cell i7 (by
     rw [List.getElem?_map, upto_get _ _ _ (by omega)]
     unfold chF
     rw [if_neg (by omega), if_neg (by omega), show (k * 2 + 1) / 2 = k by omega, hx]; rfl)
    have TF := Lib.hid (HF.out x (List.mem_of_getElem? hx) wr hbel)
    obtain ⟨y, hy⟩ : ∃ y, y = x.2 := ⟨_, rfl⟩
    obtain ⟨z, hz⟩ : ∃ z, z = g x.2 := ⟨_, rfl⟩
    rw [← hz] at hset TF
    rw [← hy] at c1 TF
    have HSET := Lib.hid hset
    have hdk : (k : Int) < (n : Int) := by omega
    clear hset hx hy hz
    go_wp2_with fail
    refine TF.out.mono ?_
    rintro e w5 ⟨rfl, hb5⟩
    have i8 := i7.carry hb5
    have c2 := cellb c1 hb5
    have f2 := Blk.frozen i8 (k * 2 + 1)
    have hbel5 := bthen hbel hb5
    clear c1 i7 hb5 hbel
    go_wp2_with fail
    have i9 := BlkI.set i8 (k * 2 + 1) z
    rw [HSET.out] at i9
    have hbel6 := hbel5.setCell (p := ⟨G, k * 2 + 1, none⟩) hGs (.int .i64 z)
    go_roundw
    case rel => exact ⟨k + 1, by omega, by go_num, i9, hbel6⟩
    case measure => simp [intOf]; omega
   ·have hkn : k = n := by omega
    subst hkn
    have hout : Prs wr (.slice (some ⟨G, 0, none⟩) k k) (chgL l g) := Prs.of_upto i7 (by rw [HN.out]; simp [chgL]) (fun j x hj => by
     unfold chgL at hj
     rw [List.getElem?_map] at hj
     cases hq : l[j]? with
     | none => rw [hq] at hj; cases hj
     | some y =>
       rw [hq] at hj
       have hlt2 := (List.getElem?_eq_some_iff.1 hq).1
       have hN := HN.out
       simp at hj
       subst hj
       unfold chF
       rw [if_pos (by omega), if_neg (by omega), if_pos (by omega), show j * 2 / 2 = j by omega, show (j * 2 + 1) / 2 = j by omega, hq]
       exact ⟨rfl, rfl⟩)
    have e6 : ¬ (k : Int) < (k : Int) := by omega
    go_wp2
    go_ret
    exact ⟨⟨_, rfl, hout⟩, hbel⟩
theorem Tryz.enterBy1 (args : Array Value) (w : World) : Sem.run Tryz.prog (callFunc 82 args) w = .ok (.enter 82 args) w :=
 MuLone.run_callFunc_enter Tryz.func82 (by kernel_rfl) rfl args w
theorem Tryz.enterSu1 (args : Array Value) (w : World) : Sem.run Tryz.prog (callFunc 84 args) w = .ok (.enter 84 args) w :=
 MuLone.run_callFunc_enter Tryz.func84 (by kernel_rfl) rfl args w
theorem Tryz.enterSu2 (args : Array Value) (w : World) : Sem.run Tryz.prog (callFunc 85 args) w = .ok (.enter 85 args) w :=
 MuLone.run_callFunc_enter Tryz.func85 (by kernel_rfl) rfl args w
/-- pulses without a set of valves. -/
def bypV (m p : Int) : Int := bits .andNot .i64 p m
theorem Bypassed1_any (p m : Int) (B : Nat) (w : World) (hB : w.cell? ⟨B, 0, none⟩ = some (.int .i64 m)) :
 Calls Tryz.prog 82 #[.int .i64 p, .pointer (some ⟨B, 0, none⟩)] w fun r w' => r = .returned (.int .i64 (bypV m p)) ∧ Below w.heap.size w w' := by
 go_enter Tryz.func82, Tryz.ntmps82
 go_wp2
 go_ret
 exact ⟨rfl, Below.refl _ _⟩
def bypE (l : List P2) (m : Int) : Int := firstE [trainE l, withinE m 0 4095]
def bypR (l : List P2) (m : Int) : List P2 := if bypE l m = 0 then chgL l (bypV m) else []
set_option maxRecDepth 100000 in
set_option maxHeartbeats 2000000 in
theorem Bypassed_any (v : Value) (l : List P2) (m : Int) (w : World) (hl : l.length ≤ 1000000) (hv : Prs w v l) :
 Calls Tryz.prog 34 #[v, .int .i64 m] w fun r w' => (∃ u, r = .returned (.tuple #[u, .int .i64 (bypE l m)]) ∧ Prs w' u (bypR l m)) ∧ Below w.heap.size w w' := by
 have T0 := Lib.hid (fun W (h : Prs W v l) => CheckTrain_any v l W (by omega) h)
 have T1 := Lib.hid (fun W => within_any m 0 4095 W)
 have TC := Lib.hid (fun (B : Nat) (W : World) (hb : W.cell? ⟨B, 0, none⟩ = some (.int .i64 m)) (h : Prs W v l) => changed_any 82 #[.pointer (some ⟨B, 0, none⟩)] Tryz.enterBy1 (bypV m) v l W hl h (fun x _ w1 hE => Bypassed1_any x.2 m B w1 (cellb hb hE)))
 have hE : bypE l m = firstE [trainE l, withinE m 0 4095] := rfl
 obtain ⟨e0, he0⟩ : ∃ e, e = trainE l := ⟨_, rfl⟩
 obtain ⟨e1, he1⟩ : ∃ e, e = withinE m 0 4095 := ⟨_, rfl⟩
 rw [← he0] at T0 hE
 rw [← he1] at T1 hE
 have hr1 : bypE l m = 0 → bypR l m = chgL l (bypV m) := fun h => by unfold bypR; rw [if_pos h]
 have hr2 : bypE l m ≠ 0 → bypR l m = [] := fun h => by unfold bypR; rw [if_neg h]
 have TF := Lib.hid (fun (u : Value) (W : World) (h : Ints W u [e0, e1]) => first_any u _ W (by simp [maxLen]) h)
 rw [← hE] at TF
 obtain ⟨E, hEE⟩ : ∃ E, E = bypE l m := ⟨_, rfl⟩
 obtain ⟨R, hR⟩ : ∃ R, R = bypR l m := ⟨_, rfl⟩
 rw [← hEE] at TF hr1 hr2 ⊢
 rw [← hR] at hr1 hr2 ⊢
 have HR1 := Lib.hid hr1
 have HR2 := Lib.hid hr2
 clear hE he0 he1 hEE hR hr1 hr2
 go_enter Tryz.func34, Tryz.ntmps34
 go_upto_region 1 with fail
 obtain ⟨W1, hW1⟩ : ∃ v, v = World.alloc w (Obj.cells #[.int .i64 m] 3) := ⟨_, rfl⟩
 have kW1 : Below w.heap.size w W1 := by rw [hW1]; exact below_new _ _
 have iW1 : Blk W1 (w.heap.size) 3 [.int .i64 m] := by rw [hW1]; exact Blk.new _ _ _
 have sW1 : W1.heap.size = w.heap.size + 1 := by rw [hW1]; simp
 rw [← hW1]
 clear hW1
 have c0 := iW1.cell (j := 0) (v := .int .i64 m) rfl
 have hB := kW1
 replace hv := hv.carry kW1
 clear iW1 sW1 kW1
 refine wp_region_E 6 (by kernel_rfl) ?_
 obtain ⟨wz, hwz⟩ : ∃ v, v = W1.drew := ⟨_, rfl⟩
 rw [← hwz]
 have hlz : Below W1.heap.size W1 wz := by rw [hwz]; exact (Below.refl _ _).drew
 have hbz := bthen hB hlz
 have c0 := cellb c0 hlz
 have hv := hv.carry hlz
 clear hwz hlz
 refine zV 0 ⟨some 7, .move (.tmp 0), 30, "valve.go:401", #[], none⟩ rfl ?_
 simp only [Act.put, zS]
 refine zV 2 ⟨some 9, .load 3 (.tmp 3), 3, "valve.go:401", #[], none⟩ rfl ?_ (hv := fun w hE => by have c0 := cellb c0 hE; (try dsimp only); go_simp; try rfl)
 simp only [Act.put, zS]
 refine zB 1 ⟨some 8, .call ⟨.value (.func 63), #[.tmp 7], #[30]⟩, 27, "valve.go:401", #[⟨0, .data⟩], none⟩ (fun w hE => T0.out w (hv.carry hE)) rfl ?_
 simp only [Act.put, zS]
 refine zB 3 ⟨some 10, .call ⟨.value (.func 59), #[.tmp 9, .const (.int .i64 0), .const (.int .i64 4095)], #[3, 3, 3]⟩, 27, "valve.go:401", #[⟨2, .data⟩, ⟨1, .chain⟩], none⟩ (fun w hE => ofPure (T1.out w)) rfl ?_
 simp only [Act.put, zS]
 refine wpAnyE_one (i := 4) (o := ⟨some 11, .buildSlice 150 2 #[(0, .tmp 8), (1, .tmp 10)], 150, "valve.go:401", #[⟨1, .data⟩, ⟨3, .data⟩], none⟩) (by kernel_rfl) rfl (fun wy1 hE K hK => ?_)
 have c0 := cellb c0 hE
 have hv := hv.carry hE
 have hbz1 := bthen hbz hE
 clear hE
 go_simp
 obtain ⟨wx1, hwz⟩ : ∃ v, v = wy1.alloc (Obj.cells #[.int .i64 e0, .int .i64 e1] 27) := ⟨_, rfl⟩
 rw [← hwz]
 have hl : Below wy1.heap.size wy1 wx1 := by rw [hwz]; exact below_new _ _
 have hcz1 := bthen hbz1 hl
 have iN : BlkI wx1 wy1.heap.size 27 [e0, e1] := by rw [hwz]; exact Blk.new _ _ _
 generalize wy1.heap.size = G at iN ⊢
 have c0 := cellb c0 hl
 have hv := hv.carry hl
 clear hwz
 refine hK _ _ (fun _ => hl) ?_
 clear hK K hl
 try simp only [Act.put, zS]
 refine zB 5 ⟨some 12, .call ⟨.value (.func 46), #[.tmp 11], #[150]⟩, 27, "valve.go:401", #[⟨4, .data⟩, ⟨3, .chain⟩], none⟩ (fun w hE => ofPure (TF.out _ w ((BlkI.ints iN rfl).carry hE))) rfl ?_
 simp only [Act.put, zS]
 refine wpAnyE_one (i := 6) (o := ⟨some 6, .assign (.tmp 12), 27, "valve.go:401", #[⟨5, .data⟩, ⟨5, .chain⟩, ⟨0, .phase⟩, ⟨1, .phase⟩, ⟨2, .phase⟩, ⟨3, .phase⟩, ⟨4, .phase⟩, ⟨5, .phase⟩], none⟩) (by kernel_rfl) rfl (fun wy2 hE K hK => ?_)
 have c0 := cellb c0 hE
 have hv := hv.carry hE
 have hbz2 := bthen hcz1 hE
 go_simp
 refine hK _ _ (fun _ => Below.refl _ _) ?_
 clear hK K hE
 try simp only [Act.put, zS]
 refine wpAnyE_done (by kernel_rfl) (fun wy3 hE => ?_) _
 have hbz3 := bthen hbz2 hE
 have c0 := cellb c0 hE
 have hv := hv.carry hE
 clear hE
 have hB := hbz3
 obtain ⟨W9, hW9⟩ : ∃ v, v = wy3 := ⟨_, rfl⟩
 rw [← hW9] at hB c0 hv ⊢
 clear hW9
 by_cases h0 : E = 0
 ·subst h0
  rw [← HR1.out (by trivial)] at TC
  go_wp2_with fail
  refine (TC.out _ W9 c0 hv).mono ?_
  rintro e w3 ⟨⟨u, rfl, hu⟩, hb3⟩
  go_wp2
  go_ret2
  exact ⟨⟨_, rfl, hu⟩, bthen hB hb3⟩
 ·have z : (E == 0) = false := by rw [beq_eq_false_iff_ne]; exact h0
  have hr := HR2.out h0
  clear HR1 HR2
  subst hr
  go_wp2
  go_ret2
  exact ⟨⟨_, rfl, Rw.nil _ _ _ _ _⟩, hB⟩
/-- whether valve s is inserted. -/
def subB (s p : Int) : Bool := bits .and .i64 (p / 2 ^ s.toNat) 1 == 1
theorem Substituted1_any (t p s : Int) (B : Nat) (w : World) (hs : 0 ≤ s ∧ s ≤ 11) (hB : w.cell? ⟨B, 0, none⟩ = some (.int .i64 s)) :
 Calls Tryz.prog 84 #[.agg #[.int .i64 t, .int .i64 p], .pointer (some ⟨B, 0, none⟩)] w fun r w' => r = .returned (.bool (subB s p)) ∧ Below w.heap.size w w' := by
 have k1 := below_new w (.cells #[.int .i64 t, .int .i64 p] 104)
 have hB2 := cellb hB k1
 go_enter Tryz.func84, Tryz.ntmps84
 go_wp2
 go_ret
 exact ⟨rfl, k1⟩
/-- pulses in which valve s stands for valve f. -/
def subV (f s p : Int) : Int := bits .or .i64 (bits .andNot .i64 p (IntKind.i64.wrap (2 ^ f.toNat))) (IntKind.i64.wrap (bits .and .i64 (p / 2 ^ f.toNat) 1 * 2 ^ s.toNat))
set_option maxRecDepth 100000 in
set_option maxHeartbeats 1000000 in
theorem Substituted2_any (p f s : Int) (B C : Nat) (w : World) (hs : 0 ≤ s ∧ s ≤ 11) (hf : 0 ≤ f ∧ f ≤ 11) (hB : w.cell? ⟨B, 0, none⟩ = some (.int .i64 f)) (hC : w.cell? ⟨C, 0, none⟩ = some (.int .i64 s)) :
 Calls Tryz.prog 85 #[.int .i64 p, .pointer (some ⟨B, 0, none⟩), .pointer (some ⟨C, 0, none⟩)] w fun r w' => r = .returned (.int .i64 (subV f s p)) ∧ Below w.heap.size w w' := by
 go_enter Tryz.func85, Tryz.ntmps85
 have hB0 : Below w.heap.size w w := Below.refl _ _
 go_upto_region 1 with fail
 refine wp_region_E 99 (by kernel_rfl) ?_
 obtain ⟨wz, hwz⟩ : ∃ v, v = w.drew := ⟨_, rfl⟩
 rw [← hwz]
 have hlz : Below w.heap.size w wz := by rw [hwz]; exact (Below.refl _ _).drew
 have hbz := bthen hB0 hlz
 have hB := cellb hB hlz
 have hC := cellb hC hlz
 clear hwz hlz
 refine zV 0 ⟨some 5, .move (.tmp 0), 3, "valve.go:416", #[], none⟩ rfl ?_
 simp only [Act.put, zS]
 refine zV 1 ⟨some 6, .load 3 (.tmp 1), 3, "valve.go:416", #[], none⟩ rfl ?_ (hv := fun w hE => by have hB := cellb hB hE; have hC := cellb hC hE; (try dsimp only); go_simp; try rfl)
 simp only [Act.put, zS]
 refine zV 2 ⟨some 7, .binOp .shl 3 (.const (.int .i64 1)) (.tmp 6) 3, 3, "valve.go:416", #[⟨1, .data⟩], none⟩ rfl ?_
 simp only [Act.put, zS]
 refine zV 3 ⟨some 8, .binOp .andNot 3 (.tmp 5) (.tmp 7) 3, 3, "valve.go:416", #[⟨0, .data⟩, ⟨2, .data⟩], none⟩ rfl ?_
 simp only [Act.put, zS]
 refine zV 4 ⟨some 9, .move (.tmp 0), 3, "valve.go:416", #[], none⟩ rfl ?_
 simp only [Act.put, zS]
 refine zV 5 ⟨some 10, .load 3 (.tmp 1), 3, "valve.go:416", #[], none⟩ rfl ?_ (hv := fun w hE => by have hB := cellb hB hE; have hC := cellb hC hE; (try dsimp only); go_simp; try rfl)
 simp only [Act.put, zS]
 refine zV 6 ⟨some 11, .binOp .shr 3 (.tmp 9) (.tmp 10) 3, 3, "valve.go:416", #[⟨4, .data⟩, ⟨5, .data⟩], none⟩ rfl ?_
 simp only [Act.put, zS]
 refine zV 7 ⟨some 12, .binOp .and 3 (.tmp 11) (.const (.int .i64 1)) 3, 3, "valve.go:416", #[⟨6, .data⟩], none⟩ rfl ?_
 simp only [Act.put, zS]
 refine zV 8 ⟨some 13, .load 3 (.tmp 2), 3, "valve.go:416", #[], none⟩ rfl ?_ (hv := fun w hE => by have hB := cellb hB hE; have hC := cellb hC hE; (try dsimp only); go_simp; try rfl)
 simp only [Act.put, zS]
 refine zV 9 ⟨some 14, .binOp .shl 3 (.tmp 12) (.tmp 13) 3, 3, "valve.go:416", #[⟨7, .data⟩, ⟨8, .data⟩], none⟩ rfl ?_
 simp only [Act.put, zS]
 refine zV 10 ⟨some 15, .binOp .or 3 (.tmp 8) (.tmp 14) 3, 3, "valve.go:416", #[⟨3, .data⟩, ⟨9, .data⟩], none⟩ rfl ?_
 simp only [Act.put, zS]
 refine zV 11 ⟨some 4, .assign (.tmp 15), 3, "valve.go:416", #[⟨10, .data⟩, ⟨0, .phase⟩, ⟨1, .phase⟩, ⟨2, .phase⟩, ⟨3, .phase⟩, ⟨4, .phase⟩, ⟨5, .phase⟩, ⟨6, .phase⟩, ⟨7, .phase⟩, ⟨8, .phase⟩, ⟨9, .phase⟩, ⟨10, .phase⟩], none⟩ rfl ?_
 simp only [Act.put, zS]
 refine wpAnyE_done (by kernel_rfl) (fun wy1 hE => ?_) _
 have hbz1 := bthen hbz hE
 have hB := cellb hB hE
 have hC := cellb hC hE
 clear hE
 have hB := hbz1
 go_wp2
 go_ret
 exact ⟨rfl, hB⟩
def subE (l : List P2) (f s : Int) : Int := firstE [trainE l, withinE f 0 11, withinE s 0 11, whenE (f == s) 9]
def substE (l : List P2) (f s : Int) : Int := if subE l f s = 0 then (if (l.any fun x => subB s x.2) = true then 24 else 0) else subE l f s
def substR (l : List P2) (f s : Int) : List P2 := if substE l f s = 0 then chgL l (subV f s) else []
theorem subE_ok {l : List P2} {f s : Int} (h : subE l f s = 0) : trainE l = 0 ∧ (0 ≤ f ∧ f ≤ 11) ∧ (0 ≤ s ∧ s ≤ 11) ∧ f ≠ s := by
 unfold subE at h
 rw [firstE_cons0, firstE_cons0, firstE_cons0, firstE_cons0, withinE_zero, withinE_zero, whenE_zero (by decide)] at h
 exact ⟨h.1, h.2.1, h.2.2.1, by simpa using h.2.2.2.1⟩
set_option maxRecDepth 100000 in
set_option maxHeartbeats 2000000 in
theorem Substituted_any (v : Value) (l : List P2) (f s : Int) (w : World) (hl : l.length ≤ 1000000) (hv : Prs w v l) :
 Calls Tryz.prog 35 #[v, .int .i64 f, .int .i64 s] w fun r w' => (∃ u, r = .returned (.tuple #[u, .int .i64 (substE l f s)]) ∧ Prs w' u (substR l f s)) ∧ Below w.heap.size w w' := by
 have T0 := Lib.hid (fun W (h : Prs W v l) => CheckTrain_any v l W (by omega) h)
 have T1 := Lib.hid (fun W => within_any f 0 11 W)
 have T2 := Lib.hid (fun W => within_any s 0 11 W)
 have T3 := Lib.hid (fun W => when_any (f == s) 9 W)
 have TX := Lib.hid (fun (hs : 0 ≤ s ∧ s ≤ 11) (C : Nat) (W : World) (hc : W.cell? ⟨C, 0, none⟩ = some (.int .i64 s)) (h : Prs W v l) => ContainsP_any 84 #[.pointer (some ⟨C, 0, none⟩)] Tryz.enterSu1 (fun x => subB s x.2) v l W (by omega) h (fun x _ w1 hE => Substituted1_any x.1 x.2 s C w1 hs (cellb hc hE)))
 have TC := Lib.hid (fun (hf : 0 ≤ f ∧ f ≤ 11) (hs : 0 ≤ s ∧ s ≤ 11) (B C : Nat) (W : World) (hb : W.cell? ⟨B, 0, none⟩ = some (.int .i64 f)) (hc : W.cell? ⟨C, 0, none⟩ = some (.int .i64 s)) (h : Prs W v l) => changed_any 85 #[.pointer (some ⟨B, 0, none⟩), .pointer (some ⟨C, 0, none⟩)] Tryz.enterSu2 (subV f s) v l W hl h (fun x _ w1 hE => Substituted2_any x.2 f s B C w1 hs hf (cellb hb hE) (cellb hc hE)))
 have hE : subE l f s = firstE [trainE l, withinE f 0 11, withinE s 0 11, whenE (f == s) 9] := rfl
 have hok := fun h : subE l f s = 0 => subE_ok h
 have hr0 : subE l f s ≠ 0 → substE l f s = subE l f s ∧ substR l f s = [] := fun h => by
  have : substE l f s = subE l f s := by unfold substE; rw [if_neg h]
  exact ⟨this, by unfold substR; rw [this, if_neg h]⟩
 have hr1 : subE l f s = 0 → (l.any fun x => subB s x.2) = true → substE l f s = 24 ∧ substR l f s = [] := fun h h2 => by
  have : substE l f s = 24 := by unfold substE; rw [if_pos h, if_pos h2]
  exact ⟨this, by unfold substR; rw [this, if_neg (by decide)]⟩
 have hr2 : subE l f s = 0 → (l.any fun x => subB s x.2) = false → substE l f s = 0 ∧ substR l f s = chgL l (subV f s) := fun h h2 => by
  have : substE l f s = 0 := by unfold substE; rw [if_pos h, h2, if_neg (by decide)]
  exact ⟨this, by unfold substR; rw [this, if_pos rfl]⟩
 obtain ⟨A, hA⟩ : ∃ A, A = l.any fun x => subB s x.2 := ⟨_, rfl⟩
 obtain ⟨e0, he0⟩ : ∃ e, e = trainE l := ⟨_, rfl⟩
 obtain ⟨e1, he1⟩ : ∃ e, e = withinE f 0 11 := ⟨_, rfl⟩
 obtain ⟨e2, he2⟩ : ∃ e, e = withinE s 0 11 := ⟨_, rfl⟩
 obtain ⟨e3, he3⟩ : ∃ e, e = whenE (f == s) 9 := ⟨_, rfl⟩
 rw [← he0] at T0 hE
 rw [← he1] at T1 hE
 rw [← he2] at T2 hE
 rw [← he3] at T3 hE
 have TF := Lib.hid (fun (u : Value) (W : World) (h : Ints W u [e0, e1, e2, e3]) => first_any u _ W (by simp [maxLen]) h)
 rw [← hE] at TF
 rw [← hA] at TX hr1 hr2
 obtain ⟨E, hEE⟩ : ∃ E, E = subE l f s := ⟨_, rfl⟩
 obtain ⟨E2, hE2⟩ : ∃ E, E = substE l f s := ⟨_, rfl⟩
 obtain ⟨R, hR⟩ : ∃ R, R = substR l f s := ⟨_, rfl⟩
 rw [← hEE] at TF hr0 hr1 hr2 hok
 rw [← hR] at hr0 hr1 hr2 ⊢
 rw [← hE2] at hr0 hr1 hr2 ⊢
 have HR0 := Lib.hid hr0
 have HR1 := Lib.hid hr1
 have HR2 := Lib.hid hr2
 have HOK := Lib.hid hok
 clear hE he0 he1 he2 he3 hEE hE2 hR hr0 hr1 hr2 hok hA
 go_enter Tryz.func35, Tryz.ntmps35
 go_upto_region 1 with fail
 obtain ⟨W1, hW1⟩ : ∃ v, v = World.alloc w (Obj.cells #[.int .i64 f] 3) := ⟨_, rfl⟩
 have kW1 : Below w.heap.size w W1 := by rw [hW1]; exact below_new _ _
 have iW1 : Blk W1 (w.heap.size) 3 [.int .i64 f] := by rw [hW1]; exact Blk.new _ _ _
 have sW1 : W1.heap.size = w.heap.size + 1 := by rw [hW1]; simp
 rw [← hW1]
 clear hW1
 obtain ⟨W2, hW2⟩ : ∃ v, v = World.alloc W1 (Obj.cells #[.int .i64 s] 3) := ⟨_, rfl⟩
 have kW2 : Below W1.heap.size W1 W2 := by rw [hW2]; exact below_new _ _
 have iW2 : Blk W2 (w.heap.size + 1) 3 [.int .i64 s] := by rw [hW2, ← sW1]; exact Blk.new _ _ _
 have sW2 : W2.heap.size = w.heap.size + 1 + 1 := by rw [hW2]; simp [sW1]
 rw [← hW2]
 clear hW2
 have hB := bthen kW1 kW2
 have i1 := iW1.carry kW2
 have c0 := i1.cell (j := 0) (v := .int .i64 f) rfl
 have c1 := iW2.cell (j := 0) (v := .int .i64 s) rfl
 replace hv := hv.carry hB
 clear iW1 sW1 kW1 iW2 sW2 kW2 i1
 refine wp_region_E 12 (by kernel_rfl) ?_
 obtain ⟨wz, hwz⟩ : ∃ v, v = W2.drew := ⟨_, rfl⟩
 rw [← hwz]
 have hlz : Below W2.heap.size W2 wz := by rw [hwz]; exact (Below.refl _ _).drew
 have hbz := bthen hB hlz
 have c0 := cellb c0 hlz
 have c1 := cellb c1 hlz
 have hv := hv.carry hlz
 clear hwz hlz
 refine zV 0 ⟨some 9, .move (.tmp 0), 30, "valve.go:409", #[], none⟩ rfl ?_
 simp only [Act.put, zS]
 refine zV 2 ⟨some 11, .load 3 (.tmp 4), 3, "valve.go:409", #[], none⟩ rfl ?_ (hv := fun w hE => by have c0 := cellb c0 hE; have c1 := cellb c1 hE; (try dsimp only); go_simp; try rfl)
 simp only [Act.put, zS]
 refine zV 4 ⟨some 13, .load 3 (.tmp 5), 3, "valve.go:409", #[], none⟩ rfl ?_ (hv := fun w hE => by have c0 := cellb c0 hE; have c1 := cellb c1 hE; (try dsimp only); go_simp; try rfl)
 simp only [Act.put, zS]
 refine zV 6 ⟨some 15, .load 3 (.tmp 4), 3, "valve.go:409", #[], none⟩ rfl ?_ (hv := fun w hE => by have c0 := cellb c0 hE; have c1 := cellb c1 hE; (try dsimp only); go_simp; try rfl)
 simp only [Act.put, zS]
 refine zV 7 ⟨some 16, .load 3 (.tmp 5), 3, "valve.go:409", #[], none⟩ rfl ?_ (hv := fun w hE => by have c0 := cellb c0 hE; have c1 := cellb c1 hE; (try dsimp only); go_simp; try rfl)
 simp only [Act.put, zS]
 refine zV 8 ⟨some 17, .binOp .eql 3 (.tmp 15) (.tmp 16) 3, 4, "valve.go:409", #[⟨6, .data⟩, ⟨7, .data⟩], none⟩ rfl ?_
 simp only [Act.put, zS]
 refine zB 1 ⟨some 10, .call ⟨.value (.func 63), #[.tmp 9], #[30]⟩, 27, "valve.go:409", #[⟨0, .data⟩], none⟩ (fun w hE => T0.out w (hv.carry hE)) rfl ?_
 simp only [Act.put, zS]
 refine zB 3 ⟨some 12, .call ⟨.value (.func 59), #[.tmp 11, .const (.int .i64 0), .const (.int .i64 11)], #[3, 3, 3]⟩, 27, "valve.go:409", #[⟨2, .data⟩, ⟨1, .chain⟩], none⟩ (fun w hE => ofPure (T1.out w)) rfl ?_
 simp only [Act.put, zS]
 refine zB 5 ⟨some 14, .call ⟨.value (.func 59), #[.tmp 13, .const (.int .i64 0), .const (.int .i64 11)], #[3, 3, 3]⟩, 27, "valve.go:409", #[⟨4, .data⟩, ⟨3, .chain⟩], none⟩ (fun w hE => ofPure (T2.out w)) rfl ?_
 simp only [Act.put, zS]
 refine zB 9 ⟨some 18, .call ⟨.value (.func 47), #[.tmp 17, .const (.int .i64 9)], #[4, 27]⟩, 27, "valve.go:409", #[⟨8, .data⟩, ⟨5, .chain⟩], none⟩ (fun w hE => ofPure (T3.out w)) rfl ?_
 simp only [Act.put, zS]
 refine wpAnyE_one (i := 10) (o := ⟨some 19, .buildSlice 150 4 #[(0, .tmp 10), (1, .tmp 12), (2, .tmp 14), (3, .tmp 18)], 150, "valve.go:409", #[⟨1, .data⟩, ⟨3, .data⟩, ⟨5, .data⟩, ⟨9, .data⟩], none⟩) (by kernel_rfl) rfl (fun wy1 hE K hK => ?_)
 have c0 := cellb c0 hE
 have c1 := cellb c1 hE
 have hv := hv.carry hE
 have hbz1 := bthen hbz hE
 clear hE
 go_simp
 obtain ⟨wx1, hwz⟩ : ∃ v, v = wy1.alloc (Obj.cells #[.int .i64 e0, .int .i64 e1, .int .i64 e2, .int .i64 e3] 27) := ⟨_, rfl⟩
 rw [← hwz]
 have hl : Below wy1.heap.size wy1 wx1 := by rw [hwz]; exact below_new _ _
 have hcz1 := bthen hbz1 hl
 have iN : BlkI wx1 wy1.heap.size 27 [e0, e1, e2, e3] := by rw [hwz]; exact Blk.new _ _ _
 generalize wy1.heap.size = G at iN ⊢
 have c0 := cellb c0 hl
 have c1 := cellb c1 hl
 have hv := hv.carry hl
 clear hwz
 refine hK _ _ (fun _ => hl) ?_
 clear hK K hl
 try simp only [Act.put, zS]
 refine zB 11 ⟨some 20, .call ⟨.value (.func 46), #[.tmp 19], #[150]⟩, 27, "valve.go:409", #[⟨10, .data⟩, ⟨9, .chain⟩], none⟩ (fun w hE => ofPure (TF.out _ w ((BlkI.ints iN rfl).carry hE))) rfl ?_
 simp only [Act.put, zS]
 refine wpAnyE_one (i := 12) (o := ⟨some 8, .assign (.tmp 20), 27, "valve.go:409", #[⟨11, .data⟩, ⟨11, .chain⟩, ⟨0, .phase⟩, ⟨1, .phase⟩, ⟨2, .phase⟩, ⟨3, .phase⟩, ⟨4, .phase⟩, ⟨5, .phase⟩, ⟨6, .phase⟩, ⟨7, .phase⟩, ⟨8, .phase⟩, ⟨9, .phase⟩, ⟨10, .phase⟩, ⟨11, .phase⟩], none⟩) (by kernel_rfl) rfl (fun wy2 hE K hK => ?_)
 have c0 := cellb c0 hE
 have c1 := cellb c1 hE
 have hv := hv.carry hE
 have hbz2 := bthen hcz1 hE
 go_simp
 refine hK _ _ (fun _ => Below.refl _ _) ?_
 clear hK K hE
 try simp only [Act.put, zS]
 refine wpAnyE_done (by kernel_rfl) (fun wy3 hE => ?_) _
 have hbz3 := bthen hbz2 hE
 have c0 := cellb c0 hE
 have c1 := cellb c1 hE
 have hv := hv.carry hE
 clear hE
 have hB := hbz3
 obtain ⟨W9, hW9⟩ : ∃ v, v = wy3 := ⟨_, rfl⟩
 rw [← hW9] at hB c0 c1 hv ⊢
 clear hW9
 by_cases h0 : E = 0
 ·subst h0
  obtain ⟨-, hf, hs, -⟩ := HOK.out (by trivial)
  have TX := Lib.hid (TX.out hs _ W9 c1 hv)
  have HFS := Lib.hid (And.intro hf hs)
  clear hf hs
  cases A with
  | true =>
    obtain ⟨rfl, rfl⟩ := HR1.out (by trivial) (by trivial)
    go_wp2_with fail
    refine TX.out.mono ?_
    rintro e w3 ⟨rfl, hb3⟩
    go_wp2
    go_ret2
    exact ⟨⟨_, rfl, Rw.nil _ _ _ _ _⟩, bthen hB hb3⟩
  | false =>
    obtain ⟨rfl, rfl⟩ := HR2.out (by trivial) (by trivial)
    go_wp2_with fail
    refine TX.out.mono ?_
    rintro e w3 ⟨rfl, hb3⟩
    have d0 := cellb c0 hb3
    have d1 := cellb c1 hb3
    have hv3 := hv.carry hb3
    replace hB := bthen hB hb3
    clear c0 c1 hv hb3
    go_wp2_with fail
    refine (TC.out HFS.out.1 HFS.out.2 _ _ w3 d0 d1 hv3).mono ?_
    rintro e w4 ⟨⟨u, rfl, hu⟩, hb4⟩
    go_wp2
    go_ret2
    exact ⟨⟨_, rfl, hu⟩, bthen hB hb4⟩
 ·have z : (E == 0) = false := by rw [beq_eq_false_iff_ne]; exact h0
  obtain ⟨rfl, rfl⟩ := HR0.out h0
  clear HR0 HR1 HR2
  go_wp2
  go_ret2
  exact ⟨⟨_, rfl, Rw.nil _ _ _ _ _⟩, hB⟩
end Go.Proofs.YtpmngcffkhbofaaGreatDoor

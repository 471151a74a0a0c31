/- Package valve: cost, charged. -/
import Derived.Test.YtpmngcffkhbofaaGreatDoorVaR
import Derived.Laws.RangeAny
namespace Go.Proofs.YtpmngcffkhbofaaGreatDoor
section
set_option linter.unusedSimpArgs false
set_option linter.unusedVariables false
open Go.RowKit
set_option maxHeartbeats 1000000 in
theorem Index_any (v : Value) (l : List Int) (x : Int) (w : World) (hl : l.length ≤ 1000000000) (hv : Ints w v l) :
 Calls Tryz.prog 187 #[v, .int .i64 x] w fun r w' => r = .returned (.int .i64 (findX (fun y => x == y) l)) ∧ w = w' := by
 rcases Nat.eq_zero_or_pos l.length with h0 | h0
 ·obtain rfl : l = [] := List.length_eq_zero_iff.1 h0
  obtain ⟨a, cp, rfl, _, _⟩ := hv
  go_enter Tryz.func187, Tryz.ntmps187
  go_wp2
  go_loop [8] (fun i => i = .int .i64 0) (fun _ => 0)
  case atStart => rfl
  case round =>
   obtain rfl := hrel
   go_wp2
   go_ret
   exact ⟨rfl, rfl⟩
 ·obtain ⟨b, off, cp, rfl, hcs⟩ := hv.head h0
  clear hv
  go_enter Tryz.func187, Tryz.ntmps187
  go_wp2
  go_loop [8] (fun i => ∃ k : Nat, k ≤ l.length ∧ i = .int .i64 k ∧ (l.take k).any (fun y => x == y) = false) (fun i => l.length - (intOf i).toNat)
  case atStart => exact ⟨0, by omega, rfl, rfl⟩
  case round =>
   obtain ⟨k, hk, rfl, hf0⟩ := hrel
   have HF := Lib.hid hf0
   clear hf0
   by_cases hlt : k < l.length
   ·obtain ⟨y, hy⟩ : ∃ y, l[k]? = some y := ⟨_, List.getElem?_eq_getElem hlt⟩
    have c0 := hcs k hlt
    rw [hy, Option.getD_some] at c0
    have HX := Lib.hid hy
    clear hcs hy
    by_cases hg : x = y
    ·subst hg
     have hg' : (x == x) = true := by simp
     have HG := Lib.hid hg'
     clear hg'
     go_wp2
     go_ret
     exact ⟨ret_int (findX_some HX.out HF.out HG.out).symm, rfl⟩
    ·have hg' : (x == y) = false := by simpa using hg
     have HG := Lib.hid hg'
     clear hg'
     go_wp2
     go_round
     case rel => exact ⟨k + 1, by omega, by go_num, anyX_take_succ HX.out HF.out HG.out⟩
     case measure => simp [intOf]; omega
   ·obtain rfl : k = l.length := by omega
    go_wp2
    go_ret
    exact ⟨ret_int (findX_none (by have := HF.out; rwa [List.take_length] at this)).symm, rfl⟩
set_option maxHeartbeats 1000000 in
theorem Contains_any (v : Value) (l : List Int) (x : Int) (w : World) (hl : l.length ≤ 1000000000) (hv : Ints w v l) :
 Calls Tryz.prog 145 #[v, .int .i64 x] w fun r w' => r = .returned (.bool (l.any fun y => x == y)) ∧ w = w' := by
 have HG := Lib.hid (findX_ge (fun y => x == y) l)
 have TI := Lib.hid (Index_any v l x w hl hv)
 go_enter Tryz.func145, Tryz.ntmps145
 go_wp2_with fail
 refine TI.out.mono ?_
 rintro e w2 ⟨rfl, rfl⟩
 go_wp2
 go_ret
 exact ⟨ret_bool HG.out, rfl⟩
/-- the cost of the outages below k that a plan has. -/
def costK (os : List I3) (pl : List Int) : Nat → Int
 | 0 => 0
 | k + 1 => costK os pl k + (if (pl.any fun y => (k : Int) == y) = true then (os[k]?.getD (0, 0, 0)).2.2 else 0)
def costL (os : List I3) (pl : List Int) : Int := costK os pl os.length
theorem costK_rng (os : List I3) (pl : List Int) (ho : ∀ o ∈ os, 0 ≤ o.2.2 ∧ o.2.2 ≤ 1000000) (k : Nat) : 0 ≤ costK os pl k ∧ costK os pl k ≤ 1000000 * k := by
 induction k with
 | zero => simp [costK]
 | succ k ih =>
   simp only [costK]
   have h2 : 0 ≤ (os[k]?.getD (0, 0, 0)).2.2 ∧ (os[k]?.getD (0, 0, 0)).2.2 ≤ 1000000 := by
    cases hq : os[k]? with
    | none => simp
    | some y => exact ho y (List.mem_of_getElem? hq)
   split <;> omega
set_option maxRecDepth 100000 in
set_option maxHeartbeats 2000000 in
theorem cost_any (vo vp : Value) (os : List I3) (pl : List Int) (w : World) (ho : Rw 3 iV w vo os) (hp : Ints w vp pl) (hol : os.length ≤ 1000) (hpl : pl.length ≤ 1000) (hor : ∀ o ∈ os, 0 ≤ o.2.2 ∧ o.2.2 ≤ 1000000) :
 Calls Tryz.prog 88 #[vo, vp] w fun r w' => r = .returned (.int .i64 (costL os pl)) ∧ Below w.heap.size w w' := by
 have TX := Lib.hid (fun (k : Int) (W : World) (h : Ints W vp pl) => Contains_any vp pl k W (by omega) h)
 have HO := Lib.hid ho
 have HP := Lib.hid hp
 have HR := Lib.hid (costK_rng os pl hor)
 have HOR := Lib.hid hor
 obtain ⟨oa, oc, rfl, hoc⟩ := ho.slice
 obtain ⟨NO, hNO⟩ : ∃ N, N = os.length := ⟨_, rfl⟩
 rw [← hNO] at HO hol hoc ⊢
 have HNO := Lib.hid hNO
 have hR : costL os pl = costK os pl NO := by rw [hNO]; rfl
 rw [hR]
 clear ho hp hor hNO hR
 go_enter Tryz.func88, Tryz.ntmps88
 go_wp2_with fail
 go_loopw [5, 10] (fun s i wr => ∃ k : Nat, k ≤ NO ∧ i = .int .i64 k ∧ s = .int .i64 (costK os pl k) ∧ Below w.heap.size w wr) (fun _ i _ => NO - (intOf i).toNat)
 case atStart => exact ⟨0, by omega, rfl, rfl, Below.refl _ _⟩
 case round =>
  obtain ⟨k, hk, rfl, rfl, hbel⟩ := hrel
  by_cases hlt : k < NO
  ·obtain ⟨x, hx⟩ : ∃ x, os[k]? = some x := ⟨_, List.getElem?_eq_getElem (by rw [← HNO.out]; exact hlt)⟩
   obtain ⟨b, off, cp, he, hcs⟩ := (HO.out.carry hbel).head (by rw [← HNO.out]; omega)
   simp only [Value.slice.injEq] at he
   obtain ⟨rfl, -, rfl⟩ := he
   obtain ⟨c0, c1, c2⟩ := rw3 (hcs k x hx) (show iV x = [.int .i64 x.1, .int .i64 x.2.1, .int .i64 x.2.2] from rfl)
   have hs : costK os pl (k + 1) = costK os pl k + (if (pl.any fun y => (k : Int) == y) = true then x.2.2 else 0) := by simp only [costK]; rw [hx]; rfl
   have hr := HR.out k
   have hxr := HOR.out x (List.mem_of_getElem? hx)
   obtain ⟨x0, x1, x2⟩ := x
   simp only at c0 c1 c2 hs hxr
   have kn := below_new wr (.cells #[.int .i64 x0, .int .i64 x1, .int .i64 x2] 165)
   have TXk := Lib.hid (TX.out (k : Int) _ (Ints.below HP.out (hbel.trans (kn.mono hbel.size))))
   obtain ⟨A, hA⟩ : ∃ A, A = pl.any fun y => (k : Int) == y := ⟨_, rfl⟩
   rw [← hA] at hs TXk
   obtain ⟨S, hS⟩ : ∃ S, S = costK os pl k := ⟨_, rfl⟩
   rw [← hS] at hs hr ⊢
   have hdk : (k : Int) < (NO : Int) := by omega
   have q1 : IntKind.i64.wrap (S + x2) = S + x2 := IntWalk.i64_in _ (by omega)
   have hbel2 := hbel.trans (kn.mono hbel.size)
   cases A with
   | true =>
     rw [if_pos rfl] at hs
     have HS := Lib.hid hs
     clear hcs hx hs hA hS hlt
     go_wp2_with fail
     refine TXk.out.mono ?_
     rintro e w2 ⟨rfl, rfl⟩
     go_wp2
     go_roundw
     case rel => exact ⟨k + 1, by omega, by go_num, by rw [HS.out], hbel2⟩
     case measure => simp [intOf]; omega
   | false =>
     rw [if_neg (by decide), Int.add_zero] at hs
     have HS := Lib.hid hs
     clear hcs hx hs hA hS hlt
     go_wp2_with fail
     refine TXk.out.mono ?_
     rintro e w2 ⟨rfl, rfl⟩
     go_wp2
     go_roundw
     case rel => exact ⟨k + 1, by omega, by go_num, by rw [HS.out], hbel2⟩
     case measure => simp [intOf]; omega
  ·have hkN : k = NO := by omega
   subst hkN
   have e6 : ¬ (k : Int) < (k : Int) := by omega
   go_wp2
   go_ret
   exact ⟨rfl, hbel⟩
/-- the sum of the first k prices of modules for which an outage is permitted. -/
def chgK (o : I3) (ms : List Mo) (ps : List Int) : Nat → Int
 | 0 => 0
 | k + 1 => chgK o ms ps k + (if perB o (ms[k]?.getD (⟨#[]⟩, 0, 0, 0)) = true then ps[k]?.getD 0 else 0)
def chgS (o : I3) (ms : List Mo) (ps : List Int) : Int := chgK o ms ps ps.length
theorem chgK_rng (o : I3) (ms : List Mo) (ps : List Int) (hp : ∀ x ∈ ps, -1000000000 ≤ x ∧ x ≤ 1000000000) (k : Nat) : -(1000000000 * (k : Int)) ≤ chgK o ms ps k ∧ chgK o ms ps k ≤ 1000000000 * k := by
 induction k with
 | zero => simp [chgK]
 | succ k ih =>
   simp only [chgK]
   have h2 : -1000000000 ≤ ps[k]?.getD 0 ∧ ps[k]?.getD 0 ≤ 1000000000 := by
    cases hq : ps[k]? with
    | none => simp
    | some y => exact hp y (List.mem_of_getElem? hq)
   split <;> omega
set_option maxRecDepth 100000 in
set_option maxHeartbeats 2000000 in
theorem charged_any (o0 o1 o2 : Int) (vm vp : Value) (ms : List Mo) (ps : List Int) (w : World) (hm : Rw 4 mV w vm ms) (hp : Ints w vp ps) (hml : ps.length ≤ ms.length) (hpl : ms.length ≤ 1000) (hpr : ∀ x ∈ ps, -1000000000 ≤ x ∧ x ≤ 1000000000) :
 Calls Tryz.prog 96 #[.agg #[.int .i64 o0, .int .i64 o1, .int .i64 o2], vm, vp] w fun r w' => r = .returned (.int .i64 (chgS (o0, o1, o2) ms ps)) ∧ Below w.heap.size w w' := by
 have HM := Lib.hid hm
 have HP := Lib.hid hp
 have HR := Lib.hid (chgK_rng (o0, o1, o2) ms ps hpr)
 have HPR := Lib.hid hpr
 obtain ⟨ma, mc, rfl, hmc⟩ := hm.slice
 obtain ⟨pa, pc, rfl, hpc, -⟩ := hp
 obtain ⟨NM, hNM⟩ : ∃ N, N = ms.length := ⟨_, rfl⟩
 obtain ⟨NP, hNP⟩ : ∃ N, N = ps.length := ⟨_, rfl⟩
 have hR : chgS (o0, o1, o2) ms ps = chgK (o0, o1, o2) ms ps NP := by rw [hNP]; rfl
 rw [← hNM] at HM hmc hml hpl ⊢
 rw [← hNP] at HP hpc hml ⊢
 rw [hR]
 have HNM := Lib.hid hNM
 have HNP := Lib.hid hNP
 clear hm hpr hNM hNP hR
 go_enter Tryz.func96, Tryz.ntmps96
 go_upto_region 1 with fail
 obtain ⟨W1, hW1⟩ : ∃ v, v = World.alloc w (Obj.cells #[.int .i64 o0, .int .i64 o1, .int .i64 o2] 165) := ⟨_, rfl⟩
 have kW1 : Below w.heap.size w W1 := by rw [hW1]; exact below_new _ _
 have iW1 : Blk W1 (w.heap.size) 165 [.int .i64 o0, .int .i64 o1, .int .i64 o2] := by rw [hW1]; exact Blk.new _ _ _
 have sW1 : W1.heap.size = w.heap.size + 1 := by rw [hW1]; simp
 rw [← hW1]
 clear hW1
 have d0 := iW1.cell (j := 0) (v := .int .i64 o0) rfl
 have d1 := iW1.cell (j := 1) (v := .int .i64 o1) rfl
 have d2 := iW1.cell (j := 2) (v := .int .i64 o2) rfl
 clear iW1 sW1
 go_wp2_with fail
 go_loopw [7, 12] (fun s i wr => ∃ k : Nat, k ≤ NP ∧ i = .int .i64 k ∧ s = .int .i64 (chgK (o0, o1, o2) ms ps k) ∧ Below W1.heap.size W1 wr) (fun _ i _ => NP - (intOf i).toNat)
 case atStart => exact ⟨0, by omega, rfl, rfl, Below.refl _ _⟩
 case round =>
  obtain ⟨k, hk, rfl, rfl, hbel⟩ := hrel
  have hB := bthen kW1 hbel
  by_cases hlt : k < NP
  ·obtain ⟨p, hpk⟩ : ∃ p, ps[k]? = some p := ⟨_, List.getElem?_eq_getElem (by rw [← HNP.out]; exact hlt)⟩
   obtain ⟨m, hmk⟩ : ∃ m, ms[k]? = some m := ⟨_, List.getElem?_eq_getElem (by rw [← HNM.out]; omega)⟩
   obtain ⟨pb, po, pcap, hpe, hpcs⟩ := (Ints.below HP.out hB).head (by rw [← HNP.out]; omega)
   simp only [Value.slice.injEq] at hpe
   obtain ⟨rfl, -, rfl⟩ := hpe
   have cp := hpcs k (by rw [← HNP.out]; exact hlt)
   rw [hpk, Option.getD_some] at cp
   obtain ⟨mb, mo, mcap, hme, hmcs⟩ := (HM.out.carry hB).head (by rw [← HNM.out]; omega)
   simp only [Value.slice.injEq] at hme
   obtain ⟨rfl, -, rfl⟩ := hme
   obtain ⟨m0, m1, m2, m3⟩ := rw4 (hmcs k m hmk) (show mV m = [.string m.1, .int .i64 m.2.1, .int .i64 m.2.2.1, .int .i64 m.2.2.2] from rfl)
   have hs : chgK (o0, o1, o2) ms ps (k + 1) = chgK (o0, o1, o2) ms ps k + (if perB (o0, o1, o2) m = true then p else 0) := by simp only [chgK]; rw [hpk, hmk]; rfl
   have hr := HR.out k
   have hpr := HPR.out p (List.mem_of_getElem? hpk)
   have TP := Lib.hid (fun W => permits_any o0 o1 o2 m.1 m.2.1 m.2.2.1 m.2.2.2 W)
   obtain ⟨s, y1, y2, y3⟩ := m
   simp only at m0 m1 m2 m3 TP
   obtain ⟨A, hA⟩ : ∃ A, A = perB (o0, o1, o2) (s, y1, y2, y3) := ⟨_, rfl⟩
   rw [← hA] at hs TP
   obtain ⟨S, hS⟩ : ∃ S, S = chgK (o0, o1, o2) ms ps k := ⟨_, rfl⟩
   rw [← hS] at hs hr ⊢
   have hdk : (k : Int) < (NP : Int) := by omega
   have hdm : (k : Int) < (NM : Int) := by omega
   have q1 : IntKind.i64.wrap (S + p) = S + p := IntWalk.i64_in _ (by omega)
   have d0 := cellb d0 hbel
   have d1 := cellb d1 hbel
   have d2 := cellb d2 hbel
   have HS := Lib.hid hs
   have hsA : A = true → chgK (o0, o1, o2) ms ps (k + 1) = S + p := fun h => by rw [HS.out, if_pos h]
   have hsB : A = false → chgK (o0, o1, o2) ms ps (k + 1) = S := fun h => by rw [HS.out, h, if_neg (by decide), Int.add_zero]
   have HSA := Lib.hid hsA
   have HSB := Lib.hid hsB
   clear hpk hmk hpcs hmcs hs hA hS hlt hsA hsB
   go_upto_region 5 with fail
   refine wp_region_E 99 (by kernel_rfl) ?_
   obtain ⟨wz, hwz⟩ : ∃ v, v = wr.drew := ⟨_, rfl⟩
   rw [← hwz]
   have hlz : Below wr.heap.size wr wz := by rw [hwz]; exact (Below.refl _ _).drew
   have hbz := bthen hbel hlz
   have d0 := cellb d0 hlz
   have d1 := cellb d1 hlz
   have d2 := cellb d2 hlz
   have m0 := cellb m0 hlz
   have m1 := cellb m1 hlz
   have m2 := cellb m2 hlz
   have m3 := cellb m3 hlz
   clear hwz hlz
   refine zV 0 ⟨some 17, .load 165 (.tmp 3), 165, "plan.go:158", #[], none⟩ rfl ?_ (hv := fun w hE => by have d0 := cellb d0 hE; have d1 := cellb d1 hE; have d2 := cellb d2 hE; have m0 := cellb m0 hE; have m1 := cellb m1 hE; have m2 := cellb m2 hE; have m3 := cellb m3 hE; (try dsimp only); go_simp; try rfl)
   simp only [Act.put, zS]
   refine zV 1 ⟨some 18, .move (.tmp 1), 87, "plan.go:158", #[], none⟩ rfl ?_
   simp only [Act.put, zS]
   refine zV 2 ⟨some 19, .move (.tmp 8), 3, "plan.go:158", #[], none⟩ rfl ?_
   simp only [Act.put, zS]
   refine zV 3 ⟨some 20, .indexAddr 87 (.tmp 18) (.tmp 19), 0, "plan.go:158", #[⟨1, .data⟩, ⟨2, .data⟩], none⟩ rfl ?_
   simp only [Act.put, zS]
   refine zV 4 ⟨some 21, .load 163 (.tmp 20), 163, "plan.go:158", #[⟨3, .data⟩], none⟩ rfl ?_ (hv := fun w hE => by have d0 := cellb d0 hE; have d1 := cellb d1 hE; have d2 := cellb d2 hE; have m0 := cellb m0 hE; have m1 := cellb m1 hE; have m2 := cellb m2 hE; have m3 := cellb m3 hE; (try dsimp only); go_simp; try rfl)
   simp only [Act.put, zS]
   refine zB 5 ⟨some 22, .call ⟨.value (.func 92), #[.tmp 17, .tmp 21], #[165, 163]⟩, 4, "plan.go:158", #[⟨0, .data⟩, ⟨4, .data⟩], none⟩ (fun w hE => TP.out w) rfl ?_
   simp only [Act.put, zS]
   refine wpAnyE_done (by kernel_rfl) (fun wy1 hE => ?_) _
   have hbz1 := bthen hbz hE
   have d0 := cellb d0 hE
   have d1 := cellb d1 hE
   have d2 := cellb d2 hE
   have m0 := cellb m0 hE
   have m1 := cellb m1 hE
   have m2 := cellb m2 hE
   have m3 := cellb m3 hE
   clear hE
   have hbel := hbz1
   obtain ⟨W9, hW9⟩ : ∃ v, v = wy1 := ⟨_, rfl⟩
   rw [← hW9] at hbel ⊢
   clear hW9
   clear d0 d1 d2 m0 m1 m2 m3 TP
   cases A with
   | true =>
     go_wp2
     go_roundw
     case rel => exact ⟨k + 1, by omega, by go_num, by rw [HSA.out rfl], hbel⟩
     case measure => simp [intOf]; omega
   | false =>
     go_wp2
     go_roundw
     case rel => exact ⟨k + 1, by omega, by go_num, by rw [HSB.out rfl], hbel⟩
     case measure => simp [intOf]; omega
  ·have hkN : k = NP := by omega
   subst hkN
   have e6 : ¬ (k : Int) < (k : Int) := by omega
   go_wp2
   go_ret
   exact ⟨rfl, hB⟩
end
section
set_option linter.unusedSimpArgs false
set_option linter.unusedVariables false
open Go.RowKit
theorem take_snoc (l : List UInt8) (k : Nat) (hk : k < l.length) : l.take (k + 1) = l.take k ++ [l[k]?.getD 0] := by
 rw [List.take_add_one, List.getElem?_eq_getElem hk]; rfl
theorem data_len (s : ByteArray) : s.data.toList.length = s.size := by cases s; rfl
theorem iter_below (w : World) (s : ByteArray) (k : Nat) : Below w.heap.size w (w.iter s k) := below_new _ _
theorem byteAt (s : ByteArray) (k : Nat) (hk : k < s.size) : s[k]'hk = s.data.toList[k]?.getD 0 := by
 have hk' : k < s.data.size := hk
 rw [List.getElem?_eq_getElem (by simpa using hk')]
 rfl
/-- what comes next of a text: an ASCII byte. -/
theorem next_lo (w : World) (s : ByteArray) (k : Nat) (hk : k < s.size) (h : (s.data.toList[k]?.getD 0).toNat < 128) (ty : TypeId) :
 Sem.run Tryz.prog (Instr.next (.pointer (some ⟨w.heap.size, 0, none⟩)) true ty) (w.iter s k) = .ok (.tuple #[.bool true, .int .i64 (k : Int), .int .i32 ((s.data.toList[k]?.getD 0).toNat : Int)]) (w.iter s (k + 1)) := by
 rw [run_next_ascii w s k ty hk (by rw [byteAt s k hk]; exact h), byteAt s k hk]
/-- something else. -/
theorem next_hi (w : World) (s : ByteArray) (k : Nat) (hk : k < s.size) (h : 128 ≤ (s.data.toList[k]?.getD 0).toNat) :
 ∃ (r : Int) (q : Nat), 127 < r ∧ ∀ ty, Sem.run Tryz.prog (Instr.next (.pointer (some ⟨w.heap.size, 0, none⟩)) true ty) (w.iter s k) = .ok (.tuple #[.bool true, .int .i64 (k : Int), .int .i32 r]) (w.iter s q) := by
 have hh := decode_high s k hk (by rw [byteAt s k hk]; exact h)
 exact ⟨((Utf8.decode s k).1 : Int), _, by omega, fun ty => run_next_any w s k ty hk⟩
/-- whether a byte may stand at a place of a name. -/
def nameC (k : Nat) (c : Int) : Bool := decide ((65 ≤ c ∧ c ≤ 90) ∨ (97 ≤ c ∧ c ≤ 122) ∨ (k ≠ 0 ∧ ((48 ≤ c ∧ c ≤ 57) ∨ c = 95)))
def nameL (l : List UInt8) : Bool := (List.range l.length).all fun k => nameC k (((l[k]?.getD 0).toNat : Nat) : Int)
def nameB (l : List UInt8) : Bool := decide (0 < l.length ∧ l.length ≤ 24) && nameL l
theorem nameB_false {l : List UInt8} {k : Nat} (hk : k < l.length) (h : nameC k (((l[k]?.getD 0).toNat : Nat) : Int) = false) : nameB l = false := by
 unfold nameB nameL
 rw [Bool.and_eq_false_iff]
 right
 rw [List.all_eq_false]
 exact ⟨k, List.mem_range.2 hk, by rw [h]; decide⟩
set_option maxRecDepth 100000 in
set_option maxHeartbeats 4000000 in
theorem IsName_any (s : ByteArray) (w : World) (hs : s.size ≤ 1000000) :
 Calls Tryz.prog 183 #[.string s] w fun e w' => e = .returned (.bool (nameB s.data.toList)) ∧ Below w.heap.size w w' := by
 have HL := Lib.hid (data_len s)
 have hlo := fun (k : Nat) (hk : k < s.size) => next_lo w s k hk
 have hhi := fun (k : Nat) (hk : k < s.size) => next_hi w s k hk
 have hend := fun (k : Nat) (hk : ¬ k < s.size) ty => run_next_end (P := Tryz.prog) w s k ty hk
 have hibl := fun k => iter_below w s k
 have hse : s.toList.isEmpty = decide (s.data.toList.length = 0) := by
  rw [ByteArray.toList_eq]
  cases s.data.toList <;> rfl
 obtain ⟨L, hL⟩ : ∃ L, L = s.data.toList := ⟨_, rfl⟩
 rw [← hL] at HL hlo hhi hse ⊢
 have HLO := Lib.hid hlo
 have HHI := Lib.hid hhi
 have HEND := Lib.hid hend
 have HIB := Lib.hid hibl
 clear hL hlo hhi hend hibl
 obtain ⟨n, hn⟩ : ∃ n, n = s.size := ⟨_, rfl⟩
 have hn' : s.size = n := hn.symm
 rw [HL.out, hn'] at hse
 rw [hn'] at HL HLO HHI HEND hs
 clear hn
 have HF := Lib.hid (fun k (hk : k < n) (h : nameC k (((L[k]?.getD 0).toNat : Nat) : Int) = false) => nameB_false (l := L) (by rw [HL.out]; exact hk) h)
 have HT := Lib.hid (fun (h : (List.range n).all (fun k => nameC k (((L[k]?.getD 0).toNat : Nat) : Int)) = true) => (show nameB L = decide (0 < n ∧ n ≤ 24) by unfold nameB nameL; rw [HL.out, h, Bool.and_true]))
 have HSE := Lib.hid hse
 clear hse
 go_enter Tryz.func183, Tryz.ntmps183
 go_wp2
 go_loopw [2] (fun v wr => ∃ k : Nat, k ≤ n ∧ v = .bool false ∧ (List.range k).all (fun k => nameC k (((L[k]?.getD 0).toNat : Nat) : Int)) = true ∧ wr = w.iter s k) (fun _ wr => n - wr.iterPos w.heap.size)
 case atStart => exact ⟨0, by omega, rfl, rfl, rfl⟩
 case round =>
  obtain ⟨k, hk, rfl, ha, rfl⟩ := hrel
  have HA := Lib.hid ha
  clear ha
  by_cases hlt : k < n
  ·have HBL := HLO.out k hlt
   have HBH := HHI.out k hlt
   have HFk := HF.out k hlt
   have HTk := Lib.hid (fun (h : nameC k (((L[k]?.getD 0).toNat : Nat) : Int) = true) => (show (List.range (k + 1)).all (fun k => nameC k (((L[k]?.getD 0).toNat : Nat) : Int)) = true by rw [List.range_succ, List.all_append, HA.out]; simp [h]))
   generalize (L[k]?.getD 0) = b at HBL HBH HFk HTk
   have HFK := Lib.hid HFk
   by_cases hc : b.toNat < 128
   ·have hnx := HBL hc
    clear HBL HBH HFk
    obtain ⟨c, hcc⟩ : ∃ c : Int, c = (b.toNat : Int) := ⟨_, rfl⟩
    rw [← hcc] at hnx HFK HTk
    have hc0 : 0 ≤ c ∧ c ≤ 127 := by omega
    clear hcc hc
    have hcases : (c < 48) ∨ (48 ≤ c ∧ c ≤ 57) ∨ (58 ≤ c ∧ c ≤ 64) ∨ (65 ≤ c ∧ c ≤ 90) ∨ (91 ≤ c ∧ c ≤ 94) ∨ (c = 95) ∨ (c = 96) ∨ (97 ≤ c ∧ c ≤ 122) ∨ (123 ≤ c) := by omega
    by_cases hk0 : k = 0
    ·subst hk0
     rcases hcases with hr | hr | hr | hr | hr | hr | hr | hr | hr
     ·have d65 : decide (65 ≤ c) = false := by simp; omega
      have d90 : decide (c ≤ 90) = true := by simp; omega
      have d97 : decide (97 ≤ c) = false := by simp; omega
      have d122 : decide (c ≤ 122) = true := by simp; omega
      have d48 : decide (c < 48) = true := by simp; omega
      have d57 : decide (57 < c) = false := by simp; omega
      have d95 : (c != 95) = true := by rw [bne_iff_ne]; omega
      have HN := Lib.hid (HFK.out (by unfold nameC; exact decide_eq_false (by omega)))
      clear hr
      go_wp2
      go_ret
      exact ⟨ret_bool HN.out.symm, HIB.out _⟩
     ·have d65 : decide (65 ≤ c) = false := by simp; omega
      have d90 : decide (c ≤ 90) = true := by simp; omega
      have d97 : decide (97 ≤ c) = false := by simp; omega
      have d122 : decide (c ≤ 122) = true := by simp; omega
      have d48 : decide (c < 48) = false := by simp; omega
      have d57 : decide (57 < c) = false := by simp; omega
      have d95 : (c != 95) = true := by rw [bne_iff_ne]; omega
      have HN := Lib.hid (HFK.out (by unfold nameC; exact decide_eq_false (by omega)))
      clear hr
      go_wp2
      go_ret
      exact ⟨ret_bool HN.out.symm, HIB.out _⟩
     ·have d65 : decide (65 ≤ c) = false := by simp; omega
      have d90 : decide (c ≤ 90) = true := by simp; omega
      have d97 : decide (97 ≤ c) = false := by simp; omega
      have d122 : decide (c ≤ 122) = true := by simp; omega
      have d48 : decide (c < 48) = false := by simp; omega
      have d57 : decide (57 < c) = true := by simp; omega
      have d95 : (c != 95) = true := by rw [bne_iff_ne]; omega
      have HN := Lib.hid (HFK.out (by unfold nameC; exact decide_eq_false (by omega)))
      clear hr
      go_wp2
      go_ret
      exact ⟨ret_bool HN.out.symm, HIB.out _⟩
     ·have d65 : decide (65 ≤ c) = true := by simp; omega
      have d90 : decide (c ≤ 90) = true := by simp; omega
      have d97 : decide (97 ≤ c) = false := by simp; omega
      have d122 : decide (c ≤ 122) = true := by simp; omega
      have d48 : decide (c < 48) = false := by simp; omega
      have d57 : decide (57 < c) = true := by simp; omega
      have d95 : (c != 95) = true := by rw [bne_iff_ne]; omega
      have HN := Lib.hid (HTk.out (by unfold nameC; exact decide_eq_true (by omega)))
      clear hr
      go_wp2
      go_roundw
      case rel => exact ⟨0 + 1, by omega, by trivial, HN.out, rfl⟩
      case measure => simp; omega
     ·have d65 : decide (65 ≤ c) = true := by simp; omega
      have d90 : decide (c ≤ 90) = false := by simp; omega
      have d97 : decide (97 ≤ c) = false := by simp; omega
      have d122 : decide (c ≤ 122) = true := by simp; omega
      have d48 : decide (c < 48) = false := by simp; omega
      have d57 : decide (57 < c) = true := by simp; omega
      have d95 : (c != 95) = true := by rw [bne_iff_ne]; omega
      have HN := Lib.hid (HFK.out (by unfold nameC; exact decide_eq_false (by omega)))
      clear hr
      go_wp2
      go_ret
      exact ⟨ret_bool HN.out.symm, HIB.out _⟩
     ·have d65 : decide (65 ≤ c) = true := by simp; omega
      have d90 : decide (c ≤ 90) = false := by simp; omega
      have d97 : decide (97 ≤ c) = false := by simp; omega
      have d122 : decide (c ≤ 122) = true := by simp; omega
      have d48 : decide (c < 48) = false := by simp; omega
      have d57 : decide (57 < c) = true := by simp; omega
      have d95 : (c != 95) = false := by rw [bne_eq_false_iff_eq]; omega
      have HN := Lib.hid (HFK.out (by unfold nameC; exact decide_eq_false (by omega)))
      clear hr
      go_wp2
      go_ret
      exact ⟨ret_bool HN.out.symm, HIB.out _⟩
     ·have d65 : decide (65 ≤ c) = true := by simp; omega
      have d90 : decide (c ≤ 90) = false := by simp; omega
      have d97 : decide (97 ≤ c) = false := by simp; omega
      have d122 : decide (c ≤ 122) = true := by simp; omega
      have d48 : decide (c < 48) = false := by simp; omega
      have d57 : decide (57 < c) = true := by simp; omega
      have d95 : (c != 95) = true := by rw [bne_iff_ne]; omega
      have HN := Lib.hid (HFK.out (by unfold nameC; exact decide_eq_false (by omega)))
      clear hr
      go_wp2
      go_ret
      exact ⟨ret_bool HN.out.symm, HIB.out _⟩
     ·have d65 : decide (65 ≤ c) = true := by simp; omega
      have d90 : decide (c ≤ 90) = false := by simp; omega
      have d97 : decide (97 ≤ c) = true := by simp; omega
      have d122 : decide (c ≤ 122) = true := by simp; omega
      have d48 : decide (c < 48) = false := by simp; omega
      have d57 : decide (57 < c) = true := by simp; omega
      have d95 : (c != 95) = true := by rw [bne_iff_ne]; omega
      have HN := Lib.hid (HTk.out (by unfold nameC; exact decide_eq_true (by omega)))
      clear hr
      go_wp2
      go_roundw
      case rel => exact ⟨0 + 1, by omega, by trivial, HN.out, rfl⟩
      case measure => simp; omega
     ·have d65 : decide (65 ≤ c) = true := by simp; omega
      have d90 : decide (c ≤ 90) = false := by simp; omega
      have d97 : decide (97 ≤ c) = true := by simp; omega
      have d122 : decide (c ≤ 122) = false := by simp; omega
      have d48 : decide (c < 48) = false := by simp; omega
      have d57 : decide (57 < c) = true := by simp; omega
      have d95 : (c != 95) = true := by rw [bne_iff_ne]; omega
      have HN := Lib.hid (HFK.out (by unfold nameC; exact decide_eq_false (by omega)))
      clear hr
      go_wp2
      go_ret
      exact ⟨ret_bool HN.out.symm, HIB.out _⟩
    ·have hkb : ((k : Int) == 0) = false := by rw [beq_eq_false_iff_ne]; omega
     rcases hcases with hr | hr | hr | hr | hr | hr | hr | hr | hr
     ·have d65 : decide (65 ≤ c) = false := by simp; omega
      have d90 : decide (c ≤ 90) = true := by simp; omega
      have d97 : decide (97 ≤ c) = false := by simp; omega
      have d122 : decide (c ≤ 122) = true := by simp; omega
      have d48 : decide (c < 48) = true := by simp; omega
      have d57 : decide (57 < c) = false := by simp; omega
      have d95 : (c != 95) = true := by rw [bne_iff_ne]; omega
      have HN := Lib.hid (HFK.out (by unfold nameC; exact decide_eq_false (by omega)))
      clear hr
      go_wp2
      go_ret
      exact ⟨ret_bool HN.out.symm, HIB.out _⟩
     ·have d65 : decide (65 ≤ c) = false := by simp; omega
      have d90 : decide (c ≤ 90) = true := by simp; omega
      have d97 : decide (97 ≤ c) = false := by simp; omega
      have d122 : decide (c ≤ 122) = true := by simp; omega
      have d48 : decide (c < 48) = false := by simp; omega
      have d57 : decide (57 < c) = false := by simp; omega
      have d95 : (c != 95) = true := by rw [bne_iff_ne]; omega
      have HN := Lib.hid (HTk.out (by unfold nameC; exact decide_eq_true (by omega)))
      clear hr
      go_wp2
      go_roundw
      case rel => exact ⟨k + 1, by omega, by trivial, HN.out, rfl⟩
      case measure => simp; omega
     ·have d65 : decide (65 ≤ c) = false := by simp; omega
      have d90 : decide (c ≤ 90) = true := by simp; omega
      have d97 : decide (97 ≤ c) = false := by simp; omega
      have d122 : decide (c ≤ 122) = true := by simp; omega
      have d48 : decide (c < 48) = false := by simp; omega
      have d57 : decide (57 < c) = true := by simp; omega
      have d95 : (c != 95) = true := by rw [bne_iff_ne]; omega
      have HN := Lib.hid (HFK.out (by unfold nameC; exact decide_eq_false (by omega)))
      clear hr
      go_wp2
      go_ret
      exact ⟨ret_bool HN.out.symm, HIB.out _⟩
     ·have d65 : decide (65 ≤ c) = true := by simp; omega
      have d90 : decide (c ≤ 90) = true := by simp; omega
      have d97 : decide (97 ≤ c) = false := by simp; omega
      have d122 : decide (c ≤ 122) = true := by simp; omega
      have d48 : decide (c < 48) = false := by simp; omega
      have d57 : decide (57 < c) = true := by simp; omega
      have d95 : (c != 95) = true := by rw [bne_iff_ne]; omega
      have HN := Lib.hid (HTk.out (by unfold nameC; exact decide_eq_true (by omega)))
      clear hr
      go_wp2
      go_roundw
      case rel => exact ⟨k + 1, by omega, by trivial, HN.out, rfl⟩
      case measure => simp; omega
     ·have d65 : decide (65 ≤ c) = true := by simp; omega
      have d90 : decide (c ≤ 90) = false := by simp; omega
      have d97 : decide (97 ≤ c) = false := by simp; omega
      have d122 : decide (c ≤ 122) = true := by simp; omega
      have d48 : decide (c < 48) = false := by simp; omega
      have d57 : decide (57 < c) = true := by simp; omega
      have d95 : (c != 95) = true := by rw [bne_iff_ne]; omega
      have HN := Lib.hid (HFK.out (by unfold nameC; exact decide_eq_false (by omega)))
      clear hr
      go_wp2
      go_ret
      exact ⟨ret_bool HN.out.symm, HIB.out _⟩
     ·have d65 : decide (65 ≤ c) = true := by simp; omega
      have d90 : decide (c ≤ 90) = false := by simp; omega
      have d97 : decide (97 ≤ c) = false := by simp; omega
      have d122 : decide (c ≤ 122) = true := by simp; omega
      have d48 : decide (c < 48) = false := by simp; omega
      have d57 : decide (57 < c) = true := by simp; omega
      have d95 : (c != 95) = false := by rw [bne_eq_false_iff_eq]; omega
      have HN := Lib.hid (HTk.out (by unfold nameC; exact decide_eq_true (by omega)))
      clear hr
      go_wp2
      go_roundw
      case rel => exact ⟨k + 1, by omega, by trivial, HN.out, rfl⟩
      case measure => simp; omega
     ·have d65 : decide (65 ≤ c) = true := by simp; omega
      have d90 : decide (c ≤ 90) = false := by simp; omega
      have d97 : decide (97 ≤ c) = false := by simp; omega
      have d122 : decide (c ≤ 122) = true := by simp; omega
      have d48 : decide (c < 48) = false := by simp; omega
      have d57 : decide (57 < c) = true := by simp; omega
      have d95 : (c != 95) = true := by rw [bne_iff_ne]; omega
      have HN := Lib.hid (HFK.out (by unfold nameC; exact decide_eq_false (by omega)))
      clear hr
      go_wp2
      go_ret
      exact ⟨ret_bool HN.out.symm, HIB.out _⟩
     ·have d65 : decide (65 ≤ c) = true := by simp; omega
      have d90 : decide (c ≤ 90) = false := by simp; omega
      have d97 : decide (97 ≤ c) = true := by simp; omega
      have d122 : decide (c ≤ 122) = true := by simp; omega
      have d48 : decide (c < 48) = false := by simp; omega
      have d57 : decide (57 < c) = true := by simp; omega
      have d95 : (c != 95) = true := by rw [bne_iff_ne]; omega
      have HN := Lib.hid (HTk.out (by unfold nameC; exact decide_eq_true (by omega)))
      clear hr
      go_wp2
      go_roundw
      case rel => exact ⟨k + 1, by omega, by trivial, HN.out, rfl⟩
      case measure => simp; omega
     ·have d65 : decide (65 ≤ c) = true := by simp; omega
      have d90 : decide (c ≤ 90) = false := by simp; omega
      have d97 : decide (97 ≤ c) = true := by simp; omega
      have d122 : decide (c ≤ 122) = false := by simp; omega
      have d48 : decide (c < 48) = false := by simp; omega
      have d57 : decide (57 < c) = true := by simp; omega
      have d95 : (c != 95) = true := by rw [bne_iff_ne]; omega
      have HN := Lib.hid (HFK.out (by unfold nameC; exact decide_eq_false (by omega)))
      clear hr
      go_wp2
      go_ret
      exact ⟨ret_bool HN.out.symm, HIB.out _⟩
   ·obtain ⟨r, q, hr, hnx⟩ := HBH (by omega)
    have hfalse := HFK.out (by unfold nameC; exact decide_eq_false (by omega))
    have HFA := Lib.hid hfalse
    clear HBL HBH hc HFk hfalse
    by_cases hk0 : k = 0
    ·subst hk0
     have d65 : decide (65 ≤ r) = true := by simp; omega
     have d90 : decide (r ≤ 90) = false := by simp; omega
     have d97 : decide (97 ≤ r) = true := by simp; omega
     have d122 : decide (r ≤ 122) = false := by simp; omega
     have d48 : decide (r < 48) = false := by simp; omega
     have d57 : decide (57 < r) = true := by simp; omega
     have d95 : (r != 95) = true := by rw [bne_iff_ne]; omega
     clear hr
     go_wp2
     go_ret
     exact ⟨ret_bool HFA.out.symm, HIB.out _⟩
    ·have hkb : ((k : Int) == 0) = false := by rw [beq_eq_false_iff_ne]; omega
     have d65 : decide (65 ≤ r) = true := by simp; omega
     have d90 : decide (r ≤ 90) = false := by simp; omega
     have d97 : decide (97 ≤ r) = true := by simp; omega
     have d122 : decide (r ≤ 122) = false := by simp; omega
     have d48 : decide (r < 48) = false := by simp; omega
     have d57 : decide (57 < r) = true := by simp; omega
     have d95 : (r != 95) = true := by rw [bne_iff_ne]; omega
     clear hr
     go_wp2
     go_ret
     exact ⟨ret_bool HFA.out.symm, HIB.out _⟩
  ·obtain rfl : k = n := by omega
   have hnx := HEND.out k (by omega)
   have HR := Lib.hid (HT.out HA.out)
   rcases Nat.eq_zero_or_pos k with h0 | h0
   ·have hse0 : s.toList.isEmpty = true := by rw [HSE.out]; exact decide_eq_true h0
    have HR2 := Lib.hid (show nameB L = false by rw [HR.out]; exact decide_eq_false (by omega))
    have H0 := Lib.hid h0
    clear h0
    go_wp2
    all_goals (go_ret; exact ⟨ret_bool HR2.out.symm, HIB.out _⟩)
   ·have hse0 : s.toList.isEmpty = false := by rw [HSE.out]; exact decide_eq_false (by omega)
    by_cases h24 : k ≤ 24
    ·have HR2 := Lib.hid (show nameB L = true by rw [HR.out]; exact decide_eq_true (by omega))
     have d24 : decide ((k : Int) ≤ 24) = true := by simp; omega
     have H0 := Lib.hid h0
     have H1 := Lib.hid h24
     clear h0 h24
     go_wp2
     all_goals (go_ret; exact ⟨ret_bool HR2.out.symm, HIB.out _⟩)
    ·have HR2 := Lib.hid (show nameB L = false by rw [HR.out]; exact decide_eq_false (by omega))
     have d24 : decide ((k : Int) ≤ 24) = false := by simp; omega
     have H0 := Lib.hid h0
     have H1 := Lib.hid h24
     clear h0 h24
     go_wp2
     all_goals (go_ret; exact ⟨ret_bool HR2.out.symm, HIB.out _⟩)
end
end Go.Proofs.YtpmngcffkhbofaaGreatDoor

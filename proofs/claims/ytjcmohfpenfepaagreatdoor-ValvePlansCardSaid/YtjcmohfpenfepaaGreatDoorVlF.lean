/- The law's conversions of modules, outages, deliveries, integers. (printed by gen/valLC.py) -/
import Derived.Test.YtjcmohfpenfepaaGreatDoorVbM
import Derived.Test.YtjcmohfpenfepaaGreatDoorVcF
import Derived.Test.YtjcmohfpenfepaaGreatDoorVbN
import Derived.Test.YtjcmohfpenfepaaGreatDoorVlB
import Derived.Test.YtjcmohfpenfepaaGreatDoorVcI
import Derived.Test.YtjcmohfpenfepaaGreatDoorVdB
namespace Go.Proofs.YtjcmohfpenfepaaGreatDoor
section
set_option linter.unusedSimpArgs false
set_option linter.unusedVariables false
open Go.RowKit
theorem Tryz.infZvalveModule : (Tryz.prog.info? 147).map (fun i => (i.zero, i.size, i.bytes)) = some (some (.agg #[.string ⟨#[]⟩, .int .i64 0, .int .i64 0, .int .i64 0]), 4, 40) := by kernel_rfl
theorem Tryz.undZvalveModule : Tryz.prog.underlying 58 = some (.slice 147) := by kernel_rfl
set_option maxRecDepth 100000 in
set_option maxHeartbeats 2000000 in
theorem units_any (v : Value) (l : List Mo) (w : World) (hl : l.length ≤ 1000000) (hv : Rw 4 mV w v l) :
 Calls Tryz.prog 23 #[v] w fun r w' => (∃ u, r = .returned u ∧ OwR w' w.heap.size 147 4 mV u l) ∧ Below w.heap.size w w' := by
 obtain ⟨i0, hi, hz0, hz1, hz2⟩ := info_parts Tryz.infZvalveModule
 have HV := Lib.hid hv
 obtain ⟨va, vc, rfl, hvc⟩ := hv.slice
 obtain ⟨N, hN⟩ : ∃ N, N = l.length := ⟨_, rfl⟩
 rw [← hN] at HV hl ⊢
 have HN := Lib.hid hN
 clear hv hN hvc
 go_enter Tryz.func23, Tryz.ntmps23
 go_wp2_with fail
 go_loopw [3, 8] (fun u i wr => ∃ k : Nat, k ≤ N ∧ i = .int .i64 k ∧ wr.ownsRow w.heap.size 147 4 u k ((l.take k).flatMap mV) ∧ Below w.heap.size w wr) (fun _ i _ => N - (intOf i).toNat)
 case atStart => exact ⟨0, by omega, rfl, World.ownsRow_nil _ _ _ _, Below.refl _ _⟩
 case round =>
  obtain ⟨k, hk, rfl, hown, hbel⟩ := hrel
  by_cases hlt : k < N
  ·obtain ⟨x, hx⟩ : ∃ x, l[k]? = some x := ⟨_, List.getElem?_eq_getElem (by rw [← HN.out]; exact hlt)⟩
   obtain ⟨b, off, cp, he, hcs⟩ := (HV.out.carry hbel).head (by rw [← HN.out]; omega)
   simp only [Value.slice.injEq] at he
   obtain ⟨rfl, -, rfl⟩ := he
   obtain ⟨c0, c1, c2, c3⟩ := rw4 (hcs k x hx) (show mV x = [.string x.1, .int .i64 x.2.1, .int .i64 x.2.2.1, .int .i64 x.2.2.2] from rfl)
   have hts : (l.take (k + 1)).flatMap mV = (l.take k).flatMap mV ++ [.string x.1, .int .i64 x.2.1, .int .i64 x.2.2.1, .int .i64 x.2.2.2] := by rw [List.take_add_one, hx, List.flatMap_append]; simp [mV]
   obtain ⟨y0, hy0⟩ : ∃ y, y = x.1 := ⟨_, rfl⟩
   obtain ⟨y1, hy1⟩ : ∃ y, y = x.2.1 := ⟨_, rfl⟩
   obtain ⟨y2, hy2⟩ : ∃ y, y = x.2.2.1 := ⟨_, rfl⟩
   obtain ⟨y3, hy3⟩ : ∃ y, y = x.2.2.2 := ⟨_, rfl⟩
   rw [← hy0] at c0
   rw [← hy1] at c1
   rw [← hy2] at c2
   rw [← hy3] at c3
   rw [← hy0, ← hy1, ← hy2, ← hy3] at hts
   have HTS := Lib.hid hts
   have hdk : (k : Int) < (N : Int) := by omega
   have hsz := hbel.size
   have kb := below_new wr (.cells #[.string y0, .int .i64 y1, .int .i64 y2, .int .i64 y3] 143)
   have kn := bthen kb (below_new (wr.alloc (.cells #[.string y0, .int .i64 y1, .int .i64 y2, .int .i64 y3] 143)) (.cells #[.string y0, .int .i64 y1, .int .i64 y2, .int .i64 y3] 147))
   obtain ⟨oa, oc, rfl⟩ := own_slice hown
   clear hcs hx hts hy0 hy1 hy2 hy3
   go_wp2_with (at_builtin; refine wpList_append_own _ rfl _ _ 58 rfl w.heap.size 147 i0 (.agg #[.string ⟨#[]⟩, .int .i64 0, .int .i64 0, .int .i64 0]) 4 40 Tryz.undZvalveModule hi hz0 hz1 hz2 rfl (by decide) _ _ _ rfl (own_below hown kn) ⟨wr.heap.size + 1, 0, none⟩ 1 1 [.string y0, .int .i64 y1, .int .i64 y2, .int .i64 y3] rfl rfl (fun j u hj => by have h9 := (Blk.new (wr.alloc (.cells #[.string y0, .int .i64 y1, .int .i64 y2, .int .i64 y3] 143)) 147 [.string y0, .int .i64 y1, .int .i64 y2, .int .i64 y3]).news j u hj; rw [World.size_alloc] at h9; exact h9) (by simp [Value.oneCell']) (by unfold maxLen; omega) (by omega) (by have := kn.size; omega) ?_; intro v9 w1 hown9 hgrow9 _)
   have hbel9 := (bthen hbel kn).trans (below_grow (own_below hown kn) (by have := kn.size; omega) hgrow9)
   rw [← HTS.out] at hown9
   clear hown hgrow9 kn kb hbel c0 c1 c2 c3
   go_wp2
   go_roundw
   case rel => exact ⟨k + 1, by omega, by go_num, hown9, hbel9⟩
   case measure => simp [intOf]; omega
  ·obtain rfl : k = N := by omega
   have hout : OwR wr w.heap.size 147 4 mV u3 l := by
    unfold OwR
    rw [← HN.out]
    rw [List.take_of_length_le (by rw [HN.out]; exact Nat.le_refl _)] at hown
    exact hown
   have d0 : ¬ ((k : Int) < (k : Int)) := by omega
   clear hown
   go_wp2
   go_ret
   exact ⟨⟨_, rfl, hout⟩, hbel⟩
set_option maxRecDepth 100000 in
set_option maxHeartbeats 2000000 in
theorem times_any (v : Value) (l : List I3) (w : World) (hl : l.length ≤ 1000000) (hv : Rw 3 iV w v l) :
 Calls Tryz.prog 24 #[v] w fun r w' => (∃ u, r = .returned u ∧ OwR w' w.heap.size 148 3 iV u l) ∧ Below w.heap.size w w' := by
 obtain ⟨i0, hi, hz0, hz1, hz2⟩ := info_parts Tryz.infZvalveOutage
 have HV := Lib.hid hv
 obtain ⟨va, vc, rfl, hvc⟩ := hv.slice
 obtain ⟨N, hN⟩ : ∃ N, N = l.length := ⟨_, rfl⟩
 rw [← hN] at HV hl ⊢
 have HN := Lib.hid hN
 clear hv hN hvc
 go_enter Tryz.func24, Tryz.ntmps24
 go_wp2_with fail
 go_loopw [3, 8] (fun u i wr => ∃ k : Nat, k ≤ N ∧ i = .int .i64 k ∧ wr.ownsRow w.heap.size 148 3 u k ((l.take k).flatMap iV) ∧ Below w.heap.size w wr) (fun _ i _ => N - (intOf i).toNat)
 case atStart => exact ⟨0, by omega, rfl, World.ownsRow_nil _ _ _ _, Below.refl _ _⟩
 case round =>
  obtain ⟨k, hk, rfl, hown, hbel⟩ := hrel
  by_cases hlt : k < N
  ·obtain ⟨x, hx⟩ : ∃ x, l[k]? = some x := ⟨_, List.getElem?_eq_getElem (by rw [← HN.out]; exact hlt)⟩
   obtain ⟨b, off, cp, he, hcs⟩ := (HV.out.carry hbel).head (by rw [← HN.out]; omega)
   simp only [Value.slice.injEq] at he
   obtain ⟨rfl, -, rfl⟩ := he
   obtain ⟨c0, c1, c2⟩ := rw3 (hcs k x hx) (show iV x = [.int .i64 x.1, .int .i64 x.2.1, .int .i64 x.2.2] from rfl)
   have hts : (l.take (k + 1)).flatMap iV = (l.take k).flatMap iV ++ [.int .i64 x.1, .int .i64 x.2.1, .int .i64 x.2.2] := by rw [List.take_add_one, hx, List.flatMap_append]; simp [iV]
   obtain ⟨y0, hy0⟩ : ∃ y, y = x.1 := ⟨_, rfl⟩
   obtain ⟨y1, hy1⟩ : ∃ y, y = x.2.1 := ⟨_, rfl⟩
   obtain ⟨y2, hy2⟩ : ∃ y, y = x.2.2 := ⟨_, rfl⟩
   rw [← hy0] at c0
   rw [← hy1] at c1
   rw [← hy2] at c2
   rw [← hy0, ← hy1, ← hy2] at hts
   have HTS := Lib.hid hts
   have hdk : (k : Int) < (N : Int) := by omega
   have hsz := hbel.size
   have kb := below_new wr (.cells #[.int .i64 y0, .int .i64 y1, .int .i64 y2] 88)
   have kn := bthen kb (below_new (wr.alloc (.cells #[.int .i64 y0, .int .i64 y1, .int .i64 y2] 88)) (.cells #[.int .i64 y0, .int .i64 y1, .int .i64 y2] 148))
   obtain ⟨oa, oc, rfl⟩ := own_slice hown
   clear hcs hx hts hy0 hy1 hy2
   go_wp2_with (at_builtin; refine wpList_append_own _ rfl _ _ 60 rfl w.heap.size 148 i0 (.agg #[.int .i64 0, .int .i64 0, .int .i64 0]) 3 24 Tryz.undZvalveOutage hi hz0 hz1 hz2 rfl (by decide) _ _ _ rfl (own_below hown kn) ⟨wr.heap.size + 1, 0, none⟩ 1 1 [.int .i64 y0, .int .i64 y1, .int .i64 y2] rfl rfl (fun j u hj => by have h9 := (Blk.new (wr.alloc (.cells #[.int .i64 y0, .int .i64 y1, .int .i64 y2] 88)) 148 [.int .i64 y0, .int .i64 y1, .int .i64 y2]).news j u hj; rw [World.size_alloc] at h9; exact h9) (by simp [Value.oneCell']) (by unfold maxLen; omega) (by omega) (by have := kn.size; omega) ?_; intro v9 w1 hown9 hgrow9 _)
   have hbel9 := (bthen hbel kn).trans (below_grow (own_below hown kn) (by have := kn.size; omega) hgrow9)
   rw [← HTS.out] at hown9
   clear hown hgrow9 kn kb hbel c0 c1 c2
   go_wp2
   go_roundw
   case rel => exact ⟨k + 1, by omega, by go_num, hown9, hbel9⟩
   case measure => simp [intOf]; omega
  ·obtain rfl : k = N := by omega
   have hout : OwR wr w.heap.size 148 3 iV u3 l := by
    unfold OwR
    rw [← HN.out]
    rw [List.take_of_length_le (by rw [HN.out]; exact Nat.le_refl _)] at hown
    exact hown
   have d0 : ¬ ((k : Int) < (k : Int)) := by omega
   clear hown
   go_wp2
   go_ret
   exact ⟨⟨_, rfl, hout⟩, hbel⟩
set_option maxRecDepth 100000 in
set_option maxHeartbeats 2000000 in
theorem deliveriesL_any (v : Value) (l : List P2) (w : World) (hl : l.length ≤ 1000000) (hv : Rw 2 pV w v l) :
 Calls Tryz.prog 30 #[v] w fun r w' => (∃ u, r = .returned u ∧ OwR w' w.heap.size 120 2 pV u l) ∧ Below w.heap.size w w' := by
 obtain ⟨i0, hi, hz0, hz1, hz2⟩ := info_parts Tryz.infZvalveDelivery
 have HV := Lib.hid hv
 obtain ⟨va, vc, rfl, hvc⟩ := hv.slice
 obtain ⟨N, hN⟩ : ∃ N, N = l.length := ⟨_, rfl⟩
 rw [← hN] at HV hl ⊢
 have HN := Lib.hid hN
 clear hv hN hvc
 go_enter Tryz.func30, Tryz.ntmps30
 go_wp2_with fail
 go_loopw [3, 8] (fun u i wr => ∃ k : Nat, k ≤ N ∧ i = .int .i64 k ∧ wr.ownsRow w.heap.size 120 2 u k ((l.take k).flatMap pV) ∧ Below w.heap.size w wr) (fun _ i _ => N - (intOf i).toNat)
 case atStart => exact ⟨0, by omega, rfl, World.ownsRow_nil _ _ _ _, Below.refl _ _⟩
 case round =>
  obtain ⟨k, hk, rfl, hown, hbel⟩ := hrel
  by_cases hlt : k < N
  ·obtain ⟨x, hx⟩ : ∃ x, l[k]? = some x := ⟨_, List.getElem?_eq_getElem (by rw [← HN.out]; exact hlt)⟩
   obtain ⟨b, off, cp, he, hcs⟩ := (HV.out.carry hbel).head (by rw [← HN.out]; omega)
   simp only [Value.slice.injEq] at he
   obtain ⟨rfl, -, rfl⟩ := he
   obtain ⟨c0, c1⟩ := rw2 (hcs k x hx) (show pV x = [.int .i64 x.1, .int .i64 x.2] from rfl)
   have hts : (l.take (k + 1)).flatMap pV = (l.take k).flatMap pV ++ [.int .i64 x.1, .int .i64 x.2] := by rw [List.take_add_one, hx, List.flatMap_append]; simp [pV]
   obtain ⟨y0, hy0⟩ : ∃ y, y = x.1 := ⟨_, rfl⟩
   obtain ⟨y1, hy1⟩ : ∃ y, y = x.2 := ⟨_, rfl⟩
   rw [← hy0] at c0
   rw [← hy1] at c1
   rw [← hy0, ← hy1] at hts
   have HTS := Lib.hid hts
   have hdk : (k : Int) < (N : Int) := by omega
   have hsz := hbel.size
   have kb := below_new wr (.cells #[.int .i64 y0, .int .i64 y1] 90)
   have kn := bthen kb (below_new (wr.alloc (.cells #[.int .i64 y0, .int .i64 y1] 90)) (.cells #[.int .i64 y0, .int .i64 y1] 120))
   obtain ⟨oa, oc, rfl⟩ := own_slice hown
   clear hcs hx hts hy0 hy1
   go_wp2_with (at_builtin; refine wpList_append_own _ rfl _ _ 67 rfl w.heap.size 120 i0 (.agg #[.int .i64 0, .int .i64 0]) 2 16 Tryz.undZvalveDelivery hi hz0 hz1 hz2 rfl (by decide) _ _ _ rfl (own_below hown kn) ⟨wr.heap.size + 1, 0, none⟩ 1 1 [.int .i64 y0, .int .i64 y1] rfl rfl (fun j u hj => by have h9 := (Blk.new (wr.alloc (.cells #[.int .i64 y0, .int .i64 y1] 90)) 120 [.int .i64 y0, .int .i64 y1]).news j u hj; rw [World.size_alloc] at h9; exact h9) (by simp [Value.oneCell']) (by unfold maxLen; omega) (by omega) (by have := kn.size; omega) ?_; intro v9 w1 hown9 hgrow9 _)
   have hbel9 := (bthen hbel kn).trans (below_grow (own_below hown kn) (by have := kn.size; omega) hgrow9)
   rw [← HTS.out] at hown9
   clear hown hgrow9 kn kb hbel c0 c1
   go_wp2
   go_roundw
   case rel => exact ⟨k + 1, by omega, by go_num, hown9, hbel9⟩
   case measure => simp [intOf]; omega
  ·obtain rfl : k = N := by omega
   have hout : OwR wr w.heap.size 120 2 pV u3 l := by
    unfold OwR
    rw [← HN.out]
    rw [List.take_of_length_le (by rw [HN.out]; exact Nat.le_refl _)] at hown
    exact hown
   have d0 : ¬ ((k : Int) < (k : Int)) := by omega
   clear hown
   go_wp2
   go_ret
   exact ⟨⟨_, rfl, hout⟩, hbel⟩
set_option maxRecDepth 100000 in
set_option maxHeartbeats 4000000 in
theorem intsL_any (v : Value) (l : List Int) (w : World) (hv : Ints w v l) (hl : l.length ≤ 1000000) :
 Calls Tryz.prog 25 #[v] w fun e w' => (∃ u, e = .returned u ∧ Ints w' u l) ∧ Below w.heap.size w w' := by
 obtain ⟨i0, hi, hz0, hz1, hz2⟩ := info_parts Tryz.infZint
 have k1 := below_new w (.cells #[] 3)
 have h1 := hv.carry k1
 go_enter Tryz.func25, Tryz.ntmps25
 go_wp2_with (at_builtin; refine wpList_append_fresh rfl (.tmp 3) (.tmp 4) 41 41 3 3 rfl i0 (.int .i64 0) Tryz.undZint Tryz.undZint hi hz0 hz1 hz2 w.heap.size 0 rfl v l rfl h1 (by omega) ?_; intro b off cap w2 hP hb)
 have hb' := bthen k1 hb
 go_ret
 exact ⟨⟨_, rfl, hP⟩, hb'⟩
end
section
set_option linter.unusedSimpArgs false
set_option linter.unusedVariables false
open Go.RowKit
def cplE (ms : List Mo) (os : List I3) (pl : List Int) : Int := if bothE ms os = 0 then plnE ms os pl else bothE ms os
def cplR (ms : List Mo) (os : List I3) (pl : List Int) : Int := if cplE ms os pl = 0 then costL os pl else 0
set_option maxRecDepth 100000 in
set_option maxHeartbeats 8000000 in
theorem CheckPlan_any (vm vo vp : Value) (ms : List Mo) (os : List I3) (pl : List Int) (w : World) (hml : ms.length ≤ 1000) (hls : ∀ m ∈ ms, m.1.size ≤ 1000000) (hol : os.length ≤ 1000) (hpl : pl.length ≤ 1000000) (hm : Rw 4 mV w vm ms) (ho : Rw 3 iV w vo os) (hp : Ints w vp pl) :
 Calls Tryz.prog 22 #[vm, vo, vp] w fun r w' => r = .returned (.tuple #[.int .i64 (cplR ms os pl), .int .i64 (cplE ms os pl)]) ∧ Below w.heap.size w w' := by
 have TK := Lib.hid (fun W (hm : Rw 4 mV W vm ms) (ho : Rw 3 iV W vo os) => check_any vm vo ms os W hml hls hol hm ho)
 have hok := @bothE_ok ms os
 have TP := Lib.hid (fun (h0 : bothE ms os = 0) W (hm : Rw 4 mV W vm ms) (ho : Rw 3 iV W vo os) (hp : Ints W vp pl) => checkPlan_any vm vo vp ms os pl W hml hol hpl hm ho hp (fun o h => ((outE_ok (hok h0).2).2 o h).2.1) (fun m h => by have := ((modsE_ok (hok h0).1).2 m h).2.2.2; omega))
 have TC := Lib.hid (fun (h0 : bothE ms os = 0) (hp8 : plnE ms os pl = 0) W (ho : Rw 3 iV W vo os) (hp : Ints W vp pl) => cost_any vo vp os pl W ho hp hol (by rw [plnE_len hp8]; exact hml) (fun o h => ((outE_ok (hok h0).2).2 o h).2.2))
 have h1 : bothE ms os ≠ 0 → cplE ms os pl = bothE ms os ∧ cplR ms os pl = 0 := fun h => by
  have e : cplE ms os pl = bothE ms os := by unfold cplE; rw [if_neg h]
  exact ⟨e, by unfold cplR; rw [if_neg (by rw [e]; exact h)]⟩
 have h2 : bothE ms os = 0 → plnE ms os pl ≠ 0 → cplE ms os pl = plnE ms os pl ∧ cplR ms os pl = 0 := fun h h' => by
  have e : cplE ms os pl = plnE ms os pl := by unfold cplE; rw [if_pos h]
  exact ⟨e, by unfold cplR; rw [if_neg (by rw [e]; exact h')]⟩
 have h3 : bothE ms os = 0 → plnE ms os pl = 0 → cplE ms os pl = 0 ∧ cplR ms os pl = costL os pl := fun h h' => by
  have e : cplE ms os pl = 0 := by unfold cplE; rw [if_pos h, h']
  exact ⟨e, by unfold cplR; rw [if_pos e]⟩
 obtain ⟨E0, hE0⟩ : ∃ e, e = bothE ms os := ⟨_, rfl⟩
 obtain ⟨EP, hEP⟩ : ∃ e, e = plnE ms os pl := ⟨_, rfl⟩
 obtain ⟨R, hR⟩ : ∃ e, e = cplR ms os pl := ⟨_, rfl⟩
 obtain ⟨E, hE⟩ : ∃ e, e = cplE ms os pl := ⟨_, rfl⟩
 rw [← hE0] at TK TP TC h1 h2 h3
 rw [← hEP] at TP TC h2 h3
 rw [← hE] at h1 h2 h3 ⊢
 rw [← hR] at h1 h2 h3 ⊢
 obtain ⟨C, hC⟩ : ∃ e, e = costL os pl := ⟨_, rfl⟩
 rw [← hC] at TC h3
 have H1 := Lib.hid h1
 have H2 := Lib.hid h2
 have H3 := Lib.hid h3
 clear hok h1 h2 h3 hE0 hEP hR hE hC
 go_enter Tryz.func22, Tryz.ntmps22
 go_wp2_with fail
 refine (TK.out w hm ho).mono ?_
 rintro e w1 ⟨rfl, hB⟩
 replace hm := hm.carry hB
 replace ho := ho.carry hB
 replace hp := hp.carry hB
 clear TK
 by_cases h0 : E0 = 0
 ·subst h0
  have TP2 := Lib.hid (TP.out (by trivial))
  have TC2 := Lib.hid (TC.out (by trivial))
  go_wp2_with fail
  refine (TP2.out w1 hm ho hp).mono ?_
  rintro e w2 ⟨rfl, hb2⟩
  replace ho := ho.carry hb2
  replace hp := hp.carry hb2
  replace hB := bthen hB hb2
  clear TP TP2 hb2 hm TC
  by_cases hE : EP = 0
  ·subst hE
   have TC3 := Lib.hid (TC2.out (by trivial))
   obtain ⟨rfl, rfl⟩ := H3.out (by trivial) (by trivial)
   clear H1 H2 H3 TC2
   go_wp2_with fail
   refine (TC3.out w2 ho hp).mono ?_
   rintro e w3 ⟨rfl, hb3⟩
   replace hB := bthen hB hb3
   clear hb3
   go_wp2
   go_ret2
   exact ⟨rfl, hB⟩
  ·obtain ⟨rfl, rfl⟩ := H2.out (by trivial) hE
   clear H1 H2 H3 TC2
   go_wp2
   go_ret2
   exact ⟨rfl, hB⟩
 ·obtain ⟨rfl, rfl⟩ := H1.out h0
  clear H1 H2 H3 TC TP
  go_wp2
  go_ret2
  exact ⟨rfl, hB⟩
end
section
set_option linter.unusedSimpArgs false
set_option linter.unusedVariables false
open Go.RowKit
theorem idxS (T : TypeId) (hT : Tryz.prog.underlying T = some .string) (s : ByteArray) (k : Nat) (hk : k < s.size) (W : World) :
 Sem.run Tryz.prog (Instr.index T (.string s) (.int .i64 (k : Int))) W = .ok (.int .u8 ((s.data.toList[k]?.getD 0).toNat : Int)) W := by
 rw [run_index_string (h := hT), dif_pos ⟨by omega, by omega⟩]
 have hk' : k < s.data.size := hk
 have : s[(k : Int).toNat]'(by simpa using hk) = s.data.toList[k]?.getD 0 := by
  simp only [Int.toNat_natCast]
  rw [List.getElem?_eq_getElem (by simpa using hk')]
  rfl
 rw [this]
theorem Tryz.undStr : Tryz.prog.underlying 9 = some .string := by kernel_rfl
def letC (c : Int) : Bool := decide ((65 ≤ c ∧ c ≤ 90) ∨ (97 ≤ c ∧ c ≤ 122))
def digC (c : Int) : Bool := decide (48 ≤ c ∧ c ≤ 57)
theorem isLetter_any (c : Int) (w : World) : Calls Tryz.prog 178 #[.int .u8 c] w fun e w' => e = .returned (.bool (letC c)) ∧ w = w' := by
 by_cases h1 : 65 ≤ c
 ·by_cases h2 : c ≤ 90
  ·rw [show letC c = true from decide_eq_true (by omega)]
   go_enter Tryz.func178, Tryz.ntmps178
   go_wp2
   go_ret
   exact ⟨rfl, rfl⟩
  ·by_cases h3 : 97 ≤ c
   ·by_cases h4 : c ≤ 122
    ·rw [show letC c = true from decide_eq_true (by omega)]
     go_enter Tryz.func178, Tryz.ntmps178
     go_wp2
     go_ret
     exact ⟨rfl, rfl⟩
    ·rw [show letC c = false from decide_eq_false (by omega)]
     go_enter Tryz.func178, Tryz.ntmps178
     go_wp2
     go_ret
     exact ⟨rfl, rfl⟩
   ·rw [show letC c = false from decide_eq_false (by omega)]
    go_enter Tryz.func178, Tryz.ntmps178
    go_wp2
    go_ret
    exact ⟨rfl, rfl⟩
 ·have h3 : ¬ 97 ≤ c := by omega
  rw [show letC c = false from decide_eq_false (by omega)]
  go_enter Tryz.func178, Tryz.ntmps178
  go_wp2
  go_ret
  exact ⟨rfl, rfl⟩
theorem isDigit_any (c : Int) (w : World) : Calls Tryz.prog 179 #[.int .u8 c] w fun e w' => e = .returned (.bool (digC c)) ∧ w = w' := by
 by_cases h1 : 48 ≤ c
 ·by_cases h2 : c ≤ 57
  ·rw [show digC c = true from decide_eq_true ⟨h1, h2⟩]
   go_enter Tryz.func179, Tryz.ntmps179
   go_wp2
   go_ret
   exact ⟨rfl, rfl⟩
  ·rw [show digC c = false from decide_eq_false (by omega)]
   go_enter Tryz.func179, Tryz.ntmps179
   go_wp2
   go_ret
   exact ⟨rfl, rfl⟩
 ·rw [show digC c = false from decide_eq_false (by omega)]
  go_enter Tryz.func179, Tryz.ntmps179
  go_wp2
  go_ret
  exact ⟨rfl, rfl⟩
theorem nameC_zero (c : Int) : nameC 0 c = letC c := by
 unfold nameC letC
 rw [decide_eq_decide]
 constructor
 ·rintro (h | h | h)
  ·exact .inl h
  ·exact .inr h
  ·exact absurd rfl h.1
 ·rintro (h | h)
  ·exact .inl h
  ·exact .inr (.inl h)
theorem nameC_pos {k : Nat} (hk : 0 < k) (c : Int) : nameC k c = (letC c || digC c || c == 95) := by
 unfold nameC letC digC
 rw [Bool.eq_iff_iff]
 simp only [Bool.or_eq_true, decide_eq_true_eq, beq_iff_eq]
 omega
set_option maxRecDepth 100000 in
set_option maxHeartbeats 4000000 in
theorem IsNameR_any (s : ByteArray) (w : World) (hs : s.size ≤ 1000000) :
 Calls Tryz.prog 147 #[.string s] w fun e w' => e = .returned (.bool (nameB s.data.toList)) ∧ w = w' := by
 have HL := Lib.hid (data_len s)
 obtain ⟨L, hL⟩ : ∃ L, L = s.data.toList := ⟨_, rfl⟩
 have hix := fun (k : Nat) (hk : k < s.size) W => idxS 9 Tryz.undStr s k hk W
 rw [← hL] at HL hix ⊢
 have HIX := Lib.hid hix
 clear hL hix
 obtain ⟨n, hn⟩ : ∃ n, n = s.size := ⟨_, rfl⟩
 have hn' : s.size = n := hn.symm
 rw [hn'] at HL HIX hs
 clear hn
 have HF := Lib.hid (fun k (hk : k < n) (h : nameC k (((L[k]?.getD 0).toNat : Nat) : Int) = false) => nameB_false (l := L) (by rw [HL.out]; exact hk) h)
 have HG := Lib.hid (fun (h : ¬ (0 < n ∧ n ≤ 24)) => (show nameB L = false by unfold nameB; rw [HL.out, decide_eq_false h, Bool.false_and]))
 have HT := Lib.hid (fun (h : 0 < n ∧ n ≤ 24) (h2 : ∀ k, k < n → nameC k (((L[k]?.getD 0).toNat : Nat) : Int) = true) => (show nameB L = true by unfold nameB nameL; rw [HL.out, decide_eq_true h, Bool.true_and, List.all_eq_true]; exact fun k hk => h2 k (List.mem_range.1 hk)))
 obtain ⟨R, hR⟩ : ∃ b, b = nameB L := ⟨_, rfl⟩
 rw [← hR] at HF HG HT ⊢
 clear hR
 by_cases h0 : n = 0
 ·obtain rfl : R = false := HG.out (by omega)
  have d0 : ((n : Int) == 0) = true := by rw [beq_iff_eq]; omega
  clear HF HG HT h0
  go_enter Tryz.func147, Tryz.ntmps147
  go_wp2
  go_ret
  exact ⟨rfl, rfl⟩
 by_cases h9 : 24 < n
 ·obtain rfl : R = false := HG.out (by omega)
  have d0 : ((n : Int) == 0) = false := by rw [beq_eq_false_iff_ne]; omega
  have d1 : 24 < (n : Int) := by omega
  clear HF HG HT h0 h9
  go_enter Tryz.func147, Tryz.ntmps147
  go_wp2
  go_ret
  exact ⟨rfl, rfl⟩
 have d0 : ((n : Int) == 0) = false := by rw [beq_eq_false_iff_ne]; omega
 have d1 : ¬ 24 < (n : Int) := by omega
 have e0 := HIX.out 0 (by omega)
 have HF0 := Lib.hid (fun h => HF.out 0 (by omega) h)
 have HT0 := Lib.hid (show letC (((L[0]?.getD 0).toNat : Nat) : Int) = true → nameC 0 (((L[0]?.getD 0).toNat : Nat) : Int) = true from fun h => by rw [nameC_zero]; exact h)
 rw [nameC_zero] at HF0
 have TL := Lib.hid (fun W => isLetter_any (((L[0]?.getD 0).toNat : Nat) : Int) W)
 have HT1 := Lib.hid (fun h2 => HT.out (by omega) h2)
 obtain ⟨lb, hlb⟩ : ∃ b, b = letC (((L[0]?.getD 0).toNat : Nat) : Int) := ⟨_, rfl⟩
 rw [← hlb] at HF0 HT0 TL
 have e0' : ∀ W, Sem.run Tryz.prog (Instr.index 9 (.string s) (.int .i64 0)) W = .ok (.int .u8 (((L[0]?.getD 0).toNat : Nat) : Int)) W := e0
 have hn0 : 1 ≤ n := by omega
 clear hlb e0 h0 HT HG
 cases lb with
 | false =>
   obtain rfl : R = false := HF0.out rfl
   clear HF HF0 HT0 HT1
   go_enter Tryz.func147, Tryz.ntmps147
   go_wp2_with fail
   refine (TL.out w).mono ?_
   rintro e w2 ⟨rfl, rfl⟩
   go_wp2
   go_ret
   exact ⟨rfl, rfl⟩
 | true =>
   have HC0 := Lib.hid (HT0.out rfl)
   clear HF0 HT0
   go_enter Tryz.func147, Tryz.ntmps147
   go_wp2_with fail
   refine (TL.out w).mono ?_
   rintro e w2 ⟨rfl, rfl⟩
   clear e0' TL
   go_wp2_with fail
   go_loop [3] (fun i => ∃ k : Nat, 1 ≤ k ∧ k ≤ n ∧ i = .int .i64 k ∧ ∀ j, j < k → nameC j (((L[j]?.getD 0).toNat : Nat) : Int) = true) (fun i => n - (intOf i).toNat)
   case atStart => exact ⟨1, by omega, hn0, rfl, fun j hj => (show j = 0 by omega) ▸ HC0.out⟩
   case round =>
    obtain ⟨k, hk1, hk, rfl, ha⟩ := hrel
    have HA := Lib.hid ha
    clear ha
    by_cases hlt : k < n
    ·have e1 := HIX.out k hlt
     have dk : (k : Int) < (n : Int) := by omega
     have HFk := Lib.hid (fun h => HF.out k hlt h)
     have HAk := Lib.hid (fun (h : nameC k (((L[k]?.getD 0).toNat : Nat) : Int) = true) => (show ∀ j, j < k + 1 → nameC j (((L[j]?.getD 0).toNat : Nat) : Int) = true from fun j hj => by
      by_cases e : j = k
      ·subst e; exact h
      ·exact HA.out j (by omega)))
     rw [nameC_pos (by omega)] at HFk HAk
     obtain ⟨c, hc⟩ : ∃ c : Int, c = (((L[k]?.getD 0).toNat : Nat) : Int) := ⟨_, rfl⟩
     rw [← hc] at e1 HFk HAk
     have TL := Lib.hid (fun W => isLetter_any c W)
     have TD := Lib.hid (fun W => isDigit_any c W)
     obtain ⟨lb, hlb⟩ : ∃ b, b = letC c := ⟨_, rfl⟩
     obtain ⟨db, hdb⟩ : ∃ b, b = digC c := ⟨_, rfl⟩
     rw [← hlb, ← hdb] at HFk HAk
     rw [← hlb] at TL
     rw [← hdb] at TD
     clear hc hlb hdb
     cases lb with
     | true =>
       have HN := Lib.hid (HAk.out rfl)
       go_wp2_with fail
       refine (TL.out w).mono ?_
       rintro e w3 ⟨rfl, rfl⟩
       go_wp2
       go_round
       case rel => exact ⟨k + 1, by omega, by omega, by go_num, HN.out⟩
       case measure => simp [intOf]; omega
     | false =>
       cases db with
       | true =>
         have HN := Lib.hid (HAk.out rfl)
         go_wp2_with fail
         refine (TL.out w).mono ?_
         rintro e w3 ⟨rfl, rfl⟩
         go_wp2_with fail
         refine (TD.out w).mono ?_
         rintro e w3 ⟨rfl, rfl⟩
         go_wp2
         go_round
         case rel => exact ⟨k + 1, by omega, by omega, by go_num, HN.out⟩
         case measure => simp [intOf]; omega
       | false =>
         by_cases h95 : c = 95
         ·have HN := Lib.hid (HAk.out (by rw [h95]; rfl))
          have z : (c != 95) = false := by rw [bne_eq_false_iff_eq]; exact h95
          clear h95
          go_wp2_with fail
          refine (TL.out w).mono ?_
          rintro e w3 ⟨rfl, rfl⟩
          go_wp2_with fail
          refine (TD.out w).mono ?_
          rintro e w3 ⟨rfl, rfl⟩
          go_wp2
          go_round
          case rel => exact ⟨k + 1, by omega, by omega, by go_num, HN.out⟩
          case measure => simp [intOf]; omega
         ·obtain rfl : R = false := HFk.out (by rw [show (c == 95) = false by rw [beq_eq_false_iff_ne]; exact h95]; rfl)
          have z : (c != 95) = true := by rw [bne_iff_ne]; exact h95
          clear h95 HFk HAk HT1
          go_wp2_with fail
          refine (TL.out w).mono ?_
          rintro e w3 ⟨rfl, rfl⟩
          go_wp2_with fail
          refine (TD.out w).mono ?_
          rintro e w3 ⟨rfl, rfl⟩
          go_wp2
          go_ret
          exact ⟨rfl, rfl⟩
    ·obtain rfl : k = n := by omega
     have dk : ¬ (k : Int) < (k : Int) := by omega
     obtain rfl : R = true := HT1.out HA.out
     go_wp2
     go_ret
     exact ⟨rfl, rfl⟩
theorem CheckNameR_any (s : ByteArray) (w : World) (hs : s.size ≤ 1000000) :
 Calls Tryz.prog 108 #[.string s] w fun e w' => e = .returned (.int .i64 (whenE (!nameB s.data.toList) 8)) ∧ w = w' := by
 have T := Lib.hid (fun W => IsNameR_any s W hs)
 obtain ⟨b, hb⟩ : ∃ b, b = nameB s.data.toList := ⟨_, rfl⟩
 rw [← hb] at T ⊢
 have T2 := Lib.hid (fun W => WhenR_any (!b) 8 W)
 clear hb
 go_enter Tryz.func108, Tryz.ntmps108
 go_wp2_with fail
 refine (T.out w).mono ?_
 rintro e w2 ⟨rfl, rfl⟩
 go_wp2_with fail
 refine (T2.out w).mono ?_
 rintro e w2 ⟨rfl, rfl⟩
 go_wp2
 go_ret
 exact ⟨rfl, rfl⟩
def shortO (n : Nat) : Bool := decide (n ≤ 4) || decide (n = 7)
theorem ShortOutages_any (a : Option Addr) (n c : Nat) (w : World) : Calls Tryz.prog 20 #[.slice a n c] w fun r w' => r = .returned (.bool (shortO n)) ∧ w = w' := by
 by_cases h1 : n ≤ 4
 ·have e : shortO n = true := by unfold shortO; simp [h1]
  have d1 : (n : Int) ≤ 4 := by omega
  rw [e]
  clear e h1
  go_enter Tryz.func20, Tryz.ntmps20
  go_wp2
  go_ret
  exact ⟨rfl, rfl⟩
 ·have d1 : ¬ (n : Int) ≤ 4 := by omega
  by_cases h2 : n = 7
  ·subst h2
   go_enter Tryz.func20, Tryz.ntmps20
   go_wp2
   go_ret
   exact ⟨rfl, rfl⟩
  ·have e : shortO n = false := by unfold shortO; simp [h1, h2]
   have d2 : ((n : Int) == 7) = false := by rw [beq_eq_false_iff_ne]; omega
   rw [e]
   clear e h1 h2
   go_enter Tryz.func20, Tryz.ntmps20
   go_wp2
   go_ret
   exact ⟨rfl, rfl⟩
def shortD (n : Nat) : Bool := decide (n ≤ 6) || decide (n = 65)
theorem ShortDeliveries_any (a : Option Addr) (n c : Nat) (w : World) : Calls Tryz.prog 21 #[.slice a n c] w fun r w' => r = .returned (.bool (shortD n)) ∧ w = w' := by
 by_cases h1 : n ≤ 6
 ·have e : shortD n = true := by unfold shortD; simp [h1]
  have d1 : (n : Int) ≤ 6 := by omega
  rw [e]
  clear e h1
  go_enter Tryz.func21, Tryz.ntmps21
  go_wp2
  go_ret
  exact ⟨rfl, rfl⟩
 ·have d1 : ¬ (n : Int) ≤ 6 := by omega
  by_cases h2 : n = 65
  ·subst h2
   go_enter Tryz.func21, Tryz.ntmps21
   go_wp2
   go_ret
   exact ⟨rfl, rfl⟩
  ·have e : shortD n = false := by unfold shortD; simp [h1, h2]
   have d2 : ((n : Int) == 65) = false := by rw [beq_eq_false_iff_ne]; omega
   rw [e]
   clear e h1 h2
   go_enter Tryz.func21, Tryz.ntmps21
   go_wp2
   go_ret
   exact ⟨rfl, rfl⟩
/-- at most 4 modules, or 9, with names of at most 60 bytes. -/
def shortM (ms : List Mo) : Bool := ms.all (fun m => decide (m.1.size ≤ 60)) && (decide (ms.length ≤ 4) || decide (ms.length = 9))
theorem shortM_ok {ms : List Mo} (h : shortM ms = true) : (∀ m ∈ ms, m.1.size ≤ 60) ∧ ms.length ≤ 9 := by
 unfold shortM at h
 rw [Bool.and_eq_true, List.all_eq_true] at h
 refine ⟨fun m hm => by simpa using h.1 m hm, ?_⟩
 have := h.2
 simp at this; omega
set_option maxRecDepth 100000 in
set_option maxHeartbeats 2000000 in
theorem ShortModules_any (v : Value) (ms : List Mo) (w : World) (hl0 : ms.length ≤ maxLen) (hv : Rw 4 mV w v ms) :
 Calls Tryz.prog 19 #[v] w fun r w' => r = .returned (.bool (shortM ms)) ∧ w = w' := by
 have hl : ms.length ≤ 9223372036854775807 := hl0
 have HV := Lib.hid hv
 obtain ⟨a, cp, rfl, -⟩ := hv.slice
 have hF := fun (k : Nat) (x : Mo) (hx : ms[k]? = some x) (h : ¬ x.1.size ≤ 60) => (show shortM ms = false by
  unfold shortM
  rw [show ms.all (fun m => decide (m.1.size ≤ 60)) = false by rw [List.all_eq_false]; exact ⟨x, List.mem_of_getElem? hx, by simpa using h⟩, Bool.false_and])
 have hT := fun (h : ∀ (k : Nat) (x : Mo), k < ms.length → ms[k]? = some x → x.1.size ≤ 60) => (show shortM ms = (decide (ms.length ≤ 4) || decide (ms.length = 9)) by
  unfold shortM
  rw [show ms.all (fun m => decide (m.1.size ≤ 60)) = true by
   rw [List.all_eq_true]
   intro x hx
   obtain ⟨k, hk⟩ := List.getElem?_of_mem hx
   exact decide_eq_true (h k x (List.getElem?_eq_some_iff.1 hk).1 hk), Bool.true_and])
 obtain ⟨R, hR⟩ : ∃ b, b = shortM ms := ⟨_, rfl⟩
 rw [← hR] at hF hT ⊢
 obtain ⟨N, hN⟩ : ∃ N, N = ms.length := ⟨_, rfl⟩
 rw [← hN] at HV hl hT ⊢
 have HN := Lib.hid hN
 have HF := Lib.hid hF
 have HT := Lib.hid hT
 clear hv hN hR hF hT hl0
 go_enter Tryz.func19, Tryz.ntmps19
 go_wp2_with fail
 go_loop [3] (fun i => ∃ k : Nat, k ≤ N ∧ i = .int .i64 k ∧ ∀ (j : Nat) (x : Mo), j < k → ms[j]? = some x → x.1.size ≤ 60) (fun i => N - (intOf i).toNat)
 case atStart => exact ⟨0, by omega, rfl, fun j x hj => by omega⟩
 case round =>
  obtain ⟨k, hk, rfl, ha⟩ := hrel
  have HA := Lib.hid ha
  clear ha
  by_cases hlt : k < N
  ·have hdk : (k : Int) < (N : Int) := by omega
   obtain ⟨x, hx⟩ : ∃ x, ms[k]? = some x := ⟨_, List.getElem?_eq_getElem (by rw [← HN.out]; exact hlt)⟩
   obtain ⟨b, off, cp', he, hcs⟩ := HV.out.head (by rw [← HN.out]; omega)
   simp only [Value.slice.injEq] at he
   obtain ⟨rfl, -, rfl⟩ := he
   obtain ⟨c0, -, -, -⟩ := rw4 (hcs k x hx) (show mV x = [.string x.1, .int .i64 x.2.1, .int .i64 x.2.2.1, .int .i64 x.2.2.2] from rfl)
   have HFk := Lib.hid (fun h => HF.out k x hx h)
   have HAk := Lib.hid (fun (h : x.1.size ≤ 60) => (show ∀ (j : Nat) (y : Mo), j < k + 1 → ms[j]? = some y → y.1.size ≤ 60 from fun j y hj hy => by
    by_cases e : j = k
    ·subst e; rw [hx] at hy; cases hy; exact h
    ·exact HA.out j y (by omega) hy))
   obtain ⟨s, y1, y2, y3⟩ := x
   dsimp only at c0 HFk HAk
   have hsz : (s.size : Int) = (s.size : Int) := rfl
   clear hcs hx hsz
   by_cases h60 : s.size ≤ 60
   ·have d1 : ¬ 60 < (s.size : Int) := by omega
    have HAn := Lib.hid (HAk.out h60)
    clear h60 HFk HAk
    go_wp2
    go_round
    case rel => exact ⟨k + 1, by omega, by go_num, HAn.out⟩
    case measure => simp [intOf]; omega
   ·have d1 : 60 < (s.size : Int) := by omega
    obtain rfl : R = false := HFk.out h60
    clear h60 HFk HAk HT HF
    go_wp2
    go_ret
    exact ⟨rfl, rfl⟩
  ·obtain rfl : k = N := by omega
   have hdk : ¬ (k : Int) < (k : Int) := by omega
   have hR := HT.out HA.out
   by_cases h4 : k ≤ 4
   ·obtain rfl : R = true := by rw [hR, decide_eq_true h4]; rfl
    have d1 : (k : Int) ≤ 4 := by omega
    clear hR h4 HF HT
    go_wp2
    go_ret
    exact ⟨rfl, rfl⟩
   ·have d1 : ¬ (k : Int) ≤ 4 := by omega
    by_cases h9 : k = 9
    ·obtain rfl : R = true := by rw [hR, decide_eq_true h9, Bool.or_true]
     have d2 : ((k : Int) == 9) = true := by rw [beq_iff_eq]; omega
     clear hR h4 h9 HF HT
     go_wp2
     go_ret
     exact ⟨rfl, rfl⟩
    ·obtain rfl : R = false := by rw [hR, decide_eq_false h9, decide_eq_false h4]; rfl
     have d2 : ((k : Int) == 9) = false := by rw [beq_eq_false_iff_ne]; omega
     clear hR h4 h9 HF HT
     go_wp2
     go_ret
     exact ⟨rfl, rfl⟩
theorem first2R' (e0 e1 : Int) (G : Nat) (W : World) (h : BlkI W G 3 [e0, e1]) : Calls Tryz.prog 62 #[.slice (some ⟨G, 0, none⟩) 2 2] W fun r w' => r = .returned (.int .i64 (firstE [e0, e1])) ∧ W = w' :=
 FirstR_any _ _ W (by simp) (BlkI.ints h rfl)
theorem first4R (e0 e1 e2 e3 : Int) (G : Nat) (W : World) (h : BlkI W G 3 [e0, e1, e2, e3]) : Calls Tryz.prog 62 #[.slice (some ⟨G, 0, none⟩) 4 4] W fun r w' => r = .returned (.int .i64 (firstE [e0, e1, e2, e3])) ∧ W = w' :=
 FirstR_any _ _ W (by simp) (BlkI.ints h rfl)
theorem first6R (e0 e1 e2 e3 e4 e5 : Int) (G : Nat) (W : World) (h : BlkI W G 3 [e0, e1, e2, e3, e4, e5]) : Calls Tryz.prog 62 #[.slice (some ⟨G, 0, none⟩) 6 6] W fun r w' => r = .returned (.int .i64 (firstE [e0, e1, e2, e3, e4, e5])) ∧ W = w' :=
 FirstR_any _ _ W (by simp) (BlkI.ints h rfl)
/-- the error of deliveries. -/
def delE (ds : List P2) : Int := if 64 < ds.length then 5 else eachE delG ds
set_option maxRecDepth 100000 in
set_option maxHeartbeats 2000000 in
theorem CheckDeliveriesR_any (v : Value) (l : List P2) (w : World) (hl : l.length ≤ 1000000) (hv : Prs w v l) :
 Calls Tryz.prog 37 #[v] w fun r w' => r = .returned (.int .i64 (delE l)) ∧ Below w.heap.size w w' := by
 have HV := Lib.hid hv
 obtain ⟨a, cp, rfl, -⟩ := hv.slice
 obtain ⟨N, hN⟩ : ∃ N, N = l.length := ⟨_, rfl⟩
 rw [← hN] at HV hl ⊢
 have HN := Lib.hid hN
 by_cases hbig : 64 < N
 ·have he : delE l = 5 := by unfold delE; rw [if_pos (by omega)]
  have d1 : (64 : Int) < (N : Int) := by omega
  rw [he]
  clear he hN hbig hv
  go_enter Tryz.func37, Tryz.ntmps37
  go_wp2
  go_ret
  exact ⟨rfl, Below.refl _ _⟩
 ·have he : delE l = eachE delG l := by unfold delE; rw [if_neg (by omega)]
  have d1 : ¬ (64 : Int) < (N : Int) := by omega
  rw [he]
  have HS := Lib.hid (fun (k : Nat) (x : P2) (hx : l[k]? = some x) (h : firstE ((l.mapIdx delG).take k) = 0) => eachE_step hx h)
  have HT := Lib.hid (fun (k : Nat) (x : P2) (hx : l[k]? = some x) (h : firstE ((l.mapIdx delG).take k) = 0) (hne : delG k x ≠ 0) => eachE_stop hx h hne)
  have HE := Lib.hid (fun (h : firstE ((l.mapIdx delG).take l.length) = 0) => eachE_end h)
  obtain ⟨E, hE⟩ : ∃ e, e = eachE delG l := ⟨_, rfl⟩
  rw [← hE] at HT HE ⊢
  clear he hN hbig hv hE
  go_enter Tryz.func37, Tryz.ntmps37
  go_wp2_with fail
  go_loopw [3] (fun i wr => ∃ k : Nat, k ≤ N ∧ i = .int .i64 k ∧ firstE ((l.mapIdx delG).take k) = 0 ∧ Below w.heap.size w wr) (fun i _ => N - (intOf i).toNat)
  case atStart => exact ⟨0, by omega, rfl, rfl, Below.refl _ _⟩
  case round =>
   obtain ⟨k, hk, rfl, hf, hbel⟩ := hrel
   have HF := Lib.hid hf
   clear hf
   by_cases hlt : k < N
   ·have hdk : (k : Int) < (N : Int) := by omega
    obtain ⟨x, hx⟩ : ∃ x, l[k]? = some x := ⟨_, List.getElem?_eq_getElem (by rw [← HN.out]; exact hlt)⟩
    obtain ⟨b, off, cp', he, hcs⟩ := (HV.out.carry hbel).head (by rw [← HN.out]; omega)
    simp only [Value.slice.injEq] at he
    obtain ⟨rfl, -, rfl⟩ := he
    obtain ⟨c0, c1⟩ := rw2 (hcs k x hx) (show pV x = [.int .i64 x.1, .int .i64 x.2] from rfl)
    have hs := HS.out k x hx HF.out
    have ht := HT.out k x hx HF.out
    have T0 := Lib.hid (fun W => CheckTickR_any x.1 W)
    have T1 := Lib.hid (fun W => CheckRange_any x.2 1 100 W)
    have hgx : delG k x = firstE [withinE x.1 0 100000, withinE x.2 1 100] := rfl
    obtain ⟨e0, he0⟩ : ∃ e, e = withinE x.1 0 100000 := ⟨_, rfl⟩
    obtain ⟨e1, he1⟩ : ∃ e, e = withinE x.2 1 100 := ⟨_, rfl⟩
    rw [← he0] at T0 hgx
    rw [← he1] at T1 hgx
    obtain ⟨R, hR⟩ : ∃ r, r = delG k x := ⟨_, rfl⟩
    rw [← hR] at hs ht hgx
    have TF := Lib.hid (fun G W h => first2R' e0 e1 G W h)
    rw [← hgx] at TF
    obtain ⟨x0, x1⟩ := x
    dsimp only at c0 c1 T0 T1
    have HS1 := Lib.hid hs
    have HT1 := Lib.hid ht
    clear hs ht hgx hR he0 he1 hcs hx hlt
    go_upto_region 6 with fail
    refine wp_region_E 99 (by kernel_rfl) ?_
    obtain ⟨wz, hwz⟩ : ∃ v, v = wr.drew := ⟨_, rfl⟩
    rw [← hwz]
    have hlz : Below wr.heap.size wr wz := by rw [hwz]; exact (Below.refl _ _).drew
    have hbz := bthen hbel hlz
    have c0 := cellb c0 hlz
    have c1 := cellb c1 hlz
    clear hwz hlz
    refine zV 0 ⟨some 14, .move (.tmp 0), 50, "ref.go:620", #[], none⟩ rfl ?_
    simp only [Act.put, zS]
    refine zV 1 ⟨some 15, .move (.tmp 3), 3, "ref.go:620", #[], none⟩ rfl ?_
    simp only [Act.put, zS]
    refine zV 2 ⟨some 16, .indexAddr 50 (.tmp 14) (.tmp 15), 0, "ref.go:620", #[⟨0, .data⟩, ⟨1, .data⟩], none⟩ rfl ?_
    simp only [Act.put, zS]
    refine zV 3 ⟨some 17, .fieldAddr 90 (.tmp 16) 0, 0, "ref.go:620", #[⟨2, .data⟩], none⟩ rfl ?_
    simp only [Act.put, zS]
    refine zV 4 ⟨some 18, .load 3 (.tmp 17), 3, "ref.go:620", #[⟨3, .data⟩], none⟩ rfl ?_ (hv := fun w hE => by have c0 := cellb c0 hE; have c1 := cellb c1 hE; (try dsimp only); go_simp; try rfl)
    simp only [Act.put, zS]
    refine zV 6 ⟨some 20, .move (.tmp 0), 50, "ref.go:620", #[], none⟩ rfl ?_
    simp only [Act.put, zS]
    refine zV 7 ⟨some 21, .move (.tmp 3), 3, "ref.go:620", #[], none⟩ rfl ?_
    simp only [Act.put, zS]
    refine zV 8 ⟨some 22, .indexAddr 50 (.tmp 20) (.tmp 21), 0, "ref.go:620", #[⟨6, .data⟩, ⟨7, .data⟩], none⟩ rfl ?_
    simp only [Act.put, zS]
    refine zV 9 ⟨some 23, .fieldAddr 90 (.tmp 22) 1, 0, "ref.go:620", #[⟨8, .data⟩], none⟩ rfl ?_
    simp only [Act.put, zS]
    refine zV 10 ⟨some 24, .load 3 (.tmp 23), 3, "ref.go:620", #[⟨9, .data⟩], none⟩ rfl ?_ (hv := fun w hE => by have c0 := cellb c0 hE; have c1 := cellb c1 hE; (try dsimp only); go_simp; try rfl)
    simp only [Act.put, zS]
    refine zB 5 ⟨some 19, .call ⟨.value (.func 63), #[.tmp 18], #[3]⟩, 3, "ref.go:620", #[⟨4, .data⟩], none⟩ (fun w hE => ofPure (T0.out w)) rfl ?_
    simp only [Act.put, zS]
    refine zB 11 ⟨some 25, .call ⟨.value (.func 66), #[.tmp 24, .const (.int .i64 1), .const (.int .i64 100)], #[3, 3, 3]⟩, 3, "ref.go:620", #[⟨10, .data⟩, ⟨5, .chain⟩], none⟩ (fun w hE => ofPure (T1.out w)) rfl ?_
    simp only [Act.put, zS]
    refine wpAnyE_one (i := 12) (o := ⟨some 26, .buildSlice 41 2 #[(0, .tmp 19), (1, .tmp 25)], 41, "ref.go:620", #[⟨5, .data⟩, ⟨11, .data⟩], none⟩) (by kernel_rfl) rfl (fun wy1 hE K hK => ?_)
    have c0 := cellb c0 hE
    have c1 := cellb c1 hE
    have hbz1 := bthen hbz hE
    clear hE
    go_simp
    obtain ⟨wx1, hwz⟩ : ∃ v, v = wy1.alloc (Obj.cells #[.int .i64 e0, .int .i64 e1] 3) := ⟨_, rfl⟩
    rw [← hwz]
    have hl : Below wy1.heap.size wy1 wx1 := by rw [hwz]; exact below_new _ _
    have hcz1 := bthen hbz1 hl
    have iN : BlkI wx1 wy1.heap.size 3 [e0, e1] := by rw [hwz]; exact Blk.new _ _ _
    generalize wy1.heap.size = G at iN ⊢
    have c0 := cellb c0 hl
    have c1 := cellb c1 hl
    clear hwz
    refine hK _ _ (fun _ => hl) ?_
    clear hK K hl
    try simp only [Act.put, zS]
    refine zB 13 ⟨some 27, .call ⟨.value (.func 62), #[.tmp 26], #[41]⟩, 3, "ref.go:620", #[⟨12, .data⟩, ⟨11, .chain⟩], none⟩ (fun w hE => ofPure (TF.out _ w (Blk.carry iN hE))) rfl ?_
    simp only [Act.put, zS]
    refine zV 14 ⟨some 4, .assign (.tmp 27), 3, "ref.go:620", #[⟨13, .data⟩, ⟨13, .chain⟩, ⟨0, .phase⟩, ⟨1, .phase⟩, ⟨2, .phase⟩, ⟨3, .phase⟩, ⟨4, .phase⟩, ⟨5, .phase⟩, ⟨6, .phase⟩, ⟨7, .phase⟩, ⟨8, .phase⟩, ⟨9, .phase⟩, ⟨10, .phase⟩, ⟨11, .phase⟩, ⟨12, .phase⟩, ⟨13, .phase⟩], none⟩ rfl ?_
    simp only [Act.put, zS]
    refine wpAnyE_done (by kernel_rfl) (fun wy2 hE => ?_) _
    have hbz2 := bthen hcz1 hE
    have c0 := cellb c0 hE
    have c1 := cellb c1 hE
    have iN := iN.carry hE
    clear hE
    have hbel := hbz2
    obtain ⟨W9, hW9⟩ : ∃ v, v = wy2 := ⟨_, rfl⟩
    rw [← hW9] at hbel ⊢
    clear hW9 iN
    clear c0 c1 T0 T1 TF
    by_cases hz : R = 0
    ·have HS2 := Lib.hid (HS1.out.trans hz)
     have hb0 : (R != 0) = false := by rw [bne_eq_false_iff_eq]; exact hz
     clear hz
     go_wp2
     go_roundw
     case rel => exact ⟨k + 1, by omega, by go_num, HS2.out, hbel⟩
     case measure => simp [intOf]; omega
    ·obtain rfl := HT1.out hz
     have hb0 : (E != 0) = true := by rw [bne_iff_ne]; exact hz
     clear hz
     go_wp2
     go_ret
     exact ⟨rfl, hbel⟩
   ·obtain rfl : k = N := by omega
    have hdk : ¬ (k : Int) < (k : Int) := by omega
    have hz : E = 0 := HE.out (by rw [← HN.out]; exact HF.out)
    subst hz
    go_wp2
    go_ret
    exact ⟨rfl, hbel⟩
end
section
set_option linter.unusedSimpArgs false
set_option linter.unusedVariables false
open Go.RowKit
/-- the reference tells the same error of an outage. -/
def outGR (l : List I3) (k : Nat) (x : I3) : Int := firstE [withinE x.1 0 100000, withinE x.2.1 0 100, withinE x.2.2 0 1000000, whenE (decide (0 < k) && decide (x.1 ≤ prevO l k)) 11]
theorem outGR_eq (l : List I3) (k : Nat) (x : I3) : outGR l k x = outG l k x := by
 unfold outGR outG
 cases k with
 | succ k => simp
 | zero =>
   by_cases h : withinE x.1 0 100000 = 0
   ·have h1 := (withinE_zero.1 h).1
    have : decide (x.1 ≤ prevO l 0) = false := by simp [prevO]; omega
    rw [this]; simp
   ·simp [firstE, h]
set_option maxRecDepth 100000 in
set_option maxHeartbeats 4000000 in
theorem CheckOutagesR_any (v : Value) (l : List I3) (w : World) (hl : l.length ≤ 1000000) (hv : Rw 3 iV w v l) :
 Calls Tryz.prog 43 #[v] w fun r w' => r = .returned (.int .i64 (outE l)) ∧ Below w.heap.size w w' := by
 have HV := Lib.hid hv
 obtain ⟨a, cp, rfl, -⟩ := hv.slice
 obtain ⟨N, hN⟩ : ∃ N, N = l.length := ⟨_, rfl⟩
 rw [← hN] at HV hl ⊢
 have HN := Lib.hid hN
 by_cases hbig : 6 < N
 ·have he : outE l = 5 := by unfold outE; rw [if_pos (by omega)]
  have d1 : (6 : Int) < (N : Int) := by omega
  rw [he]
  clear he hN hbig hv
  go_enter Tryz.func43, Tryz.ntmps43
  go_wp2
  go_ret
  exact ⟨rfl, Below.refl _ _⟩
 ·have he : outE l = eachE (outG l) l := by unfold outE; rw [if_neg (by omega)]
  have d1 : ¬ (6 : Int) < (N : Int) := by omega
  rw [he]
  have HS := Lib.hid (fun (k : Nat) (x : I3) (hx : l[k]? = some x) (h : firstE ((l.mapIdx (outG l)).take k) = 0) => eachE_step hx h)
  have HT := Lib.hid (fun (k : Nat) (x : I3) (hx : l[k]? = some x) (h : firstE ((l.mapIdx (outG l)).take k) = 0) (hne : outG l k x ≠ 0) => eachE_stop hx h hne)
  have HE := Lib.hid (fun (h : firstE ((l.mapIdx (outG l)).take l.length) = 0) => eachE_end h)
  obtain ⟨E, hE⟩ : ∃ e, e = eachE (outG l) l := ⟨_, rfl⟩
  rw [← hE] at HT HE ⊢
  clear he hN hbig hv hE
  go_enter Tryz.func43, Tryz.ntmps43
  go_wp2_with fail
  go_loopw [3] (fun i wr => ∃ k : Nat, k ≤ N ∧ i = .int .i64 k ∧ firstE ((l.mapIdx (outG l)).take k) = 0 ∧ Below w.heap.size w wr) (fun i _ => N - (intOf i).toNat)
  case atStart => exact ⟨0, by omega, rfl, rfl, Below.refl _ _⟩
  case round =>
   obtain ⟨k, hk, rfl, hf, hbel⟩ := hrel
   have HF := Lib.hid hf
   clear hf
   by_cases hlt : k < N
   ·have hdk : (k : Int) < (N : Int) := by omega
    obtain ⟨x, hx⟩ : ∃ x, l[k]? = some x := ⟨_, List.getElem?_eq_getElem (by rw [← HN.out]; exact hlt)⟩
    obtain ⟨b, off, cp', he, hcs⟩ := (HV.out.carry hbel).head (by rw [← HN.out]; omega)
    simp only [Value.slice.injEq] at he
    obtain ⟨rfl, -, rfl⟩ := he
    obtain ⟨c0, c1, c2⟩ := rw3 (hcs k x hx) (show iV x = [.int .i64 x.1, .int .i64 x.2.1, .int .i64 x.2.2] from rfl)
    have hg := outGR_eq l k x
    have hs := HS.out k x hx HF.out
    have ht := HT.out k x hx HF.out
    have T0 := Lib.hid (fun W => CheckTickR_any x.1 W)
    have T1 := Lib.hid (fun W => CheckRange_any x.2.1 0 100 W)
    have T2 := Lib.hid (fun W => CheckRange_any x.2.2 0 1000000 W)
    obtain ⟨e0, he0⟩ : ∃ e, e = withinE x.1 0 100000 := ⟨_, rfl⟩
    obtain ⟨e1, he1⟩ : ∃ e, e = withinE x.2.1 0 100 := ⟨_, rfl⟩
    obtain ⟨e3, he3⟩ : ∃ e, e = withinE x.2.2 0 1000000 := ⟨_, rfl⟩
    rw [← he0] at T0
    rw [← he1] at T1
    rw [← he3] at T2
    have hgx : outG l k x = firstE [e0, e1, e3, whenE (decide (0 < k) && decide (x.1 ≤ prevO l k)) 11] := by rw [← hg, he0, he1, he3]; rfl
    obtain ⟨R, hR⟩ : ∃ r, r = outG l k x := ⟨_, rfl⟩
    rw [← hR] at hs ht hgx
    cases k with
    | zero =>
      have TW := Lib.hid (fun W => WhenR_any false 11 W)
      obtain ⟨e2, he2⟩ : ∃ e, e = whenE false 11 := ⟨_, rfl⟩
      rw [← he2] at TW
      have hgx : R = firstE [e0, e1, e3, e2] := by rw [hgx, he2]; rfl
      have TF := Lib.hid (fun G W h => first4R e0 e1 e3 e2 G W h)
      rw [← hgx] at TF
      obtain ⟨x0, x1, x2⟩ := x
      dsimp only at c0 c1 c2 T0 T1 T2
      have c0 : wr.cell? ⟨b, off, none⟩ = some (.int .i64 x0) := by simpa using c0
      have c1 : wr.cell? ⟨b, off + 1, none⟩ = some (.int .i64 x1) := by simpa using c1
      have c2 : wr.cell? ⟨b, off + 2, none⟩ = some (.int .i64 x2) := by simpa using c2
      have HS1 := Lib.hid hs
      have HT1 := Lib.hid ht
      clear hg hs ht hgx hR he0 he1 he2 he3 hcs hx hlt
      go_upto_region 6 with fail
      refine wp_region_E 99 (by kernel_rfl) ?_
      obtain ⟨wz, hwz⟩ : ∃ v, v = wr.drew := ⟨_, rfl⟩
      rw [← hwz]
      have hlz : Below wr.heap.size wr wz := by rw [hwz]; exact (Below.refl _ _).drew
      have hbz := bthen hbel hlz
      have c0 := cellb c0 hlz
      have c1 := cellb c1 hlz
      have c2 := cellb c2 hlz
      clear hwz hlz
      refine zV 0 ⟨some 14, .move (.tmp 0), 49, "ref.go:476", #[], none⟩ rfl ?_
      simp only [Act.put, zS]
      refine zV 1 ⟨some 15, .move (.tmp 3), 3, "ref.go:476", #[], none⟩ rfl ?_
      simp only [Act.put, zS]
      refine zV 2 ⟨some 16, .indexAddr 49 (.tmp 14) (.tmp 15), 0, "ref.go:476", #[⟨0, .data⟩, ⟨1, .data⟩], none⟩ rfl ?_
      simp only [Act.put, zS]
      refine zV 3 ⟨some 17, .fieldAddr 88 (.tmp 16) 0, 0, "ref.go:476", #[⟨2, .data⟩], none⟩ rfl ?_
      simp only [Act.put, zS]
      refine zV 4 ⟨some 18, .load 3 (.tmp 17), 3, "ref.go:476", #[⟨3, .data⟩], none⟩ rfl ?_ (hv := fun w hE => by have c0 := cellb c0 hE; have c1 := cellb c1 hE; have c2 := cellb c2 hE; (try dsimp only); go_simp; try rfl)
      simp only [Act.put, zS]
      refine zV 6 ⟨some 20, .move (.tmp 0), 49, "ref.go:476", #[], none⟩ rfl ?_
      simp only [Act.put, zS]
      refine zV 7 ⟨some 21, .move (.tmp 3), 3, "ref.go:476", #[], none⟩ rfl ?_
      simp only [Act.put, zS]
      refine zV 8 ⟨some 22, .indexAddr 49 (.tmp 20) (.tmp 21), 0, "ref.go:476", #[⟨6, .data⟩, ⟨7, .data⟩], none⟩ rfl ?_
      simp only [Act.put, zS]
      refine zV 9 ⟨some 23, .fieldAddr 88 (.tmp 22) 1, 0, "ref.go:476", #[⟨8, .data⟩], none⟩ rfl ?_
      simp only [Act.put, zS]
      refine zV 10 ⟨some 24, .load 3 (.tmp 23), 3, "ref.go:476", #[⟨9, .data⟩], none⟩ rfl ?_ (hv := fun w hE => by have c0 := cellb c0 hE; have c1 := cellb c1 hE; have c2 := cellb c2 hE; (try dsimp only); go_simp; try rfl)
      simp only [Act.put, zS]
      refine zV 12 ⟨some 26, .move (.tmp 0), 49, "ref.go:476", #[], none⟩ rfl ?_
      simp only [Act.put, zS]
      refine zV 13 ⟨some 27, .move (.tmp 3), 3, "ref.go:476", #[], none⟩ rfl ?_
      simp only [Act.put, zS]
      refine zV 14 ⟨some 28, .indexAddr 49 (.tmp 26) (.tmp 27), 0, "ref.go:476", #[⟨12, .data⟩, ⟨13, .data⟩], none⟩ rfl ?_
      simp only [Act.put, zS]
      refine zV 15 ⟨some 29, .fieldAddr 88 (.tmp 28) 2, 0, "ref.go:476", #[⟨14, .data⟩], none⟩ rfl ?_
      simp only [Act.put, zS]
      refine zV 16 ⟨some 30, .load 3 (.tmp 29), 3, "ref.go:476", #[⟨15, .data⟩], none⟩ rfl ?_ (hv := fun w hE => by have c0 := cellb c0 hE; have c1 := cellb c1 hE; have c2 := cellb c2 hE; (try dsimp only); go_simp; try rfl)
      simp only [Act.put, zS]
      refine zV 18 ⟨some 32, .move (.tmp 3), 3, "ref.go:476", #[], none⟩ rfl ?_
      simp only [Act.put, zS]
      refine zV 19 ⟨some 33, .binOp .gtr 3 (.tmp 32) (.const (.int .i64 0)) 3, 4, "ref.go:476", #[⟨18, .data⟩], none⟩ rfl ?_
      simp only [Act.put, zS]
      refine zB 5 ⟨some 19, .call ⟨.value (.func 63), #[.tmp 18], #[3]⟩, 3, "ref.go:476", #[⟨4, .data⟩], none⟩ (fun w hE => ofPure (T0.out w)) rfl ?_
      simp only [Act.put, zS]
      refine zB 11 ⟨some 25, .call ⟨.value (.func 66), #[.tmp 24, .const (.int .i64 0), .const (.int .i64 100)], #[3, 3, 3]⟩, 3, "ref.go:476", #[⟨10, .data⟩, ⟨5, .chain⟩], none⟩ (fun w hE => ofPure (T1.out w)) rfl ?_
      simp only [Act.put, zS]
      refine zB 17 ⟨some 31, .call ⟨.value (.func 66), #[.tmp 30, .const (.int .i64 0), .const (.int .i64 1000000)], #[3, 3, 3]⟩, 3, "ref.go:476", #[⟨16, .data⟩, ⟨11, .chain⟩], none⟩ (fun w hE => ofPure (T2.out w)) rfl ?_
      simp only [Act.put, zS]
      refine zV 20 ⟨some 34, .move (.tmp 33), 4, "ref.go:476", #[⟨19, .data⟩, ⟨17, .chain⟩], none⟩ rfl ?_
      simp only [Act.put, zS]
      refine zK 21 ⟨some 35, .move (.tmp 0), 49, "ref.go:476", #[⟨20, .guard⟩], some (20, true)⟩ rfl ?_
      simp only [Act.put, zS]
      refine zK 22 ⟨some 36, .move (.tmp 3), 3, "ref.go:476", #[⟨20, .guard⟩], some (20, true)⟩ rfl ?_
      simp only [Act.put, zS]
      refine zK 23 ⟨some 37, .binOp .sub 3 (.tmp 36) (.const (.int .i64 1)) 3, 3, "ref.go:476", #[⟨22, .data⟩, ⟨20, .guard⟩], some (20, true)⟩ rfl ?_
      simp only [Act.put, zS]
      refine zK 24 ⟨some 38, .call ⟨.builtin .max, #[.const (.int .i64 0), .tmp 37], #[3, 3]⟩, 3, "ref.go:476", #[⟨23, .data⟩, ⟨20, .guard⟩], some (20, true)⟩ rfl ?_
      simp only [Act.put, zS]
      refine zK 25 ⟨some 39, .indexAddr 49 (.tmp 35) (.tmp 38), 0, "ref.go:476", #[⟨21, .data⟩, ⟨24, .data⟩, ⟨20, .guard⟩], some (20, true)⟩ rfl ?_
      simp only [Act.put, zS]
      refine zK 26 ⟨some 40, .fieldAddr 88 (.tmp 39) 0, 0, "ref.go:476", #[⟨25, .data⟩, ⟨20, .guard⟩], some (20, true)⟩ rfl ?_
      simp only [Act.put, zS]
      refine zK 27 ⟨some 41, .load 3 (.tmp 40), 3, "ref.go:476", #[⟨26, .data⟩, ⟨20, .guard⟩], some (20, true)⟩ rfl ?_
      simp only [Act.put, zS]
      refine zK 28 ⟨some 42, .move (.tmp 0), 49, "ref.go:476", #[⟨20, .guard⟩], some (20, true)⟩ rfl ?_
      simp only [Act.put, zS]
      refine zK 29 ⟨some 43, .move (.tmp 3), 3, "ref.go:476", #[⟨20, .guard⟩], some (20, true)⟩ rfl ?_
      simp only [Act.put, zS]
      refine zK 30 ⟨some 44, .indexAddr 49 (.tmp 42) (.tmp 43), 0, "ref.go:476", #[⟨28, .data⟩, ⟨29, .data⟩, ⟨20, .guard⟩], some (20, true)⟩ rfl ?_
      simp only [Act.put, zS]
      refine zK 31 ⟨some 45, .fieldAddr 88 (.tmp 44) 0, 0, "ref.go:476", #[⟨30, .data⟩, ⟨20, .guard⟩], some (20, true)⟩ rfl ?_
      simp only [Act.put, zS]
      refine zK 32 ⟨some 46, .load 3 (.tmp 45), 3, "ref.go:476", #[⟨31, .data⟩, ⟨20, .guard⟩], some (20, true)⟩ rfl ?_
      simp only [Act.put, zS]
      refine zK 33 ⟨some 47, .binOp .geq 3 (.tmp 41) (.tmp 46) 3, 4, "ref.go:476", #[⟨27, .data⟩, ⟨32, .data⟩, ⟨20, .guard⟩], some (20, true)⟩ rfl ?_
      simp only [Act.put, zS]
      refine zV 34 ⟨some 48, .pick (.tmp 34) (.tmp 47) (.const (.bool false)), 4, "ref.go:476", #[⟨20, .data⟩, ⟨33, .data⟩], none⟩ rfl ?_
      simp only [Act.put, zS]
      refine zB 35 ⟨some 49, .call ⟨.value (.func 65), #[.tmp 48, .const (.int .i64 11)], #[4, 3]⟩, 3, "ref.go:476", #[⟨34, .data⟩, ⟨20, .chain⟩], none⟩ (fun w hE => ofPure (TW.out w)) rfl ?_
      simp only [Act.put, zS]
      refine wpAnyE_one (i := 36) (o := ⟨some 50, .buildSlice 41 4 #[(0, .tmp 19), (1, .tmp 25), (2, .tmp 31), (3, .tmp 49)], 41, "ref.go:476", #[⟨5, .data⟩, ⟨11, .data⟩, ⟨17, .data⟩, ⟨35, .data⟩], none⟩) (by kernel_rfl) rfl (fun wy1 hE K hK => ?_)
      have c0 := cellb c0 hE
      have c1 := cellb c1 hE
      have c2 := cellb c2 hE
      have hbz1 := bthen hbz hE
      clear hE
      go_simp
      obtain ⟨wx1, hwz⟩ : ∃ v, v = wy1.alloc (Obj.cells #[.int .i64 e0, .int .i64 e1, .int .i64 e3, .int .i64 e2] 3) := ⟨_, rfl⟩
      rw [← hwz]
      have hl : Below wy1.heap.size wy1 wx1 := by rw [hwz]; exact below_new _ _
      have hcz1 := bthen hbz1 hl
      have iN : BlkI wx1 wy1.heap.size 3 [e0, e1, e3, e2] := by rw [hwz]; exact Blk.new _ _ _
      generalize wy1.heap.size = G at iN ⊢
      have c0 := cellb c0 hl
      have c1 := cellb c1 hl
      have c2 := cellb c2 hl
      clear hwz
      refine hK _ _ (fun _ => hl) ?_
      clear hK K hl
      try simp only [Act.put, zS]
      refine zB 37 ⟨some 51, .call ⟨.value (.func 62), #[.tmp 50], #[41]⟩, 3, "ref.go:476", #[⟨36, .data⟩, ⟨35, .chain⟩], none⟩ (fun w hE => ofPure (TF.out _ w (Blk.carry iN hE))) rfl ?_
      simp only [Act.put, zS]
      refine zV 38 ⟨some 4, .assign (.tmp 51), 3, "ref.go:476", #[⟨37, .data⟩, ⟨37, .chain⟩, ⟨0, .phase⟩, ⟨1, .phase⟩, ⟨2, .phase⟩, ⟨3, .phase⟩, ⟨4, .phase⟩, ⟨5, .phase⟩, ⟨6, .phase⟩, ⟨7, .phase⟩, ⟨8, .phase⟩, ⟨9, .phase⟩, ⟨10, .phase⟩, ⟨11, .phase⟩, ⟨12, .phase⟩, ⟨13, .phase⟩, ⟨14, .phase⟩, ⟨15, .phase⟩, ⟨16, .phase⟩, ⟨17, .phase⟩, ⟨18, .phase⟩, ⟨19, .phase⟩, ⟨20, .phase⟩, ⟨21, .phase⟩, ⟨22, .phase⟩, ⟨23, .phase⟩, ⟨24, .phase⟩, ⟨25, .phase⟩, ⟨26, .phase⟩, ⟨27, .phase⟩, ⟨28, .phase⟩, ⟨29, .phase⟩, ⟨30, .phase⟩, ⟨31, .phase⟩, ⟨32, .phase⟩, ⟨33, .phase⟩, ⟨34, .phase⟩, ⟨35, .phase⟩, ⟨36, .phase⟩, ⟨37, .phase⟩], none⟩ rfl ?_
      simp only [Act.put, zS]
      refine wpAnyE_done (by kernel_rfl) (fun wy2 hE => ?_) _
      have hbz2 := bthen hcz1 hE
      have c0 := cellb c0 hE
      have c1 := cellb c1 hE
      have c2 := cellb c2 hE
      have iN := iN.carry hE
      clear hE
      have hbel := hbz2
      obtain ⟨W9, hW9⟩ : ∃ v, v = wy2 := ⟨_, rfl⟩
      rw [← hW9] at hbel ⊢
      clear hW9 iN
      clear c0 c1 c2 T0 T1 T2 TW TF
      by_cases hz : R = 0
      ·have HS2 := Lib.hid (HS1.out.trans hz)
       have hb0 : (R != 0) = false := by rw [bne_eq_false_iff_eq]; exact hz
       clear hz
       go_wp2
       go_roundw
       case rel => exact ⟨0 + 1, by omega, by go_num, HS2.out, hbel⟩
       case measure => simp [intOf]; omega
      ·obtain rfl := HT1.out hz
       have hb0 : (E != 0) = true := by rw [bne_iff_ne]; exact hz
       clear hz
       go_wp2
       go_ret
       exact ⟨rfl, hbel⟩
    | succ k =>
      obtain ⟨y, hy⟩ : ∃ y, l[k]? = some y := ⟨_, List.getElem?_eq_getElem (by rw [← HN.out]; omega)⟩
      obtain ⟨q0, -, -⟩ := rw3 (hcs k y hy) (show iV y = [.int .i64 y.1, .int .i64 y.2.1, .int .i64 y.2.2] from rfl)
      rw [prevO_succ hy, show decide (0 < k + 1) = true by simp, Bool.true_and] at hgx
      obtain ⟨x0, x1, x2⟩ := x
      obtain ⟨y0, y1, y2⟩ := y
      dsimp only at c0 c1 c2 T0 T1 T2 q0 hgx
      obtain ⟨cb, hcb⟩ : ∃ c, c = decide (x0 ≤ y0) := ⟨_, rfl⟩
      rw [← hcb] at hgx
      have hcb2 : decide (x0 ≤ y0) = cb := hcb.symm
      have TW := Lib.hid (fun W => WhenR_any cb 11 W)
      obtain ⟨e2, he2⟩ : ∃ e, e = whenE cb 11 := ⟨_, rfl⟩
      rw [← he2] at TW hgx
      have TF := Lib.hid (fun G W h => first4R e0 e1 e3 e2 G W h)
      rw [← hgx] at TF
      have HS1 := Lib.hid hs
      have HT1 := Lib.hid ht
      have r1 : IntKind.i64.wrap ((k + 1 : Nat) - 1 : Int) = (k : Int) := by rw [show ((k + 1 : Nat) : Int) - 1 = k by omega]; exact IntWalk.i64_in _ (by omega)
      have r2 : (0 : Int) < (k : Int) + 1 := by omega
      have r5 : (0 : Int) ≤ (k : Int) + 1 := by omega
      have r7 : IntKind.i64.wrap (k : Int) = (k : Int) := IntWalk.i64_in _ (by omega)
      have r8 : (0 : Int) ≤ (k : Int) := by omega
      have r6 : IntKind.i64.wrap ((k : Int) + 1 - 1) = (k : Int) := by rw [show (k : Int) + 1 - 1 = k by omega]; exact IntWalk.i64_in _ (by omega)
      have r3 : max 0 (k : Int) = k := by omega
      have r4 : (k : Int) < (N : Int) := by omega
      clear hg hs ht hgx hR he0 he1 he2 he3 hcs hx hy hlt hcb
      go_upto_region 6 with fail
      refine wp_region_E 99 (by kernel_rfl) ?_
      obtain ⟨wz, hwz⟩ : ∃ v, v = wr.drew := ⟨_, rfl⟩
      rw [← hwz]
      have hlz : Below wr.heap.size wr wz := by rw [hwz]; exact (Below.refl _ _).drew
      have hbz := bthen hbel hlz
      have c0 := cellb c0 hlz
      have c1 := cellb c1 hlz
      have c2 := cellb c2 hlz
      have q0 := cellb q0 hlz
      clear hwz hlz
      refine zV 0 ⟨some 14, .move (.tmp 0), 49, "ref.go:476", #[], none⟩ rfl ?_
      simp only [Act.put, zS]
      refine zV 1 ⟨some 15, .move (.tmp 3), 3, "ref.go:476", #[], none⟩ rfl ?_
      simp only [Act.put, zS]
      refine zV 2 ⟨some 16, .indexAddr 49 (.tmp 14) (.tmp 15), 0, "ref.go:476", #[⟨0, .data⟩, ⟨1, .data⟩], none⟩ rfl ?_
      simp only [Act.put, zS]
      refine zV 3 ⟨some 17, .fieldAddr 88 (.tmp 16) 0, 0, "ref.go:476", #[⟨2, .data⟩], none⟩ rfl ?_
      simp only [Act.put, zS]
      refine zV 4 ⟨some 18, .load 3 (.tmp 17), 3, "ref.go:476", #[⟨3, .data⟩], none⟩ rfl ?_ (hv := fun w hE => by have c0 := cellb c0 hE; have c1 := cellb c1 hE; have c2 := cellb c2 hE; have q0 := cellb q0 hE; (try dsimp only); go_simp; try rfl)
      simp only [Act.put, zS]
      refine zV 6 ⟨some 20, .move (.tmp 0), 49, "ref.go:476", #[], none⟩ rfl ?_
      simp only [Act.put, zS]
      refine zV 7 ⟨some 21, .move (.tmp 3), 3, "ref.go:476", #[], none⟩ rfl ?_
      simp only [Act.put, zS]
      refine zV 8 ⟨some 22, .indexAddr 49 (.tmp 20) (.tmp 21), 0, "ref.go:476", #[⟨6, .data⟩, ⟨7, .data⟩], none⟩ rfl ?_
      simp only [Act.put, zS]
      refine zV 9 ⟨some 23, .fieldAddr 88 (.tmp 22) 1, 0, "ref.go:476", #[⟨8, .data⟩], none⟩ rfl ?_
      simp only [Act.put, zS]
      refine zV 10 ⟨some 24, .load 3 (.tmp 23), 3, "ref.go:476", #[⟨9, .data⟩], none⟩ rfl ?_ (hv := fun w hE => by have c0 := cellb c0 hE; have c1 := cellb c1 hE; have c2 := cellb c2 hE; have q0 := cellb q0 hE; (try dsimp only); go_simp; try rfl)
      simp only [Act.put, zS]
      refine zV 12 ⟨some 26, .move (.tmp 0), 49, "ref.go:476", #[], none⟩ rfl ?_
      simp only [Act.put, zS]
      refine zV 13 ⟨some 27, .move (.tmp 3), 3, "ref.go:476", #[], none⟩ rfl ?_
      simp only [Act.put, zS]
      refine zV 14 ⟨some 28, .indexAddr 49 (.tmp 26) (.tmp 27), 0, "ref.go:476", #[⟨12, .data⟩, ⟨13, .data⟩], none⟩ rfl ?_
      simp only [Act.put, zS]
      refine zV 15 ⟨some 29, .fieldAddr 88 (.tmp 28) 2, 0, "ref.go:476", #[⟨14, .data⟩], none⟩ rfl ?_
      simp only [Act.put, zS]
      refine zV 16 ⟨some 30, .load 3 (.tmp 29), 3, "ref.go:476", #[⟨15, .data⟩], none⟩ rfl ?_ (hv := fun w hE => by have c0 := cellb c0 hE; have c1 := cellb c1 hE; have c2 := cellb c2 hE; have q0 := cellb q0 hE; (try dsimp only); go_simp; try rfl)
      simp only [Act.put, zS]
      refine zV 18 ⟨some 32, .move (.tmp 3), 3, "ref.go:476", #[], none⟩ rfl ?_
      simp only [Act.put, zS]
      refine zV 19 ⟨some 33, .binOp .gtr 3 (.tmp 32) (.const (.int .i64 0)) 3, 4, "ref.go:476", #[⟨18, .data⟩], none⟩ rfl ?_
      simp only [Act.put, zS]
      refine zB 5 ⟨some 19, .call ⟨.value (.func 63), #[.tmp 18], #[3]⟩, 3, "ref.go:476", #[⟨4, .data⟩], none⟩ (fun w hE => ofPure (T0.out w)) rfl ?_
      simp only [Act.put, zS]
      refine zB 11 ⟨some 25, .call ⟨.value (.func 66), #[.tmp 24, .const (.int .i64 0), .const (.int .i64 100)], #[3, 3, 3]⟩, 3, "ref.go:476", #[⟨10, .data⟩, ⟨5, .chain⟩], none⟩ (fun w hE => ofPure (T1.out w)) rfl ?_
      simp only [Act.put, zS]
      refine zB 17 ⟨some 31, .call ⟨.value (.func 66), #[.tmp 30, .const (.int .i64 0), .const (.int .i64 1000000)], #[3, 3, 3]⟩, 3, "ref.go:476", #[⟨16, .data⟩, ⟨11, .chain⟩], none⟩ (fun w hE => ofPure (T2.out w)) rfl ?_
      simp only [Act.put, zS]
      refine zV 20 ⟨some 34, .move (.tmp 33), 4, "ref.go:476", #[⟨19, .data⟩, ⟨17, .chain⟩], none⟩ rfl ?_
      simp only [Act.put, zS]
      refine zV 21 ⟨some 35, .move (.tmp 0), 49, "ref.go:476", #[⟨20, .guard⟩], some (20, true)⟩ rfl ?_
      simp only [Act.put, zS]
      refine zV 22 ⟨some 36, .move (.tmp 3), 3, "ref.go:476", #[⟨20, .guard⟩], some (20, true)⟩ rfl ?_
      simp only [Act.put, zS]
      refine zV 23 ⟨some 37, .binOp .sub 3 (.tmp 36) (.const (.int .i64 1)) 3, 3, "ref.go:476", #[⟨22, .data⟩, ⟨20, .guard⟩], some (20, true)⟩ rfl ?_
      simp only [Act.put, zS]
      refine zV 24 ⟨some 38, .call ⟨.builtin .max, #[.const (.int .i64 0), .tmp 37], #[3, 3]⟩, 3, "ref.go:476", #[⟨23, .data⟩, ⟨20, .guard⟩], some (20, true)⟩ rfl ?_ (hv := fun w hE => by have c0 := cellb c0 hE; have c1 := cellb c1 hE; have c2 := cellb c2 hE; have q0 := cellb q0 hE; (try dsimp only); go_simp; try rfl)
      simp only [Act.put, zS]
      refine zV 25 ⟨some 39, .indexAddr 49 (.tmp 35) (.tmp 38), 0, "ref.go:476", #[⟨21, .data⟩, ⟨24, .data⟩, ⟨20, .guard⟩], some (20, true)⟩ rfl ?_
      simp only [Act.put, zS]
      refine zV 26 ⟨some 40, .fieldAddr 88 (.tmp 39) 0, 0, "ref.go:476", #[⟨25, .data⟩, ⟨20, .guard⟩], some (20, true)⟩ rfl ?_
      simp only [Act.put, zS]
      refine zV 27 ⟨some 41, .load 3 (.tmp 40), 3, "ref.go:476", #[⟨26, .data⟩, ⟨20, .guard⟩], some (20, true)⟩ rfl ?_ (hv := fun w hE => by have c0 := cellb c0 hE; have c1 := cellb c1 hE; have c2 := cellb c2 hE; have q0 := cellb q0 hE; (try dsimp only); go_simp; try rfl)
      simp only [Act.put, zS]
      refine zV 28 ⟨some 42, .move (.tmp 0), 49, "ref.go:476", #[⟨20, .guard⟩], some (20, true)⟩ rfl ?_
      simp only [Act.put, zS]
      refine zV 29 ⟨some 43, .move (.tmp 3), 3, "ref.go:476", #[⟨20, .guard⟩], some (20, true)⟩ rfl ?_
      simp only [Act.put, zS]
      refine zV 30 ⟨some 44, .indexAddr 49 (.tmp 42) (.tmp 43), 0, "ref.go:476", #[⟨28, .data⟩, ⟨29, .data⟩, ⟨20, .guard⟩], some (20, true)⟩ rfl ?_
      simp only [Act.put, zS]
      refine zV 31 ⟨some 45, .fieldAddr 88 (.tmp 44) 0, 0, "ref.go:476", #[⟨30, .data⟩, ⟨20, .guard⟩], some (20, true)⟩ rfl ?_
      simp only [Act.put, zS]
      refine zV 32 ⟨some 46, .load 3 (.tmp 45), 3, "ref.go:476", #[⟨31, .data⟩, ⟨20, .guard⟩], some (20, true)⟩ rfl ?_ (hv := fun w hE => by have c0 := cellb c0 hE; have c1 := cellb c1 hE; have c2 := cellb c2 hE; have q0 := cellb q0 hE; (try dsimp only); go_simp; try rfl)
      simp only [Act.put, zS]
      refine zV 33 ⟨some 47, .binOp .geq 3 (.tmp 41) (.tmp 46) 3, 4, "ref.go:476", #[⟨27, .data⟩, ⟨32, .data⟩, ⟨20, .guard⟩], some (20, true)⟩ rfl ?_
      simp only [Act.put, zS]
      refine zV 34 ⟨some 48, .pick (.tmp 34) (.tmp 47) (.const (.bool false)), 4, "ref.go:476", #[⟨20, .data⟩, ⟨33, .data⟩], none⟩ rfl ?_
      simp only [Act.put, zS]
      refine zB 35 ⟨some 49, .call ⟨.value (.func 65), #[.tmp 48, .const (.int .i64 11)], #[4, 3]⟩, 3, "ref.go:476", #[⟨34, .data⟩, ⟨20, .chain⟩], none⟩ (fun w hE => ofPure (TW.out w)) rfl ?_
      simp only [Act.put, zS]
      refine wpAnyE_one (i := 36) (o := ⟨some 50, .buildSlice 41 4 #[(0, .tmp 19), (1, .tmp 25), (2, .tmp 31), (3, .tmp 49)], 41, "ref.go:476", #[⟨5, .data⟩, ⟨11, .data⟩, ⟨17, .data⟩, ⟨35, .data⟩], none⟩) (by kernel_rfl) rfl (fun wy1 hE K hK => ?_)
      have c0 := cellb c0 hE
      have c1 := cellb c1 hE
      have c2 := cellb c2 hE
      have q0 := cellb q0 hE
      have hbz1 := bthen hbz hE
      clear hE
      go_simp
      obtain ⟨wx1, hwz⟩ : ∃ v, v = wy1.alloc (Obj.cells #[.int .i64 e0, .int .i64 e1, .int .i64 e3, .int .i64 e2] 3) := ⟨_, rfl⟩
      rw [← hwz]
      have hl : Below wy1.heap.size wy1 wx1 := by rw [hwz]; exact below_new _ _
      have hcz1 := bthen hbz1 hl
      have iN : BlkI wx1 wy1.heap.size 3 [e0, e1, e3, e2] := by rw [hwz]; exact Blk.new _ _ _
      generalize wy1.heap.size = G at iN ⊢
      have c0 := cellb c0 hl
      have c1 := cellb c1 hl
      have c2 := cellb c2 hl
      have q0 := cellb q0 hl
      clear hwz
      refine hK _ _ (fun _ => hl) ?_
      clear hK K hl
      try simp only [Act.put, zS]
      refine zB 37 ⟨some 51, .call ⟨.value (.func 62), #[.tmp 50], #[41]⟩, 3, "ref.go:476", #[⟨36, .data⟩, ⟨35, .chain⟩], none⟩ (fun w hE => ofPure (TF.out _ w (Blk.carry iN hE))) rfl ?_
      simp only [Act.put, zS]
      refine zV 38 ⟨some 4, .assign (.tmp 51), 3, "ref.go:476", #[⟨37, .data⟩, ⟨37, .chain⟩, ⟨0, .phase⟩, ⟨1, .phase⟩, ⟨2, .phase⟩, ⟨3, .phase⟩, ⟨4, .phase⟩, ⟨5, .phase⟩, ⟨6, .phase⟩, ⟨7, .phase⟩, ⟨8, .phase⟩, ⟨9, .phase⟩, ⟨10, .phase⟩, ⟨11, .phase⟩, ⟨12, .phase⟩, ⟨13, .phase⟩, ⟨14, .phase⟩, ⟨15, .phase⟩, ⟨16, .phase⟩, ⟨17, .phase⟩, ⟨18, .phase⟩, ⟨19, .phase⟩, ⟨20, .phase⟩, ⟨21, .phase⟩, ⟨22, .phase⟩, ⟨23, .phase⟩, ⟨24, .phase⟩, ⟨25, .phase⟩, ⟨26, .phase⟩, ⟨27, .phase⟩, ⟨28, .phase⟩, ⟨29, .phase⟩, ⟨30, .phase⟩, ⟨31, .phase⟩, ⟨32, .phase⟩, ⟨33, .phase⟩, ⟨34, .phase⟩, ⟨35, .phase⟩, ⟨36, .phase⟩, ⟨37, .phase⟩], none⟩ rfl ?_
      simp only [Act.put, zS]
      refine wpAnyE_done (by kernel_rfl) (fun wy2 hE => ?_) _
      have hbz2 := bthen hcz1 hE
      have c0 := cellb c0 hE
      have c1 := cellb c1 hE
      have c2 := cellb c2 hE
      have q0 := cellb q0 hE
      have iN := iN.carry hE
      clear hE
      have hbel := hbz2
      obtain ⟨W9, hW9⟩ : ∃ v, v = wy2 := ⟨_, rfl⟩
      rw [← hW9] at hbel ⊢
      clear hW9 iN
      clear c0 c1 c2 q0 T0 T1 T2 TW TF
      by_cases hz : R = 0
      ·have HS2 := Lib.hid (HS1.out.trans hz)
       have hb0 : (R != 0) = false := by rw [bne_eq_false_iff_eq]; exact hz
       clear hz
       go_wp2
       go_roundw
       case rel => exact ⟨(k + 1) + 1, by omega, by go_num, HS2.out, hbel⟩
       case measure => simp [intOf]; omega
      ·obtain rfl := HT1.out hz
       have hb0 : (E != 0) = true := by rw [bne_iff_ne]; exact hz
       clear hz
       go_wp2
       go_ret
       exact ⟨rfl, hbel⟩
   ·obtain rfl : k = N := by omega
    have hdk : ¬ (k : Int) < (k : Int) := by omega
    have h0 := HF.out
    rw [HN.out] at h0
    have hz : E = 0 := HE.out h0
    subst hz
    clear h0
    go_wp2
    go_ret
    exact ⟨rfl, hbel⟩
theorem any_succ {α : Type} (f : α → Bool) (l : List α) (j : Nat) (y : α) (h : l[j]? = some y) : (l.take (j + 1)).any f = ((l.take j).any f || f y) := by
 rw [List.take_add_one, h, List.any_append]; simp
set_option maxRecDepth 100000 in
set_option maxHeartbeats 8000000 in
theorem CheckModulesR_any (v : Value) (l : List Mo) (w : World) (hl : l.length ≤ 1000000) (hls : ∀ m ∈ l, m.1.size ≤ 1000000) (hv : Rw 4 mV w v l) :
 Calls Tryz.prog 41 #[v] w fun r w' => r = .returned (.int .i64 (modsE l)) ∧ Below w.heap.size w w' := by
 have HV := Lib.hid hv
 have HLS := Lib.hid hls
 obtain ⟨a, cp, rfl, -⟩ := hv.slice
 obtain ⟨N, hN⟩ : ∃ N, N = l.length := ⟨_, rfl⟩
 rw [← hN] at HV hl ⊢
 have HN := Lib.hid hN
 by_cases hbig : 8 < N
 ·have he : modsE l = 5 := by unfold modsE; rw [if_pos (by omega)]
  have d1 : (8 : Int) < (N : Int) := by omega
  rw [he]
  clear he hN hbig hv hls
  go_enter Tryz.func41, Tryz.ntmps41
  go_wp2
  go_ret
  exact ⟨rfl, Below.refl _ _⟩
 ·have he : modsE l = eachE (modG l) l := by unfold modsE; rw [if_neg (by omega)]
  have d1 : ¬ (8 : Int) < (N : Int) := by omega
  rw [he]
  have HS := Lib.hid (fun (k : Nat) (x : Mo) (hx : l[k]? = some x) (h : firstE ((l.mapIdx (modG l)).take k) = 0) => eachE_step hx h)
  have HT := Lib.hid (fun (k : Nat) (x : Mo) (hx : l[k]? = some x) (h : firstE ((l.mapIdx (modG l)).take k) = 0) (hne : modG l k x ≠ 0) => eachE_stop hx h hne)
  have HE := Lib.hid (fun (h : firstE ((l.mapIdx (modG l)).take l.length) = 0) => eachE_end h)
  obtain ⟨E, hE⟩ : ∃ e, e = eachE (modG l) l := ⟨_, rfl⟩
  rw [← hE] at HT HE ⊢
  clear he hN hbig hv hls hE
  go_enter Tryz.func41, Tryz.ntmps41
  go_wp2_with fail
  go_loopw [3] (fun i wr => ∃ k : Nat, k ≤ N ∧ i = .int .i64 k ∧ firstE ((l.mapIdx (modG l)).take k) = 0 ∧ Below w.heap.size w wr) (fun i _ => N - (intOf i).toNat)
  case atStart => exact ⟨0, by omega, rfl, rfl, Below.refl _ _⟩
  case round =>
   obtain ⟨k, hk, rfl, hf, hbel⟩ := hrel
   have HF := Lib.hid hf
   clear hf
   by_cases hlt : k < N
   ·have hdk : (k : Int) < (N : Int) := by omega
    obtain ⟨x, hx⟩ : ∃ x, l[k]? = some x := ⟨_, List.getElem?_eq_getElem (by rw [← HN.out]; exact hlt)⟩
    have hxs := HLS.out x (List.mem_of_getElem? hx)
    have hs := HS.out k x hx HF.out
    have ht := HT.out k x hx HF.out
    have TN := Lib.hid (fun W => CheckNameR_any x.1 W hxs)
    have T1 := Lib.hid (fun W => CheckTickR_any x.2.1 W)
    have T2 := Lib.hid (fun W => CheckTickR_any x.2.2.1 W)
    have T3 := Lib.hid (fun W => CheckRange_any x.2.2.2 1 100 W)
    have T4 := Lib.hid (fun W => WhenR_any (decide (x.2.2.1 < x.2.1)) 11 W)
    obtain ⟨tw, htw⟩ : ∃ b, b = (l.take k).any fun o => o.1.toList == x.1.toList := ⟨_, rfl⟩
    have TW := Lib.hid (fun W => WhenR_any tw 9 W)
    have hgx : modG l k x = firstE [whenE (!nameB x.1.data.toList) 8, whenE tw 9, withinE x.2.1 0 100000, withinE x.2.2.1 0 100000, withinE x.2.2.2 1 100, whenE (decide (x.2.2.1 < x.2.1)) 11] := by rw [htw]; rfl
    obtain ⟨e0, he0⟩ : ∃ e, e = whenE (!nameB x.1.data.toList) 8 := ⟨_, rfl⟩
    obtain ⟨e1, he1⟩ : ∃ e, e = whenE tw 9 := ⟨_, rfl⟩
    obtain ⟨e2, he2⟩ : ∃ e, e = withinE x.2.1 0 100000 := ⟨_, rfl⟩
    obtain ⟨e3, he3⟩ : ∃ e, e = withinE x.2.2.1 0 100000 := ⟨_, rfl⟩
    obtain ⟨e4, he4⟩ : ∃ e, e = withinE x.2.2.2 1 100 := ⟨_, rfl⟩
    obtain ⟨e5, he5⟩ : ∃ e, e = whenE (decide (x.2.2.1 < x.2.1)) 11 := ⟨_, rfl⟩
    rw [← he0] at TN hgx
    rw [← he1] at TW hgx
    rw [← he2] at T1 hgx
    rw [← he3] at T2 hgx
    rw [← he4] at T3 hgx
    rw [← he5] at T4 hgx
    obtain ⟨R, hR⟩ : ∃ r, r = modG l k x := ⟨_, rfl⟩
    rw [← hR] at hs ht hgx
    have TF := Lib.hid (fun G W h => first6R e0 e1 e2 e3 e4 e5 G W h)
    rw [← hgx] at TF
    have HS1 := Lib.hid hs
    have HT1 := Lib.hid ht
    have HTW := Lib.hid htw
    have HX := Lib.hid hx
    obtain ⟨s, x1, x2, x3⟩ := x
    dsimp only at TN T1 T2 T3 T4
    obtain ⟨cb, hcb⟩ : ∃ c, c = decide (x2 < x1) := ⟨_, rfl⟩
    rw [← hcb] at T4
    have hcb2 : decide (x2 < x1) = cb := hcb.symm
    obtain ⟨W1, hW1⟩ : ∃ v, v = wr := ⟨_, rfl⟩
    rw [← hW1] at hbel ⊢
    have HB1 := Lib.hid hbel
    clear hs ht hgx hR he0 he1 he2 he3 he4 he5 htw hx hlt hcb hW1 hbel hxs
    go_wp2_with fail
    go_loopw [4, 5] (fun u i wy => ∃ j : Nat, j ≤ k ∧ i = .int .i64 j ∧ u = .bool ((l.take j).any fun o => o.1.toList == s.toList) ∧ Below W1.heap.size W1 wy) (fun _ i _ => k - (intOf i).toNat)
    case atStart => exact ⟨0, by omega, rfl, rfl, Below.refl _ _⟩
    case round =>
     obtain ⟨j, hj, rfl, rfl, hbj⟩ := hrel
     by_cases hlj : j < k
     ·have hdj : (j : Int) < (k : Int) := by omega
      have hdn : (j : Int) < (N : Int) := by omega
      obtain ⟨y, hy⟩ : ∃ x, l[j]? = some x := ⟨_, List.getElem?_eq_getElem (by rw [← HN.out]; omega)⟩
      obtain ⟨b, off, cp', he, hcs⟩ := (HV.out.carry (bthen HB1.out hbj)).head (by rw [← HN.out]; omega)
      simp only [Value.slice.injEq] at he
      obtain ⟨rfl, -, rfl⟩ := he
      obtain ⟨c0, -, -, -⟩ := rw4 (hcs j y hy) (show mV y = [.string y.1, .int .i64 y.2.1, .int .i64 y.2.2.1, .int .i64 y.2.2.2] from rfl)
      obtain ⟨d0, -, -, -⟩ := rw4 (hcs k _ HX.out) (show mV (s, x1, x2, x3) = [.string s, .int .i64 x1, .int .i64 x2, .int .i64 x3] from rfl)
      have hsu := any_succ (fun o : Mo => o.1.toList == s.toList) l j y hy
      obtain ⟨p, y1, y2, y3⟩ := y
      dsimp only at c0 hsu
      obtain ⟨A, hA⟩ : ∃ b, b = (l.take j).any fun o => o.1.toList == s.toList := ⟨_, rfl⟩
      rw [← hA] at hsu ⊢
      obtain ⟨q, hq⟩ : ∃ b, b = (p.toList == s.toList) := ⟨_, rfl⟩
      rw [← hq] at hsu
      have hq2 : (p.toList == s.toList) = q := hq.symm
      have HSU := Lib.hid hsu
      clear hsu hA hq hy hcs hlj
      go_upto_region 10 with fail
      cases A with
      | true =>
        refine wp_region_held_drew (S := (fun _ => True)) (by kernel_rfl) trivial (fun hHeld0 => ?_)
        obtain ⟨wzd, hwz⟩ : ∃ v, v = wr.drew := ⟨_, rfl⟩
        rw [← hwz]
        have hbzd : Below wr.heap.size wr wzd := by rw [hwz]; exact (Below.refl _ _).drew
        have hlzd : Below wr.heap.size wr wzd := by rw [hwz]; exact (Below.refl _ _).drew
        clear hwz hlzd
        refine zH 0 ⟨some 21, .move (.tmp 4), 4, "ref.go:461", #[], none⟩ rfl ?_
        simp only [Act.put, zS]
        refine zH 1 ⟨some 22, .move (.tmp 21), 4, "ref.go:461", #[⟨0, .data⟩], none⟩ rfl ?_
        simp only [Act.put, zS]
        refine zL 2 ⟨some 23, .move (.tmp 0), 48, "ref.go:461", #[⟨1, .guard⟩], some (1, false)⟩ rfl ?_
        simp only [Act.put, zS]
        refine zL 3 ⟨some 24, .move (.tmp 5), 3, "ref.go:461", #[⟨1, .guard⟩], some (1, false)⟩ rfl ?_
        simp only [Act.put, zS]
        refine zL 4 ⟨some 25, .indexAddr 48 (.tmp 23) (.tmp 24), 0, "ref.go:461", #[⟨2, .data⟩, ⟨3, .data⟩, ⟨1, .guard⟩], some (1, false)⟩ rfl ?_
        simp only [Act.put, zS]
        refine zL 5 ⟨some 26, .fieldAddr 143 (.tmp 25) 0, 0, "ref.go:461", #[⟨4, .data⟩, ⟨1, .guard⟩], some (1, false)⟩ rfl ?_
        simp only [Act.put, zS]
        refine zL 6 ⟨some 27, .load 9 (.tmp 26), 9, "ref.go:461", #[⟨5, .data⟩, ⟨1, .guard⟩], some (1, false)⟩ rfl ?_
        simp only [Act.put, zS]
        refine zL 7 ⟨some 28, .move (.tmp 0), 48, "ref.go:461", #[⟨1, .guard⟩], some (1, false)⟩ rfl ?_
        simp only [Act.put, zS]
        refine zL 8 ⟨some 29, .move (.tmp 3), 3, "ref.go:461", #[⟨1, .guard⟩], some (1, false)⟩ rfl ?_
        simp only [Act.put, zS]
        refine zL 9 ⟨some 30, .indexAddr 48 (.tmp 28) (.tmp 29), 0, "ref.go:461", #[⟨7, .data⟩, ⟨8, .data⟩, ⟨1, .guard⟩], some (1, false)⟩ rfl ?_
        simp only [Act.put, zS]
        refine zL 10 ⟨some 31, .fieldAddr 143 (.tmp 30) 0, 0, "ref.go:461", #[⟨9, .data⟩, ⟨1, .guard⟩], some (1, false)⟩ rfl ?_
        simp only [Act.put, zS]
        refine zL 11 ⟨some 32, .load 9 (.tmp 31), 9, "ref.go:461", #[⟨10, .data⟩, ⟨1, .guard⟩], some (1, false)⟩ rfl ?_
        simp only [Act.put, zS]
        refine zL 12 ⟨some 33, .binOp .eql 9 (.tmp 27) (.tmp 32) 9, 4, "ref.go:461", #[⟨6, .data⟩, ⟨11, .data⟩, ⟨1, .guard⟩], some (1, false)⟩ rfl ?_
        simp only [Act.put, zS]
        refine zH 13 ⟨some 34, .pick (.tmp 22) (.const (.bool true)) (.tmp 33), 4, "ref.go:461", #[⟨1, .data⟩, ⟨12, .data⟩], none⟩ rfl ?_
        simp only [Act.put, zS]
        refine zH 14 ⟨some 4, .assign (.tmp 34), 4, "ref.go:461", #[⟨13, .data⟩, ⟨1, .chain⟩, ⟨0, .phase⟩, ⟨1, .phase⟩, ⟨2, .phase⟩, ⟨3, .phase⟩, ⟨4, .phase⟩, ⟨5, .phase⟩, ⟨6, .phase⟩, ⟨7, .phase⟩, ⟨8, .phase⟩, ⟨9, .phase⟩, ⟨10, .phase⟩, ⟨11, .phase⟩, ⟨12, .phase⟩, ⟨13, .phase⟩], none⟩ rfl ?_
        simp only [Act.put, zS]
        refine wpAnyH_done (by kernel_rfl) ?_ _
        clear hHeld0
        have hb2 := hbzd
        obtain ⟨W9, hW9⟩ : ∃ v, v = wzd := ⟨_, rfl⟩
        rw [← hW9] at hb2 ⊢
        clear hW9
        have hbj2 := bthen hbj hb2
        clear hb2 c0 d0 hq2
        go_wp2
        go_roundw
        case rel => exact ⟨j + 1, by omega, by go_num, by rw [HSU.out]; rfl, hbj2⟩
        case measure => simp [intOf]; omega
      | false =>
        refine wp_region_held_drew (S := (fun W => W.cell? ⟨b, off + j * 4, none⟩ = some (.string p) ∧ W.cell? ⟨b, off + k * 4, none⟩ = some (.string s))) (by kernel_rfl) ⟨cellb c0 (Below.refl _ _).drew, cellb d0 (Below.refl _ _).drew⟩ (fun hHeld0 => ?_)
        obtain ⟨wzd, hwz⟩ : ∃ v, v = wr.drew := ⟨_, rfl⟩
        rw [← hwz] at hHeld0 ⊢
        have hbzd : Below wr.heap.size wr wzd := by rw [hwz]; exact (Below.refl _ _).drew
        have hlzd : Below wr.heap.size wr wzd := by rw [hwz]; exact (Below.refl _ _).drew
        clear hwz hlzd
        refine zH 0 ⟨some 21, .move (.tmp 4), 4, "ref.go:461", #[], none⟩ rfl ?_
        simp only [Act.put, zS]
        refine zH 1 ⟨some 22, .move (.tmp 21), 4, "ref.go:461", #[⟨0, .data⟩], none⟩ rfl ?_
        simp only [Act.put, zS]
        refine zH 2 ⟨some 23, .move (.tmp 0), 48, "ref.go:461", #[⟨1, .guard⟩], some (1, false)⟩ rfl ?_
        simp only [Act.put, zS]
        refine zH 3 ⟨some 24, .move (.tmp 5), 3, "ref.go:461", #[⟨1, .guard⟩], some (1, false)⟩ rfl ?_
        simp only [Act.put, zS]
        refine zH 4 ⟨some 25, .indexAddr 48 (.tmp 23) (.tmp 24), 0, "ref.go:461", #[⟨2, .data⟩, ⟨3, .data⟩, ⟨1, .guard⟩], some (1, false)⟩ rfl ?_
        simp only [Act.put, zS]
        refine zH 5 ⟨some 26, .fieldAddr 143 (.tmp 25) 0, 0, "ref.go:461", #[⟨4, .data⟩, ⟨1, .guard⟩], some (1, false)⟩ rfl ?_
        simp only [Act.put, zS]
        refine zH 6 ⟨some 27, .load 9 (.tmp 26), 9, "ref.go:461", #[⟨5, .data⟩, ⟨1, .guard⟩], some (1, false)⟩ rfl ?_
        simp only [Act.put, zS]
        refine zH 7 ⟨some 28, .move (.tmp 0), 48, "ref.go:461", #[⟨1, .guard⟩], some (1, false)⟩ rfl ?_
        simp only [Act.put, zS]
        refine zH 8 ⟨some 29, .move (.tmp 3), 3, "ref.go:461", #[⟨1, .guard⟩], some (1, false)⟩ rfl ?_
        simp only [Act.put, zS]
        refine zH 9 ⟨some 30, .indexAddr 48 (.tmp 28) (.tmp 29), 0, "ref.go:461", #[⟨7, .data⟩, ⟨8, .data⟩, ⟨1, .guard⟩], some (1, false)⟩ rfl ?_
        simp only [Act.put, zS]
        refine zH 10 ⟨some 31, .fieldAddr 143 (.tmp 30) 0, 0, "ref.go:461", #[⟨9, .data⟩, ⟨1, .guard⟩], some (1, false)⟩ rfl ?_
        simp only [Act.put, zS]
        refine zH 11 ⟨some 32, .load 9 (.tmp 31), 9, "ref.go:461", #[⟨10, .data⟩, ⟨1, .guard⟩], some (1, false)⟩ rfl ?_
        simp only [Act.put, zS]
        refine zH 12 ⟨some 33, .binOp .eql 9 (.tmp 27) (.tmp 32) 9, 4, "ref.go:461", #[⟨6, .data⟩, ⟨11, .data⟩, ⟨1, .guard⟩], some (1, false)⟩ rfl ?_
        simp only [Act.put, zS]
        refine zH 13 ⟨some 34, .pick (.tmp 22) (.const (.bool true)) (.tmp 33), 4, "ref.go:461", #[⟨1, .data⟩, ⟨12, .data⟩], none⟩ rfl ?_
        simp only [Act.put, zS]
        refine zH 14 ⟨some 4, .assign (.tmp 34), 4, "ref.go:461", #[⟨13, .data⟩, ⟨1, .chain⟩, ⟨0, .phase⟩, ⟨1, .phase⟩, ⟨2, .phase⟩, ⟨3, .phase⟩, ⟨4, .phase⟩, ⟨5, .phase⟩, ⟨6, .phase⟩, ⟨7, .phase⟩, ⟨8, .phase⟩, ⟨9, .phase⟩, ⟨10, .phase⟩, ⟨11, .phase⟩, ⟨12, .phase⟩, ⟨13, .phase⟩], none⟩ rfl ?_
        simp only [Act.put, zS]
        refine wpAnyH_done (by kernel_rfl) ?_ _
        clear hHeld0
        have hb2 := hbzd
        obtain ⟨W9, hW9⟩ : ∃ v, v = wzd := ⟨_, rfl⟩
        rw [← hW9] at hb2 ⊢
        clear hW9
        have hbj2 := bthen hbj hb2
        clear hb2 c0 d0 hq2
        go_wp2
        go_roundw
        case rel => exact ⟨j + 1, by omega, by go_num, by rw [HSU.out]; rfl, hbj2⟩
        case measure => simp [intOf]; omega
     ·obtain rfl : j = k := by omega
      have hdj : ¬ (j : Int) < (j : Int) := by omega
      have htw2 := HTW.out
      rw [← htw2]
      have hbel := bthen HB1.out hbj
      obtain ⟨b, off, cp', he, hcs⟩ := (HV.out.carry hbel).head (by rw [← HN.out]; omega)
      simp only [Value.slice.injEq] at he
      obtain ⟨rfl, -, rfl⟩ := he
      obtain ⟨c0, c1, c2, c3⟩ := rw4 (hcs j _ HX.out) (show mV (s, x1, x2, x3) = [.string s, .int .i64 x1, .int .i64 x2, .int .i64 x3] from rfl)
      clear hcs htw2 hbj
      go_upto_region 11 with fail
      refine wp_region_E 99 (by kernel_rfl) ?_
      obtain ⟨wz, hwz⟩ : ∃ v, v = wr.drew := ⟨_, rfl⟩
      rw [← hwz]
      have hlz : Below wr.heap.size wr wz := by rw [hwz]; exact (Below.refl _ _).drew
      have hbz := bthen hbel hlz
      have c0 := cellb c0 hlz
      have c1 := cellb c1 hlz
      have c2 := cellb c2 hlz
      have c3 := cellb c3 hlz
      clear hwz hlz
      refine zV 0 ⟨some 35, .move (.tmp 0), 48, "ref.go:463", #[], none⟩ rfl ?_
      simp only [Act.put, zS]
      refine zV 1 ⟨some 36, .move (.tmp 3), 3, "ref.go:463", #[], none⟩ rfl ?_
      simp only [Act.put, zS]
      refine zV 2 ⟨some 37, .indexAddr 48 (.tmp 35) (.tmp 36), 0, "ref.go:463", #[⟨0, .data⟩, ⟨1, .data⟩], none⟩ rfl ?_
      simp only [Act.put, zS]
      refine zV 3 ⟨some 38, .fieldAddr 143 (.tmp 37) 0, 0, "ref.go:463", #[⟨2, .data⟩], none⟩ rfl ?_
      simp only [Act.put, zS]
      refine zV 4 ⟨some 39, .load 9 (.tmp 38), 9, "ref.go:463", #[⟨3, .data⟩], none⟩ rfl ?_ (hv := fun w hE => by have c0 := cellb c0 hE; have c1 := cellb c1 hE; have c2 := cellb c2 hE; have c3 := cellb c3 hE; (try dsimp only); go_simp; try rfl)
      simp only [Act.put, zS]
      refine zV 6 ⟨some 41, .move (.tmp 4), 4, "ref.go:463", #[], none⟩ rfl ?_
      simp only [Act.put, zS]
      refine zV 8 ⟨some 43, .move (.tmp 0), 48, "ref.go:463", #[], none⟩ rfl ?_
      simp only [Act.put, zS]
      refine zV 9 ⟨some 44, .move (.tmp 3), 3, "ref.go:463", #[], none⟩ rfl ?_
      simp only [Act.put, zS]
      refine zV 10 ⟨some 45, .indexAddr 48 (.tmp 43) (.tmp 44), 0, "ref.go:463", #[⟨8, .data⟩, ⟨9, .data⟩], none⟩ rfl ?_
      simp only [Act.put, zS]
      refine zV 11 ⟨some 46, .fieldAddr 143 (.tmp 45) 1, 0, "ref.go:463", #[⟨10, .data⟩], none⟩ rfl ?_
      simp only [Act.put, zS]
      refine zV 12 ⟨some 47, .load 3 (.tmp 46), 3, "ref.go:463", #[⟨11, .data⟩], none⟩ rfl ?_ (hv := fun w hE => by have c0 := cellb c0 hE; have c1 := cellb c1 hE; have c2 := cellb c2 hE; have c3 := cellb c3 hE; (try dsimp only); go_simp; try rfl)
      simp only [Act.put, zS]
      refine zV 14 ⟨some 49, .move (.tmp 0), 48, "ref.go:463", #[], none⟩ rfl ?_
      simp only [Act.put, zS]
      refine zV 15 ⟨some 50, .move (.tmp 3), 3, "ref.go:463", #[], none⟩ rfl ?_
      simp only [Act.put, zS]
      refine zV 16 ⟨some 51, .indexAddr 48 (.tmp 49) (.tmp 50), 0, "ref.go:463", #[⟨14, .data⟩, ⟨15, .data⟩], none⟩ rfl ?_
      simp only [Act.put, zS]
      refine zV 17 ⟨some 52, .fieldAddr 143 (.tmp 51) 2, 0, "ref.go:463", #[⟨16, .data⟩], none⟩ rfl ?_
      simp only [Act.put, zS]
      refine zV 18 ⟨some 53, .load 3 (.tmp 52), 3, "ref.go:463", #[⟨17, .data⟩], none⟩ rfl ?_ (hv := fun w hE => by have c0 := cellb c0 hE; have c1 := cellb c1 hE; have c2 := cellb c2 hE; have c3 := cellb c3 hE; (try dsimp only); go_simp; try rfl)
      simp only [Act.put, zS]
      refine zV 20 ⟨some 55, .move (.tmp 0), 48, "ref.go:463", #[], none⟩ rfl ?_
      simp only [Act.put, zS]
      refine zV 21 ⟨some 56, .move (.tmp 3), 3, "ref.go:463", #[], none⟩ rfl ?_
      simp only [Act.put, zS]
      refine zV 22 ⟨some 57, .indexAddr 48 (.tmp 55) (.tmp 56), 0, "ref.go:463", #[⟨20, .data⟩, ⟨21, .data⟩], none⟩ rfl ?_
      simp only [Act.put, zS]
      refine zV 23 ⟨some 58, .fieldAddr 143 (.tmp 57) 3, 0, "ref.go:463", #[⟨22, .data⟩], none⟩ rfl ?_
      simp only [Act.put, zS]
      refine zV 24 ⟨some 59, .load 3 (.tmp 58), 3, "ref.go:463", #[⟨23, .data⟩], none⟩ rfl ?_ (hv := fun w hE => by have c0 := cellb c0 hE; have c1 := cellb c1 hE; have c2 := cellb c2 hE; have c3 := cellb c3 hE; (try dsimp only); go_simp; try rfl)
      simp only [Act.put, zS]
      refine zV 26 ⟨some 61, .move (.tmp 0), 48, "ref.go:463", #[], none⟩ rfl ?_
      simp only [Act.put, zS]
      refine zV 27 ⟨some 62, .move (.tmp 3), 3, "ref.go:463", #[], none⟩ rfl ?_
      simp only [Act.put, zS]
      refine zV 28 ⟨some 63, .indexAddr 48 (.tmp 61) (.tmp 62), 0, "ref.go:463", #[⟨26, .data⟩, ⟨27, .data⟩], none⟩ rfl ?_
      simp only [Act.put, zS]
      refine zV 29 ⟨some 64, .fieldAddr 143 (.tmp 63) 1, 0, "ref.go:463", #[⟨28, .data⟩], none⟩ rfl ?_
      simp only [Act.put, zS]
      refine zV 30 ⟨some 65, .load 3 (.tmp 64), 3, "ref.go:463", #[⟨29, .data⟩], none⟩ rfl ?_ (hv := fun w hE => by have c0 := cellb c0 hE; have c1 := cellb c1 hE; have c2 := cellb c2 hE; have c3 := cellb c3 hE; (try dsimp only); go_simp; try rfl)
      simp only [Act.put, zS]
      refine zV 31 ⟨some 66, .move (.tmp 0), 48, "ref.go:463", #[], none⟩ rfl ?_
      simp only [Act.put, zS]
      refine zV 32 ⟨some 67, .move (.tmp 3), 3, "ref.go:463", #[], none⟩ rfl ?_
      simp only [Act.put, zS]
      refine zV 33 ⟨some 68, .indexAddr 48 (.tmp 66) (.tmp 67), 0, "ref.go:463", #[⟨31, .data⟩, ⟨32, .data⟩], none⟩ rfl ?_
      simp only [Act.put, zS]
      refine zV 34 ⟨some 69, .fieldAddr 143 (.tmp 68) 2, 0, "ref.go:463", #[⟨33, .data⟩], none⟩ rfl ?_
      simp only [Act.put, zS]
      refine zV 35 ⟨some 70, .load 3 (.tmp 69), 3, "ref.go:463", #[⟨34, .data⟩], none⟩ rfl ?_ (hv := fun w hE => by have c0 := cellb c0 hE; have c1 := cellb c1 hE; have c2 := cellb c2 hE; have c3 := cellb c3 hE; (try dsimp only); go_simp; try rfl)
      simp only [Act.put, zS]
      refine zV 36 ⟨some 71, .binOp .gtr 3 (.tmp 65) (.tmp 70) 3, 4, "ref.go:463", #[⟨30, .data⟩, ⟨35, .data⟩], none⟩ rfl ?_
      simp only [Act.put, zS]
      refine zB 5 ⟨some 40, .call ⟨.value (.func 108), #[.tmp 39], #[9]⟩, 3, "ref.go:463", #[⟨4, .data⟩], none⟩ (fun w hE => ofPure (TN.out w)) rfl ?_
      simp only [Act.put, zS]
      refine zB 7 ⟨some 42, .call ⟨.value (.func 65), #[.tmp 41, .const (.int .i64 9)], #[4, 3]⟩, 3, "ref.go:463", #[⟨6, .data⟩, ⟨5, .chain⟩], none⟩ (fun w hE => ofPure (TW.out w)) rfl ?_
      simp only [Act.put, zS]
      refine zB 13 ⟨some 48, .call ⟨.value (.func 63), #[.tmp 47], #[3]⟩, 3, "ref.go:463", #[⟨12, .data⟩, ⟨7, .chain⟩], none⟩ (fun w hE => ofPure (T1.out w)) rfl ?_
      simp only [Act.put, zS]
      refine zB 19 ⟨some 54, .call ⟨.value (.func 63), #[.tmp 53], #[3]⟩, 3, "ref.go:463", #[⟨18, .data⟩, ⟨13, .chain⟩], none⟩ (fun w hE => ofPure (T2.out w)) rfl ?_
      simp only [Act.put, zS]
      refine zB 25 ⟨some 60, .call ⟨.value (.func 66), #[.tmp 59, .const (.int .i64 1), .const (.int .i64 100)], #[3, 3, 3]⟩, 3, "ref.go:463", #[⟨24, .data⟩, ⟨19, .chain⟩], none⟩ (fun w hE => ofPure (T3.out w)) rfl ?_
      simp only [Act.put, zS]
      refine zB 37 ⟨some 72, .call ⟨.value (.func 65), #[.tmp 71, .const (.int .i64 11)], #[4, 3]⟩, 3, "ref.go:463", #[⟨36, .data⟩, ⟨25, .chain⟩], none⟩ (fun w hE => ofPure (T4.out w)) rfl ?_
      simp only [Act.put, zS]
      refine wpAnyE_one (i := 38) (o := ⟨some 73, .buildSlice 41 6 #[(0, .tmp 40), (1, .tmp 42), (2, .tmp 48), (3, .tmp 54), (4, .tmp 60), (5, .tmp 72)], 41, "ref.go:463", #[⟨5, .data⟩, ⟨7, .data⟩, ⟨13, .data⟩, ⟨19, .data⟩, ⟨25, .data⟩, ⟨37, .data⟩], none⟩) (by kernel_rfl) rfl (fun wy1 hE K hK => ?_)
      have c0 := cellb c0 hE
      have c1 := cellb c1 hE
      have c2 := cellb c2 hE
      have c3 := cellb c3 hE
      have hbz1 := bthen hbz hE
      clear hE
      go_simp
      obtain ⟨wx1, hwz⟩ : ∃ v, v = wy1.alloc (Obj.cells #[.int .i64 e0, .int .i64 e1, .int .i64 e2, .int .i64 e3, .int .i64 e4, .int .i64 e5] 3) := ⟨_, rfl⟩
      rw [← hwz]
      have hl : Below wy1.heap.size wy1 wx1 := by rw [hwz]; exact below_new _ _
      have hcz1 := bthen hbz1 hl
      have iN : BlkI wx1 wy1.heap.size 3 [e0, e1, e2, e3, e4, e5] := by rw [hwz]; exact Blk.new _ _ _
      generalize wy1.heap.size = G at iN ⊢
      have c0 := cellb c0 hl
      have c1 := cellb c1 hl
      have c2 := cellb c2 hl
      have c3 := cellb c3 hl
      clear hwz
      refine hK _ _ (fun _ => hl) ?_
      clear hK K hl
      try simp only [Act.put, zS]
      refine zB 39 ⟨some 74, .call ⟨.value (.func 62), #[.tmp 73], #[41]⟩, 3, "ref.go:463", #[⟨38, .data⟩, ⟨37, .chain⟩], none⟩ (fun w hE => ofPure (TF.out _ w (Blk.carry iN hE))) rfl ?_
      simp only [Act.put, zS]
      refine zV 40 ⟨some 6, .assign (.tmp 74), 3, "ref.go:463", #[⟨39, .data⟩, ⟨39, .chain⟩, ⟨0, .phase⟩, ⟨1, .phase⟩, ⟨2, .phase⟩, ⟨3, .phase⟩, ⟨4, .phase⟩, ⟨5, .phase⟩, ⟨6, .phase⟩, ⟨7, .phase⟩, ⟨8, .phase⟩, ⟨9, .phase⟩, ⟨10, .phase⟩, ⟨11, .phase⟩, ⟨12, .phase⟩, ⟨13, .phase⟩, ⟨14, .phase⟩, ⟨15, .phase⟩, ⟨16, .phase⟩, ⟨17, .phase⟩, ⟨18, .phase⟩, ⟨19, .phase⟩, ⟨20, .phase⟩, ⟨21, .phase⟩, ⟨22, .phase⟩, ⟨23, .phase⟩, ⟨24, .phase⟩, ⟨25, .phase⟩, ⟨26, .phase⟩, ⟨27, .phase⟩, ⟨28, .phase⟩, ⟨29, .phase⟩, ⟨30, .phase⟩, ⟨31, .phase⟩, ⟨32, .phase⟩, ⟨33, .phase⟩, ⟨34, .phase⟩, ⟨35, .phase⟩, ⟨36, .phase⟩, ⟨37, .phase⟩, ⟨38, .phase⟩, ⟨39, .phase⟩], none⟩ rfl ?_
      simp only [Act.put, zS]
      refine wpAnyE_done (by kernel_rfl) (fun wy2 hE => ?_) _
      have hbz2 := bthen hcz1 hE
      have c0 := cellb c0 hE
      have c1 := cellb c1 hE
      have c2 := cellb c2 hE
      have c3 := cellb c3 hE
      have iN := iN.carry hE
      clear hE
      have hbel := hbz2
      obtain ⟨W9, hW9⟩ : ∃ v, v = wy2 := ⟨_, rfl⟩
      rw [← hW9] at hbel ⊢
      clear hW9 iN
      clear c0 c1 c2 c3 TN TW T1 T2 T3 T4 TF
      by_cases hz : R = 0
      ·have HS2 := Lib.hid (HS1.out.trans hz)
       have hb0 : (R != 0) = false := by rw [bne_eq_false_iff_eq]; exact hz
       clear hz
       go_wp2
       go_roundw
       case rel => exact ⟨j + 1, by omega, by go_num, HS2.out, hbel⟩
       case measure => simp [intOf]; omega
      ·obtain rfl := HT1.out hz
       have hb0 : (E != 0) = true := by rw [bne_iff_ne]; exact hz
       clear hz
       go_wp2
       go_ret
       exact ⟨rfl, hbel⟩
   ·obtain rfl : k = N := by omega
    have hdk : ¬ (k : Int) < (k : Int) := by omega
    have h0 := HF.out
    rw [HN.out] at h0
    have hz : E = 0 := HE.out h0
    subst hz
    clear h0
    go_wp2
    go_ret
    exact ⟨rfl, hbel⟩
set_option maxRecDepth 100000 in
set_option maxHeartbeats 2000000 in
theorem CheckBothR_any (vm vo : Value) (ms : List Mo) (os : List I3) (w : World) (hl : ms.length ≤ 1000000) (hls : ∀ m ∈ ms, m.1.size ≤ 1000000) (hol : os.length ≤ 1000000) (hm : Rw 4 mV w vm ms) (ho : Rw 3 iV w vo os) :
 Calls Tryz.prog 31 #[vm, vo] w fun r w' => r = .returned (.int .i64 (bothE ms os)) ∧ Below w.heap.size w w' := by
 have T1 := Lib.hid (CheckModulesR_any vm ms w hl hls hm)
 have T2 := Lib.hid (fun W (h : Rw 3 iV W vo os) => CheckOutagesR_any vo os W hol h)
 unfold bothE
 obtain ⟨e0, he0⟩ : ∃ e, e = modsE ms := ⟨_, rfl⟩
 obtain ⟨e1, he1⟩ : ∃ e, e = outE os := ⟨_, rfl⟩
 rw [← he0] at T1 ⊢
 rw [← he1] at T2 ⊢
 have TF := Lib.hid (fun G W h => first2R' e0 e1 G W h)
 clear he0 he1
 go_enter Tryz.func31, Tryz.ntmps31
 go_wp2_with fail
 refine T1.out.mono ?_
 rintro e w2 ⟨rfl, hB⟩
 go_wp2_with fail
 refine (T2.out w2 (ho.carry hB)).mono ?_
 rintro e w3 ⟨rfl, hl2⟩
 replace hB := bthen hB hl2
 clear hl2
 go_wp2_with fail
 obtain ⟨W4, hW4⟩ : ∃ v, v = World.alloc w3 (Obj.cells #[.int .i64 e0, .int .i64 e1] 3) := ⟨_, rfl⟩
 have kW4 : Below w3.heap.size w3 W4 := by rw [hW4]; exact below_new _ _
 have iW4 : Blk W4 (w3.heap.size) 3 [.int .i64 e0, .int .i64 e1] := by rw [hW4]; exact Blk.new _ _ _
 have sW4 : W4.heap.size = w3.heap.size + 1 := by rw [hW4]; simp
 rw [← hW4]
 clear hW4
 refine (TF.out _ W4 iW4).mono ?_
 rintro e w5 ⟨rfl, rfl⟩
 replace hB := bthen hB kW4
 clear kW4 iW4 sW4
 go_wp2
 go_ret
 exact ⟨rfl, hB⟩
end
end Go.Proofs.YtjcmohfpenfepaaGreatDoor

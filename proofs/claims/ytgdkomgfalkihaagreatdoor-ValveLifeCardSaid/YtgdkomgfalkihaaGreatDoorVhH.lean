/- The reference of chapter 7: Substituted, CheckWeights, CheckWear, Worn. -/
import Derived.Test.YtgdkomgfalkihaaGreatDoorVhC
import Derived.Test.YtgdkomgfalkihaaGreatDoorVhF
namespace Go.Proofs.YtgdkomgfalkihaaGreatDoor
section
set_option linter.unusedSimpArgs false
set_option linter.unusedVariables false
open Go.RowKit Flp
theorem subE_val {l : List P2} {f s : Int} (hok : TrOk l) (hf : 0 ≤ f ∧ f ≤ 11) (hs : 0 ≤ s ∧ s ≤ 11) : subE l f s = if f = s then 9 else 0 := by
 unfold subE
 rw [trainE_of_ok hok, withinE_zero.2 hf, withinE_zero.2 hs]
 by_cases h : f = s
 ·rw [if_pos h, show (f == s) = true by simpa using h]; rfl
 ·rw [if_neg h, show (f == s) = false by simpa using h]; rfl
theorem sub_same {l : List P2} {f s : Int} (hok : TrOk l) (hf : 0 ≤ f ∧ f ≤ 11) (hs : 0 ≤ s ∧ s ≤ 11) (he : f = s) : substE l f s = 9 ∧ substR l f s = [] := by
 have h := subE_val hok hf hs
 rw [if_pos he] at h
 have e : substE l f s = 9 := by unfold substE; rw [if_neg (by omega), h]
 exact ⟨e, by unfold substR; rw [if_neg (by omega)]⟩
theorem sub_hit {l : List P2} {f s : Int} (hok : TrOk l) (hf : 0 ≤ f ∧ f ≤ 11) (hs : 0 ≤ s ∧ s ≤ 11) (hne : f ≠ s) {k : Nat} {x : P2} (hx : l[k]? = some x) (h : hasR x.2 s.toNat = true) : substE l f s = 24 ∧ substR l f s = [] := by
 have hr := (hok.mem (List.mem_of_getElem? hx)).2
 have h0 := subE_val hok hf hs
 rw [if_neg hne] at h0
 have hany : (l.any fun x => subB s x.2) = true := by
  rw [List.any_eq_true]
  exact ⟨x, List.mem_of_getElem? hx, by rw [subB_has hr]; exact h⟩
 have e : substE l f s = 24 := by unfold substE; rw [if_pos h0, if_pos hany]
 exact ⟨e, by unfold substR; rw [if_neg (by omega)]⟩
theorem sub_none {l : List P2} {f s : Int} (hok : TrOk l) (hf : 0 ≤ f ∧ f ≤ 11) (hs : 0 ≤ s ∧ s ≤ 11) (hne : f ≠ s) (h : ∀ x ∈ l, hasR x.2 s.toNat = false) : substE l f s = 0 ∧ substR l f s = chgL l (sbtR f.toNat s.toNat) := by
 have h0 := subE_val hok hf hs
 rw [if_neg hne] at h0
 have hany : (l.any fun x => subB s x.2) = false := by
  rw [List.any_eq_false]
  intro x hx
  rw [subB_has (hok.mem hx).2, h x hx]; decide
 have e : substE l f s = 0 := by unfold substE; rw [if_pos h0, hany]; rfl
 refine ⟨e, ?_⟩
 unfold substR
 rw [if_pos e]
 unfold chgL
 apply List.map_congr_left
 intro x hx
 rw [subV_eq (hok.mem hx).2 hf hs hne (h x hx)]
theorem sbtR_rng {f s : Nat} {p : Int} (hp : 0 ≤ p ∧ p ≤ 4095) (hf : f < 12) (hs : s < 12) : (0 ≤ wtoR p f ∧ wtoR p f ≤ 4095) ∧ (2 : Int) ^ s ≤ 2048 ∧ 0 < (2 : Int) ^ s := by
 obtain ⟨P, rfl⟩ := Int.eq_ofNat_of_zero_le hp.1
 obtain ⟨P', h1, h2, -⟩ := wtoR_nat P f
 have hpow : (2 : Nat) ^ s ≤ 2 ^ 11 := Nat.pow_le_pow_right (by decide) (by omega)
 have e2 : (2 : Int) ^ s = ((2 ^ s : Nat) : Int) := by simp
 refine ⟨?_, by rw [e2]; omega, pow_pos2 s⟩
 show 0 ≤ wtoR (P : Int) f ∧ wtoR (P : Int) f ≤ 4095
 rw [h1]; omega
set_option maxRecDepth 100000 in
set_option maxHeartbeats 8000000 in
theorem SubstitutedR_any (v : Value) (l : List P2) (f s : Int) (w : World) (hok : TrOk l) (hf : 0 ≤ f ∧ f ≤ 11) (hs : 0 ≤ s ∧ s ≤ 11) (hv : Prs w v l) :
 Calls Tryz.prog 56 #[v, .int .i64 f, .int .i64 s] w fun r w' => (∃ u, r = .returned (.tuple #[u, .int .i64 (substE l f s)]) ∧ Prs w' u (substR l f s)) ∧ Below w.heap.size w w' := by
 by_cases hne : f = s
 ·obtain ⟨g1, g2⟩ := sub_same hok hf hs hne
  rw [g1, g2]
  have z : (f == s) = true := by rw [beq_iff_eq]; exact hne
  clear g1 g2 hne hok hf hs hv
  go_enter Tryz.func56, Tryz.ntmps56
  go_wp2
  go_ret2
  exact ⟨⟨_, rfl, Rw.nil 2 pV _ none 0⟩, Below.refl _ _⟩
 ·have z : (f == s) = false := by rw [beq_eq_false_iff_ne]; exact hne
  obtain ⟨i0, hi, hz0, hz1, hz2⟩ := info_parts Tryz.infZbipoleref07Pulse
  have HV := Lib.hid hv
  have HOK := Lib.hid hok
  have HHit := Lib.hid (fun (k : Nat) (x : P2) (hx : l[k]? = some x) (h : hasR x.2 s.toNat = true) => sub_hit hok hf hs hne hx h)
  have HNon := Lib.hid (fun (h : ∀ x ∈ l, hasR x.2 s.toNat = false) => sub_none hok hf hs hne h)
  obtain ⟨E, hE⟩ : ∃ e, e = substE l f s := ⟨_, rfl⟩
  obtain ⟨R, hR⟩ : ∃ e, e = substR l f s := ⟨_, rfl⟩
  rw [← hE, ← hR] at HHit HNon ⊢
  obtain ⟨F, hF⟩ := Int.eq_ofNat_of_zero_le hf.1
  obtain ⟨S, hS⟩ := Int.eq_ofNat_of_zero_le hs.1
  have hF12 : F < 12 := by omega
  have hS12 : S < 12 := by omega
  have hSt : s.toNat = S := by omega
  have hFt : f.toNat = F := by omega
  rw [hSt] at HHit HNon
  rw [hFt] at HNon
  subst hF
  subst hS
  obtain ⟨va, vc, rfl, hvc⟩ := hv.slice
  obtain ⟨N, hN⟩ : ∃ N, N = l.length := ⟨_, rfl⟩
  have hl : N ≤ 256 := by have := hok.len; omega
  rw [← hN] at HV ⊢
  have HN := Lib.hid hN
  have TH := Lib.hid (fun (p : Int) (hp : 0 ≤ p ∧ p ≤ 4095) W => Has_any p S W (by omega) (by omega))
  have TF := Lib.hid (fun (p : Int) (hp : 0 ≤ p ∧ p ≤ 4095) W => Has_any p F W (by omega) (by omega))
  have TO := Lib.hid (fun (p : Int) (hp : 0 ≤ p ∧ p ≤ 4095) W => withoutR_any p F W hp (by omega))
  have TW := Lib.hid (fun W => withR_any S W (by omega))
  have HSB := Lib.hid (fun (p : Int) (hp : 0 ≤ p ∧ p ≤ 4095) => sbtR_rng (f := F) (s := S) hp hF12 hS12)
  clear hE hR hv hok hf hs hne hSt hFt hN hF12 hS12 hvc
  go_enter Tryz.func56, Tryz.ntmps56
  go_wp2_with fail
  go_loopw [8, 9] (fun u i wr => ∃ k : Nat, k ≤ N ∧ i = .int .i64 k ∧ (∀ x ∈ l.take k, hasR x.2 S = false) ∧ wr.ownsRow w.heap.size 119 2 u k ((chgL (l.take k) (sbtR F S)).flatMap pV) ∧ Below w.heap.size w wr) (fun _ i _ => N - (intOf i).toNat)
  case atStart => exact ⟨0, by omega, rfl, by simp, World.ownsRow_nil _ _ _ _, Below.refl _ _⟩
  case round =>
   obtain ⟨k, hk, rfl, hno, hown, hbel⟩ := hrel
   have HNO := Lib.hid hno
   clear hno
   by_cases hlt : k < N
   ·have hdk : (k : Int) < (N : Int) := by omega
    obtain ⟨x, hx⟩ : ∃ x, l[k]? = some x := ⟨_, List.getElem?_eq_getElem (by rw [← HN.out]; exact hlt)⟩
    obtain ⟨b, off, cp', he, hcs⟩ := (HV.out.carry hbel).head (by rw [← HN.out]; omega)
    simp only [Value.slice.injEq] at he
    obtain ⟨rfl, -, rfl⟩ := he
    obtain ⟨c0, c1⟩ := rw2 (hcs k x hx) (show pV x = [.int .i64 x.1, .int .i64 x.2] from rfl)
    have hxr := (HOK.out.mem (List.mem_of_getElem? hx)).2
    have hhit := HHit.out k x hx
    have hts : (chgL (l.take (k + 1)) (sbtR F S)).flatMap pV = (chgL (l.take k) (sbtR F S)).flatMap pV ++ [.int .i64 x.1, .int .i64 (sbtR F S x.2)] := by
     unfold chgL
     rw [List.take_add_one, hx, List.map_append, List.flatMap_append]; simp [pV]
    have hno2 : hasR x.2 S = false → ∀ y ∈ l.take (k + 1), hasR y.2 S = false := fun h y hy => by
     rw [List.take_add_one, hx] at hy
     rcases List.mem_append.1 hy with hy | hy
     ·exact HNO.out y hy
     ·simp at hy; subst hy; exact h
    have hsb := HSB.out x.2 hxr
    have hsd : sbtR F S x.2 = if hasR x.2 F = true then wtoR x.2 F + 2 ^ S else wtoR x.2 F := rfl
    have T1 := Lib.hid (TH.out x.2 hxr)
    have T2 := Lib.hid (TO.out x.2 hxr)
    have T3 := Lib.hid (TF.out x.2 hxr)
    obtain ⟨x0, x1⟩ := x
    dsimp only at c0 c1 hhit hts hno2 hsb hsd T1 T2 T3
    obtain ⟨B1, hB1⟩ : ∃ b, b = hasR x1 S := ⟨_, rfl⟩
    obtain ⟨B2, hB2⟩ : ∃ b, b = hasR x1 F := ⟨_, rfl⟩
    obtain ⟨Z, hZ⟩ : ∃ b, b = wtoR x1 F := ⟨_, rfl⟩
    obtain ⟨P, hP⟩ : ∃ b, b = (2 : Int) ^ S := ⟨_, rfl⟩
    obtain ⟨Q, hQ⟩ : ∃ b, b = sbtR F S x1 := ⟨_, rfl⟩
    have TW1 := Lib.hid TW.out
    rw [← hB1] at T1 hhit hno2
    rw [← hB2] at T3 hsd
    rw [← hZ] at T2 hsd hsb
    rw [← hP] at hsd hsb TW1
    rw [← hQ] at hsd hts
    have HTS := Lib.hid hts
    have HNO2 := Lib.hid hno2
    have HSD := Lib.hid hsd
    have HHit1 := Lib.hid hhit
    have q1 : IntKind.i64.wrap (Z + P) = Z + P := IntWalk.i64_in _ (by omega)
    obtain ⟨oa, oc, rfl⟩ := own_slice hown
    clear hcs hx hts hno2 hsd hhit hB1 hB2 hZ hP hQ hxr hsb
    go_wp2_with fail
    refine (T1.out wr).mono ?_
    rintro e w1 ⟨rfl, rfl⟩
    cases B1 with
    | true =>
      obtain ⟨g1, g2⟩ := HHit1.out rfl
      have G1 := Lib.hid g1
      have G2 := Lib.hid g2
      clear g1 g2 c0 c1 hown
      go_wp2
      go_ret2
      exact ⟨⟨_, by rw [G1.out]; rfl, by rw [G2.out]; exact Rw.nil 2 pV _ none 0⟩, hbel⟩
    | false =>
      have HN3 := Lib.hid (HNO2.out rfl)
      clear HHit1 HNO2
      go_wp2_with fail
      refine (T2.out wr).mono ?_
      rintro e w1 ⟨rfl, rfl⟩
      go_wp2_with fail
      refine (T3.out wr).mono ?_
      rintro e w1 ⟨rfl, rfl⟩
      have hsz := hbel.size
      cases B2 with
      | true =>
        have hq : Q = Z + P := HSD.out.trans (by rw [if_pos rfl])
        have HQ := Lib.hid hq
        clear HSD hq
        go_wp2_with fail
        refine (TW1.out wr).mono ?_
        rintro e w1 ⟨rfl, rfl⟩
        have kn := below_new wr (.cells #[.int .i64 x0, .int .i64 (Z + P)] 119)
        go_wp2_with (at_builtin; refine wpList_append_own _ rfl _ _ 22 rfl w.heap.size 119 i0 (.agg #[.int .i64 0, .int .i64 0]) 2 16 Tryz.undZbipoleref07Pulse hi hz0 hz1 hz2 rfl (by decide) (.slice oa k oc) k _ rfl (own_below hown kn) ⟨wr.heap.size, 0, none⟩ 1 1 [.int .i64 x0, .int .i64 (Z + P)] rfl rfl (fun j u hj => (Blk.new wr 119 [.int .i64 x0, .int .i64 (Z + P)]).news j u hj) (by simp [Value.oneCell']) (by unfold maxLen; omega) (by omega) (by have := kn.size; omega) ?_; intro v9 w1 hown9 hgrow9 _)
        have hbel9 := (bthen hbel kn).trans (below_grow (own_below hown kn) (by have := kn.size; omega) hgrow9)
        rw [← HQ.out, ← HTS.out] at hown9
        clear hown hgrow9 kn hbel c0 c1
        go_wp2
        go_roundw
        case rel => exact ⟨k + 1, by omega, by go_num, HN3.out, hown9, hbel9⟩
        case measure => simp [intOf]; omega
      | false =>
        have hq : Q = Z := HSD.out.trans (by rw [if_neg (by decide)])
        have HQ := Lib.hid hq
        clear HSD hq
        have kn := below_new wr (.cells #[.int .i64 x0, .int .i64 Z] 119)
        go_wp2_with (at_builtin; refine wpList_append_own _ rfl _ _ 22 rfl w.heap.size 119 i0 (.agg #[.int .i64 0, .int .i64 0]) 2 16 Tryz.undZbipoleref07Pulse hi hz0 hz1 hz2 rfl (by decide) (.slice oa k oc) k _ rfl (own_below hown kn) ⟨wr.heap.size, 0, none⟩ 1 1 [.int .i64 x0, .int .i64 Z] rfl rfl (fun j u hj => (Blk.new wr 119 [.int .i64 x0, .int .i64 Z]).news j u hj) (by simp [Value.oneCell']) (by unfold maxLen; omega) (by omega) (by have := kn.size; omega) ?_; intro v9 w1 hown9 hgrow9 _)
        have hbel9 := (bthen hbel kn).trans (below_grow (own_below hown kn) (by have := kn.size; omega) hgrow9)
        rw [← HQ.out, ← HTS.out] at hown9
        clear hown hgrow9 kn hbel c0 c1
        go_wp2
        go_roundw
        case rel => exact ⟨k + 1, by omega, by go_num, HN3.out, hown9, hbel9⟩
        case measure => simp [intOf]; omega
   ·have hkN : k = N := by omega
    have e6 : ¬ (k : Int) < (N : Int) := by omega
    have hno := HNO.out
    rw [List.take_of_length_le (by rw [← HN.out]; omega)] at hno hown
    obtain ⟨g1, g2⟩ := HNon.out hno
    rw [hkN] at hown
    have hout : Prs wr u8 R := by
     rw [g2]
     exact Rw.of_own pV_len hown (by unfold chgL; rw [List.length_map]; exact HN.out)
    have G1 := Lib.hid g1
    clear hno hown g1 g2 hkN
    go_wp2
    go_ret2
    exact ⟨⟨_, by rw [G1.out]; rfl, hout⟩, hbel⟩
set_option maxRecDepth 100000 in
set_option maxHeartbeats 2000000 in
theorem CheckWeightsR_any (ws : List Int) (w : World) (hws : ws.length = 12) :
 Calls Tryz.prog 50 #[.agg (ia ws)] w fun r w' => r = .returned (.int .i64 (eachE wgG ws)) ∧ Below w.heap.size w w' := by
 have HS := Lib.hid (fun (k : Nat) (x : Int) (hx : ws[k]? = some x) (h : firstE ((ws.mapIdx wgG).take k) = 0) => eachE_step hx h)
 have HT := Lib.hid (fun (k : Nat) (x : Int) (hx : ws[k]? = some x) (h : firstE ((ws.mapIdx wgG).take k) = 0) (hne : wgG k x ≠ 0) => eachE_stop hx h hne)
 have HE := Lib.hid (fun (h : firstE ((ws.mapIdx wgG).take ws.length) = 0) => eachE_end h)
 obtain ⟨E, hE⟩ : ∃ e, e = eachE wgG ws := ⟨_, rfl⟩
 rw [← hE] at HT HE ⊢
 have HWS := Lib.hid hws
 clear hE hws
 go_enter Tryz.func50, Tryz.ntmps50
 go_upto_region 1 with fail
 obtain ⟨W1, hW1⟩ : ∃ v, v = World.alloc w (Obj.cells (ia ws) 83) := ⟨_, rfl⟩
 have kW1 : Below w.heap.size w W1 := by rw [hW1]; exact below_new _ _
 have iW1 : BlkI W1 w.heap.size 83 ws := by rw [hW1]; exact BlkI.new _ _ _
 rw [← hW1]
 clear hW1
 go_wp2_with fail
 go_loop [3] (fun i => ∃ k : Nat, k ≤ 12 ∧ i = .int .i64 k ∧ firstE ((ws.mapIdx wgG).take k) = 0) (fun i => 12 - (intOf i).toNat)
 case atStart => exact ⟨0, by omega, rfl, rfl⟩
 case round =>
  obtain ⟨k, hk, rfl, hf⟩ := hrel
  have HF := Lib.hid hf
  clear hf
  by_cases hlt : k < 12
  ·have hdk : (k : Int) < 12 := by omega
   obtain ⟨x, hx⟩ : ∃ x, ws[k]? = some x := ⟨_, List.getElem?_eq_getElem (by rw [HWS.out]; exact hlt)⟩
   have c1 := BlkI.cell iW1 (j := k) (by rw [HWS.out]; exact hlt)
   rw [hx, Option.getD_some] at c1
   have hs := HS.out k x hx HF.out
   have ht := HT.out k x hx HF.out
   have T1 := Lib.hid (fun W => CheckRange_any x 0 1024 W)
   have hg : wgG k x = withinE x 0 1024 := rfl
   rw [hg] at hs ht
   obtain ⟨R, hR⟩ : ∃ r, r = withinE x 0 1024 := ⟨_, rfl⟩
   rw [← hR] at hs ht T1
   have HS1 := Lib.hid hs
   have HT1 := Lib.hid ht
   clear hs ht hg hR hx
   go_wp2_with fail
   refine (T1.out _).mono ?_
   rintro e w1 ⟨rfl, rfl⟩
   clear c1 T1
   by_cases hz : R = 0
   ·have HS2 := Lib.hid (HS1.out.trans hz)
    have hb0 : (R != 0) = false := by rw [bne_eq_false_iff_eq]; exact hz
    clear hz
    go_wp2
    go_round
    case rel => exact ⟨k + 1, by omega, by go_num, HS2.out⟩
    case measure => simp [intOf]; omega
   ·obtain rfl := HT1.out hz
    have hb0 : (E != 0) = true := by rw [bne_iff_ne]; exact hz
    clear hz
    go_wp2
    go_ret
    exact ⟨rfl, kW1⟩
  ·obtain rfl : k = 12 := by omega
   have hz : E = 0 := HE.out (by rw [HWS.out]; exact HF.out)
   subst hz
   go_wp2
   go_ret
   exact ⟨rfl, kW1⟩
set_option maxRecDepth 100000 in
set_option maxHeartbeats 2000000 in
theorem CheckWearR_any (xs : List Nat) (x : Nat) (w : World) (hxs : xs.length = 12) :
 Calls Tryz.prog 51 #[.agg (fa xs), .float .f32 x] w fun r w' => r = .returned (.int .i64 (worE xs x)) ∧ Below w.heap.size w w' := by
 have hL : (xs.map smpE ++ [smpE x]).length = 13 := by simp [hxs]
 have hat : ∀ k, k < 12 → (xs.map smpE ++ [smpE x])[k]?.getD 0 = smpE (xs[k]?.getD 0) := fun k hk => by
  rw [List.getElem?_append_left (by simp [hxs]; exact hk), List.getElem?_map, List.getElem?_eq_getElem (by omega)]; rfl
 have hlast : (xs.map smpE ++ [smpE x])[12]?.getD 0 = smpE x := by
  rw [List.getElem?_append_right (by simp [hxs])]; simp [hxs]
 have hE : worE xs x = firstE (xs.map smpE ++ [smpE x]) := rfl
 rw [hE]
 clear hE
 obtain ⟨L, hLL⟩ : ∃ l, l = xs.map smpE ++ [smpE x] := ⟨_, rfl⟩
 rw [← hLL] at hL hat hlast ⊢
 have HL := Lib.hid hL
 have HAT := Lib.hid hat
 have HLAST := Lib.hid hlast
 have HXS := Lib.hid hxs
 have HST := Lib.hid (fun k (hk : k < L.length) (h : firstE (L.take k) = 0) => firstE_take_succ L k hk h)
 have HOF := Lib.hid (fun k (h : firstE (L.take k) ≠ 0) => firstE_of_take L k h)
 have HALL := Lib.hid (show firstE (L.take 13) = firstE L by rw [List.take_of_length_le (by omega)])
 obtain ⟨E, hEE⟩ : ∃ e, e = firstE L := ⟨_, rfl⟩
 rw [← hEE] at HOF HALL ⊢
 clear hL hat hlast hxs hLL hEE
 go_enter Tryz.func51, Tryz.ntmps51
 go_upto_region 1 with fail
 obtain ⟨W1, hW1⟩ : ∃ v, v = World.alloc w (Obj.cells (fa xs) 85) := ⟨_, rfl⟩
 have kW1 : Below w.heap.size w W1 := by rw [hW1]; exact below_new _ _
 have iW1 : BlkF W1 w.heap.size 85 xs := by rw [hW1]; exact Blk.new _ _ _
 rw [← hW1]
 clear hW1
 go_wp2_with fail
 go_loopw [5] (fun i wr => ∃ k : Nat, k ≤ 12 ∧ i = .int .i64 k ∧ firstE (L.take k) = 0 ∧ Below W1.heap.size W1 wr) (fun i _ => 12 - (intOf i).toNat)
 case atStart => exact ⟨0, by omega, rfl, rfl, Below.refl _ _⟩
 case round =>
  obtain ⟨k, hk, rfl, hf, hb⟩ := hrel
  have HF := Lib.hid hf
  clear hf
  by_cases hlt : k < 12
  ·have hdk : (k : Int) < 12 := by omega
   have c1 := BlkF.cell (Blk.carry iW1 hb) (j := k) (by rw [HXS.out]; exact hlt)
   have hs := HST.out k (by rw [HL.out]; omega) HF.out
   rw [HAT.out k hlt] at hs
   have ho := HOF.out (k + 1)
   rw [hs] at ho
   obtain ⟨y, hy⟩ : ∃ y, y = xs[k]?.getD 0 := ⟨_, rfl⟩
   rw [← hy] at c1 hs ho
   have T1 := Lib.hid (fun W => CheckSampleR_w y W)
   obtain ⟨R, hR⟩ : ∃ r, r = smpE y := ⟨_, rfl⟩
   rw [← hR] at hs ho T1
   have HS1 := Lib.hid hs
   have HO1 := Lib.hid ho
   clear hs ho hy hR
   go_wp2_with fail
   refine (T1.out wr).mono ?_
   rintro e w1 ⟨rfl, hl⟩
   have hb1 := bthen hb hl
   clear c1 T1 hb hl
   by_cases hz : R = 0
   ·have HS2 := Lib.hid (HS1.out.trans hz)
    have hb0 : (R != 0) = false := by rw [bne_eq_false_iff_eq]; exact hz
    clear hz
    go_wp2
    go_roundw
    case rel => exact ⟨k + 1, by omega, by go_num, HS2.out, hb1⟩
    case measure => simp [intOf]; omega
   ·obtain rfl := HO1.out hz
    have hb0 : (E != 0) = true := by rw [bne_iff_ne]; exact hz
    clear hz
    go_wp2
    go_ret
    exact ⟨rfl, bthen kW1 hb1⟩
  ·obtain rfl : k = 12 := by omega
   have hs := HST.out 12 (by rw [HL.out]; omega) HF.out
   have hz : smpE x = E := by rw [← HALL.out, hs, HLAST.out]
   have T1 := Lib.hid (fun W => CheckSampleR_w x W)
   rw [hz] at T1
   clear hs hz
   go_wp2_with fail
   refine (T1.out wr).mono ?_
   rintro e w1 ⟨rfl, hl⟩
   go_wp2
   go_ret
   exact ⟨rfl, bthen kW1 (bthen hb hl)⟩
set_option maxRecDepth 100000 in
set_option maxHeartbeats 4000000 in
theorem WornR_any (xs : List Nat) (x : Nat) (w : World) (hxs : xs.length = 12) (hE : worE xs x = 0) :
 Calls Tryz.prog 55 #[.agg (fa xs), .float .f32 x] w fun r w' => (∃ u, r = .returned u ∧ Ints w' u (worR xs x)) ∧ Below w.heap.size w w' := by
 have hR : worR xs x = worK xs x 12 := by unfold worR; rw [if_pos hE]
 have hall : ∀ e ∈ xs.map smpE ++ [smpE x], e = 0 := firstE_zero hE
 have hx0 : smpE x = 0 := hall _ (by simp)
 have hk0 : ∀ k, k < 12 → smpE (xs[k]?.getD 0) = 0 := fun k hk => by
  rw [List.getElem?_eq_getElem (by omega), Option.getD_some]
  exact hall _ (List.mem_append.2 (.inl (List.mem_map.2 ⟨_, List.getElem_mem _, rfl⟩)))
 have HX0 := Lib.hid hx0
 have HK0 := Lib.hid hk0
 have HXS := Lib.hid hxs
 have HW := Lib.hid (worK_succ xs x)
 have TX := Lib.hid (fun W => Sixteenths_w x hx0 W)
 rw [hR]
 obtain ⟨i0, hi, hz0, hz1, hz2⟩ := info_parts Tryz.infZint
 obtain ⟨SX, hSX⟩ : ∃ s, s = sxN x := ⟨_, rfl⟩
 rw [← hSX] at TX
 have HSX := Lib.hid hSX
 clear hR hall hx0 hk0 hxs hE hSX
 go_enter Tryz.func55, Tryz.ntmps55
 go_upto_region 1 with fail
 obtain ⟨W1, hW1⟩ : ∃ v, v = World.alloc w (Obj.cells (fa xs) 85) := ⟨_, rfl⟩
 have kW1 : Below w.heap.size w W1 := by rw [hW1]; exact below_new _ _
 have iW1 : BlkF W1 w.heap.size 85 xs := by rw [hW1]; exact Blk.new _ _ _
 rw [← hW1]
 clear hW1
 go_wp2_with fail
 go_loopw [5, 6] (fun u i wr => ∃ k : Nat, k ≤ 12 ∧ i = .int .i64 k ∧ wr.ownsRow W1.heap.size 3 1 u (worK xs x k).length ((worK xs x k).map (Value.int .i64)) ∧ Below W1.heap.size W1 wr) (fun _ i _ => 12 - (intOf i).toNat)
 case atStart => exact ⟨0, by omega, rfl, World.ownsRow_nil _ _ _ _, Below.refl _ _⟩
 case round =>
  obtain ⟨k, hk, rfl, hown, hbel⟩ := hrel
  by_cases hlt : k < 12
  ·have hdk : (k : Int) < 12 := by omega
   have c1 := BlkF.cell (Blk.carry iW1 hbel) (j := k) (by rw [HXS.out]; exact hlt)
   have hbs := HW.out k
   rw [gt_sx HX0.out (HK0.out k hlt), ← HSX.out] at hbs
   have T1 := Lib.hid (fun W => Sixteenths_w (xs[k]?.getD 0) (HK0.out k hlt) W)
   obtain ⟨y, hy⟩ : ∃ y, y = xs[k]?.getD 0 := ⟨_, rfl⟩
   rw [← hy] at c1 hbs T1
   obtain ⟨SY, hSY⟩ : ∃ s, s = sxN y := ⟨_, rfl⟩
   rw [← hSY] at hbs T1
   have HBS := Lib.hid hbs
   have hLe := worK_len xs x k
   obtain ⟨NB, hNB⟩ : ∃ N, N = (worK xs x k).length := ⟨_, rfl⟩
   rw [← hNB] at hown hLe
   have HNB := Lib.hid hNB
   obtain ⟨oa, oc, rfl⟩ := own_slice hown
   clear hbs hNB hy hSY
   go_wp2_with fail
   refine (T1.out wr).mono ?_
   rintro e w1 ⟨rfl, rfl⟩
   go_wp2_with fail
   refine (TX.out wr).mono ?_
   rintro e w1 ⟨rfl, rfl⟩
   clear c1 T1
   by_cases hp : SX < SY
   ·have HBS2 := Lib.hid (HBS.out.trans (by rw [if_pos (decide_eq_true hp)]))
    clear HBS
    go_wp2_with (at_builtin; refine wpList_append_own _ rfl _ _ 70 rfl W1.heap.size 3 i0 (.int .i64 0) 1 8 Tryz.undZint hi hz0 hz1 hz2 rfl (by decide) (.slice oa NB oc) NB _ rfl (own_below hown (below_new _ _)) ⟨wr.heap.size, 0, none⟩ 1 1 [.int .i64 k] rfl rfl (cell_one_new _ _ _) (by simp [Value.oneCell']) (by unfold maxLen; omega) (by omega) (by have := hbel.size; simp; omega) ?_; intro v7 w8 hown' hgrow _)
    have hbelN : Below W1.heap.size W1 w8 := (bthen hbel (below_new wr (.cells #[.int .i64 k] 3))).trans (below_grow (own_below hown (below_new _ _)) (by have := hbel.size; simp; omega) hgrow)
    have hownN : w8.ownsRow W1.heap.size 3 1 v7 (worK xs x (k + 1)).length ((worK xs x (k + 1)).map (Value.int .i64)) := by
     rw [HBS2.out, List.length_append, List.map_append, ← HNB.out]
     exact hown'
    clear hown hown' hgrow hbel
    go_wp2
    go_roundw
    case rel => exact ⟨k + 1, by omega, by go_num, hownN, hbelN⟩
    case measure => simp [intOf]; omega
   ·have HBS2 := Lib.hid (HBS.out.trans (by rw [if_neg (by simpa using hp), List.append_nil]))
    clear HBS
    go_wp2
    go_roundw
    case rel => exact ⟨k + 1, by omega, by go_num, by rw [HBS2.out, ← HNB.out]; exact hown, hbel⟩
    case measure => simp [intOf]; omega
  ·obtain rfl : k = 12 := by omega
   have hout := Ints.of_own hown rfl
   clear hown
   go_wp2
   go_ret
   exact ⟨⟨_, rfl, hout⟩, bthen kW1 hbel⟩
end
section
set_option linter.unusedSimpArgs false
set_option linter.unusedVariables false
open Go.RowKit Flp
theorem SampleR_any (n : Int) (w : World) (h : 0 ≤ n ∧ n ≤ 16384) : Calls Tryz.prog 114 #[.int .i64 n] w fun r w' => r = .returned (.float .f32 (wq n)) ∧ w = w' := by
 have g := fun W => wq_run (P := Tryz.prog) W 84 n h
 obtain ⟨z, hz⟩ : ∃ z, z = floatOfInt .f32 n := ⟨_, rfl⟩
 rw [← hz] at g
 have k1 : floatOfInt .f32 n = z := hz.symm
 obtain ⟨Q, hQ⟩ : ∃ q, q = wq n := ⟨_, rfl⟩
 rw [← hQ] at g ⊢
 clear hz hQ h
 go_enter Tryz.func114, Tryz.ntmps114
 go_wp2
 go_ret
 exact ⟨rfl, rfl⟩
set_option maxRecDepth 100000 in
set_option maxHeartbeats 8000000 in
theorem WearR_any (v : Value) (l : List P2) (ws : List Int) (w : World) (hl : l.length ≤ 1000000) (hws : ws.length = 12) (hE1 : wear1E l ws = 0) (hv : Prs w v l) :
 Calls Tryz.prog 54 #[v, .agg (ia ws)] w fun r w' => r = .returned (.tuple #[.agg (fa (wearR l ws)), .int .i64 (wearE l ws)]) ∧ Below w.heap.size w w' := by
 obtain ⟨hok, hwr⟩ := wear1E_ok hE1
 have h1 : ∀ k, k < 12 → 16384 < usedV l ws k → wearE l ws = 4 ∧ wearR l ws = zerF := fun k hk hu => by
  have hb : wearB l ws = true := by
   unfold wearB
   rw [List.any_eq_true]
   exact ⟨k, List.mem_range.2 hk, decide_eq_true hu⟩
  have e : wearE l ws = 4 := by unfold wearE; rw [if_pos hE1, if_pos hb]
  exact ⟨e, by unfold wearR; rw [if_neg (by rw [e]; decide)]⟩
 have h2 : (∀ k, k < 12 → usedV l ws k ≤ 16384) → wearE l ws = 0 ∧ wearR l ws = wearK l ws 12 := fun hu => by
  have hb : wearB l ws = false := by
   unfold wearB
   rw [List.any_eq_false]
   intro k hk
   rw [decide_eq_true_eq]
   have := hu k (List.mem_range.1 hk)
   omega
  have e : wearE l ws = 0 := by unfold wearE; rw [if_pos hE1, hb]; rfl
  exact ⟨e, by unfold wearR; rw [if_pos e]⟩
 have TS := Lib.hid (fun W (h : Prs W v l) => SwitchingsR_any v l W hl hok h)
 have HUR := Lib.hid (usedV_rng hok.len hwr)
 obtain ⟨E, hE⟩ : ∃ e, e = wearE l ws := ⟨_, rfl⟩
 obtain ⟨R, hR⟩ : ∃ e, e = wearR l ws := ⟨_, rfl⟩
 rw [← hE, ← hR] at h1 h2 ⊢
 have H1 := Lib.hid h1
 have H2 := Lib.hid h2
 have HWS := Lib.hid hws
 have HSL := Lib.hid (swL_len l)
 have hinf := Tryz.infoF12
 clear h1 h2 hE hR hws hE1 hok hwr
 go_enter Tryz.func54, Tryz.ntmps54
 go_upto_region 1 with fail
 obtain ⟨W1, hW1⟩ : ∃ v, v = World.alloc w (Obj.cells (ia ws) 83) := ⟨_, rfl⟩
 have kW1 : Below w.heap.size w W1 := by rw [hW1]; exact below_new _ _
 have iW1 : BlkI W1 w.heap.size 83 ws := by rw [hW1]; exact BlkI.new _ _ _
 have sW1 : W1.heap.size = w.heap.size + 1 := by rw [hW1]; simp
 rw [← hW1]
 clear hW1
 obtain ⟨W2, hW2⟩ : ∃ v, v = World.alloc W1 (Obj.cells (fa zerF) 85) := ⟨_, rfl⟩
 have hW2' : W2 = W1.alloc (Obj.cells #[Value.float FloatKind.f32 0, Value.float FloatKind.f32 0, Value.float FloatKind.f32 0, Value.float FloatKind.f32 0, Value.float FloatKind.f32 0, Value.float FloatKind.f32 0, Value.float FloatKind.f32 0, Value.float FloatKind.f32 0, Value.float FloatKind.f32 0, Value.float FloatKind.f32 0, Value.float FloatKind.f32 0, Value.float FloatKind.f32 0] 85) := hW2
 have kW2 : Below W1.heap.size W1 W2 := by rw [hW2]; exact below_new _ _
 have i2 : BlkF W2 (w.heap.size + 1) 85 zerF := by rw [hW2, ← sW1]; exact Blk.new _ _ _
 have i1 : BlkI W2 w.heap.size 83 ws := Blk.carry iW1 kW2
 rw [← hW2']
 have hB := bthen kW1 kW2
 have hv := hv.carry hB
 clear hW2 hW2' kW1 kW2 iW1 sW1
 go_wp2_with fail
 refine (TS.out W2 hv).mono ?_
 rintro e w3 ⟨rfl, hb3⟩
 replace i1 := Blk.carry i1 hb3
 replace i2 := Blk.carry i2 hb3
 replace hB := bthen hB hb3
 clear hb3 TS hv
 go_upto_region 2 with (refine wpList_storeA rfl _ _ _ rfl w3.heap.size (swL l) (List.replicate 12 0) rfl rfl (BlkI.new w3 83 (List.replicate 12 0)) (by rw [HSL.out]; rfl) (by rw [HSL.out]; exact Tryz.infoA12) ?_)
 obtain ⟨W4, hW4⟩ : ∃ v, v = World.setRow (World.alloc w3 (Obj.cells #[.int .i64 0, .int .i64 0, .int .i64 0, .int .i64 0, .int .i64 0, .int .i64 0, .int .i64 0, .int .i64 0, .int .i64 0, .int .i64 0, .int .i64 0, .int .i64 0] 83)) w3.heap.size (ia (swL l)) := ⟨_, rfl⟩
 have kW4 : Below w3.heap.size w3 W4 := by rw [hW4]; exact zrow_below _ _ _ _
 have iW4 : BlkI W4 w3.heap.size 83 (swL l) := by rw [hW4]; exact zrow_blk w3 _ (List.replicate 12 0) _
 rw [← hW4]
 clear hW4
 have hG6 : w.heap.size + 1 < w3.heap.size := Blk.lt i2
 replace i1 := Blk.carry i1 kW4
 replace i2 := Blk.carry i2 kW4
 replace hB := bthen hB kW4
 obtain ⟨G6, hG6e⟩ : ∃ g, g = w3.heap.size := ⟨_, rfl⟩
 rw [← hG6e] at iW4 hG6 ⊢
 have i6 := iW4
 clear iW4 kW4 hG6e
 go_upto_region 3 with fail
 obtain ⟨W5, hW5⟩ : ∃ v, v = World.alloc W4 (Obj.cells (fa zerF) 85) := ⟨_, rfl⟩
 have hW5' : W5 = W4.alloc (Obj.cells #[Value.float FloatKind.f32 0, Value.float FloatKind.f32 0, Value.float FloatKind.f32 0, Value.float FloatKind.f32 0, Value.float FloatKind.f32 0, Value.float FloatKind.f32 0, Value.float FloatKind.f32 0, Value.float FloatKind.f32 0, Value.float FloatKind.f32 0, Value.float FloatKind.f32 0, Value.float FloatKind.f32 0, Value.float FloatKind.f32 0] 85) := hW5
 have kW5 : Below W4.heap.size W4 W5 := by rw [hW5]; exact below_new _ _
 have i7 : BlkF W5 W4.heap.size 85 zerF := by rw [hW5]; exact Blk.new _ _ _
 rw [← hW5']
 have hG7 : G6 < W4.heap.size := Blk.lt i6
 replace i1 := Blk.carry i1 kW5
 replace i2 := Blk.carry i2 kW5
 replace i6 := Blk.carry i6 kW5
 replace hB := bthen hB kW5
 obtain ⟨G7, hG7e⟩ : ∃ g, g = W4.heap.size := ⟨_, rfl⟩
 rw [← hG7e] at i7 hG7 ⊢
 rw [wearK_zero l ws] at i7
 clear hW5 hW5' kW5 hG7e
 go_wp2_with fail
 go_loopw [8] (fun i wx => ∃ k : Nat, k ≤ 12 ∧ i = .int .i64 k ∧ (∀ j, j < k → usedV l ws j ≤ 16384) ∧ BlkF wx G7 85 (wearK l ws k) ∧ BlkF wx (w.heap.size + 1) 85 zerF ∧ BlkI wx w.heap.size 83 ws ∧ BlkI wx G6 83 (swL l) ∧ Below w.heap.size w wx) (fun i _ => 12 - (intOf i).toNat)
 case atStart => exact ⟨0, by omega, rfl, (fun j hj => by omega), i7, i2, i1, i6, hB⟩
 case round =>
  clear i7 i2 i1 i6 hB
  obtain ⟨k, hk, rfl, hall, i7, i2, i1, i6, hB⟩ := hrel
  have HALL := Lib.hid hall
  clear hall
  by_cases hlt : k < 12
  ·have hdk : (k : Int) < 12 := by omega
   have hsk : (swL l)[k]?.getD 0 = swS l k (l.length - 1) := by
    unfold swL
    rw [upto_get _ _ _ hlt]; rfl
   have c6 := BlkI.cell i6 (j := k) (by rw [HSL.out]; exact hlt)
   rw [hsk] at c6
   have c1 := BlkI.cell i1 (j := k) (by rw [HWS.out]; exact hlt)
   have hur := HUR.out k
   have hu : usedV l ws k = swS l k (l.length - 1) * (ws[k]?.getD 0) := rfl
   obtain ⟨S, hS⟩ : ∃ S, S = swS l k (l.length - 1) := ⟨_, rfl⟩
   obtain ⟨y, hy⟩ : ∃ y, y = ws[k]?.getD 0 := ⟨_, rfl⟩
   rw [← hS] at c6 hu
   rw [← hy] at c1 hu
   have hset := wearK_set l ws k
   obtain ⟨U, hU⟩ : ∃ U, U = usedV l ws k := ⟨_, rfl⟩
   rw [← hU] at hur hu hset
   have q1 : IntKind.i64.wrap (S * y) = U := by rw [← hu]; exact IntWalk.i64_in _ (by omega)
   have HU := Lib.hid hU
   have HSET := Lib.hid hset
   clear hsk hS hy hU hu hset
   by_cases hbig : 16384 < U
   ·obtain ⟨rfl, rfl⟩ := H1.out k hlt (by rw [← HU.out]; exact hbig)
    clear H1 H2 HALL
    go_upto_region 6 with fail
    refine wp_region_held_drew (S := (fun w' => w'.cell? ⟨G6, k, none⟩ = some (.int .i64 S) ∧ w'.cell? ⟨w.heap.size, k, none⟩ = some (.int .i64 y))) (by kernel_rfl) ?_ (fun hHeld0 => ?_)
    ·(try dsimp only); go_keep
    refine wpAnyH_take (i := 0) (oi := ⟨some 15, .move (.tmp 8), 3, "ref.go:374", #[], none⟩) (v := ?_) rfl (by kernel_rfl) (by kernel_rfl) (by kernel_rfl) (fun _ _ _ h => h) (Or.inl ⟨by rfl, ?_⟩) (by assumption) ?_
    rotate_left
    ·(intro w hSw; (try dsimp only at hSw); go_simp); (try with_reducible rfl)
    try simp only [Act.put, zS]
    refine wpAnyH_take (i := 1) (oi := ⟨some 16, .indexAddr 83 (.tmp 6) (.tmp 15), 0, "ref.go:374", #[⟨0, .data⟩], none⟩) (v := ?_) rfl (by kernel_rfl) (by kernel_rfl) (by kernel_rfl) (fun _ _ _ h => h) (Or.inl ⟨by rfl, ?_⟩) (by assumption) ?_
    rotate_left
    ·(intro w hSw; (try dsimp only at hSw); go_simp); (try with_reducible rfl)
    try simp only [Act.put, zS]
    refine wpAnyH_take (i := 2) (oi := ⟨some 17, .load 3 (.tmp 16), 3, "ref.go:374", #[⟨1, .data⟩], none⟩) (v := ?_) rfl (by kernel_rfl) (by kernel_rfl) (by kernel_rfl) (fun _ _ _ h => h) (Or.inl ⟨by rfl, ?_⟩) (by assumption) ?_
    rotate_left
    ·(intro w hSw; (try dsimp only at hSw); go_simp); (try with_reducible rfl)
    try simp only [Act.put, zS]
    refine wpAnyH_take (i := 3) (oi := ⟨some 18, .move (.tmp 8), 3, "ref.go:374", #[], none⟩) (v := ?_) rfl (by kernel_rfl) (by kernel_rfl) (by kernel_rfl) (fun _ _ _ h => h) (Or.inl ⟨by rfl, ?_⟩) (by assumption) ?_
    rotate_left
    ·(intro w hSw; (try dsimp only at hSw); go_simp); (try with_reducible rfl)
    try simp only [Act.put, zS]
    refine wpAnyH_take (i := 4) (oi := ⟨some 19, .indexAddr 83 (.tmp 3) (.tmp 18), 0, "ref.go:374", #[⟨3, .data⟩], none⟩) (v := ?_) rfl (by kernel_rfl) (by kernel_rfl) (by kernel_rfl) (fun _ _ _ h => h) (Or.inl ⟨by rfl, ?_⟩) (by assumption) ?_
    rotate_left
    ·(intro w hSw; (try dsimp only at hSw); go_simp); (try with_reducible rfl)
    try simp only [Act.put, zS]
    refine wpAnyH_take (i := 5) (oi := ⟨some 20, .load 3 (.tmp 19), 3, "ref.go:374", #[⟨4, .data⟩], none⟩) (v := ?_) rfl (by kernel_rfl) (by kernel_rfl) (by kernel_rfl) (fun _ _ _ h => h) (Or.inl ⟨by rfl, ?_⟩) (by assumption) ?_
    rotate_left
    ·(intro w hSw; (try dsimp only at hSw); go_simp); (try with_reducible rfl)
    try simp only [Act.put, zS]
    refine wpAnyH_take (i := 6) (oi := ⟨some 21, .binOp .mul 3 (.tmp 17) (.tmp 20) 3, 3, "ref.go:374", #[⟨2, .data⟩, ⟨5, .data⟩], none⟩) (v := ?_) rfl (by kernel_rfl) (by kernel_rfl) (by kernel_rfl) (fun _ _ _ h => h) (Or.inl ⟨by rfl, ?_⟩) (by assumption) ?_
    rotate_left
    ·(intro w hSw; (try dsimp only at hSw); go_simp); (try with_reducible rfl)
    try simp only [Act.put, zS]
    refine wpAnyH_take (i := 7) (oi := ⟨some 22, .binOp .gtr 3 (.tmp 21) (.const (.int .i64 16384)) 3, 4, "ref.go:374", #[⟨6, .data⟩], none⟩) (v := ?_) rfl (by kernel_rfl) (by kernel_rfl) (by kernel_rfl) (fun _ _ _ h => h) (Or.inl ⟨by rfl, ?_⟩) (by assumption) ?_
    rotate_left
    ·(intro w hSw; (try dsimp only at hSw); go_simp); (try with_reducible rfl)
    try simp only [Act.put, zS]
    refine wpAnyH_done (by kernel_rfl) ?_ _
    clear hHeld0
    obtain ⟨W9, hW9⟩ : ∃ v, v = wr.drew := ⟨_, rfl⟩
    have kd : Below wr.heap.size wr W9 := by rw [hW9]; exact (Below.refl _ _).drew
    rw [← hW9]
    replace i2 := Blk.carry i2 kd
    replace hB := bthen hB kd
    have hr2 := BlkF.setRowA i2 zerF
    have hld := loadF12 rfl hr2
    clear hW9 kd c6 c1 i7 i1 i6
    go_wp2_with (refine wpList_storeF rfl _ _ _ rfl (w.heap.size + 1) zerF zerF rfl rfl i2 rfl hinf ?_)
    exact bodyPost_ret (v := .tuple #[.agg (fa zerF), .int .i64 4]) (results_cell_tmp (p := 4) (q := 5) rfl _ _ (w.heap.size + 1) _ rfl _ rfl hld) rfl ⟨rfl, below_rowA hB (by omega) _⟩
   ·have HNB := Lib.hid (show ∀ j, j < k + 1 → usedV l ws j ≤ 16384 from fun j hj => by
     by_cases e : j = k
     ·subst e; rw [← HU.out]; omega
     ·exact HALL.out j (by omega))
    have TSm := Lib.hid (fun W => SampleR_any U W (by omega))
    obtain ⟨Q, hQ⟩ : ∃ q, q = wq U := ⟨_, rfl⟩
    rw [← hQ] at TSm HSET
    have hst := fun a m W => run_store Tryz.prog W a (.float .f32 Q) m rfl
    clear hQ HALL
    go_upto_region 6 with fail
    refine wp_region_held_drew (S := (fun w' => w'.cell? ⟨G6, k, none⟩ = some (.int .i64 S) ∧ w'.cell? ⟨w.heap.size, k, none⟩ = some (.int .i64 y))) (by kernel_rfl) ?_ (fun hHeld0 => ?_)
    ·(try dsimp only); go_keep
    refine wpAnyH_take (i := 0) (oi := ⟨some 15, .move (.tmp 8), 3, "ref.go:374", #[], none⟩) (v := ?_) rfl (by kernel_rfl) (by kernel_rfl) (by kernel_rfl) (fun _ _ _ h => h) (Or.inl ⟨by rfl, ?_⟩) (by assumption) ?_
    rotate_left
    ·(intro w hSw; (try dsimp only at hSw); go_simp); (try with_reducible rfl)
    try simp only [Act.put, zS]
    refine wpAnyH_take (i := 1) (oi := ⟨some 16, .indexAddr 83 (.tmp 6) (.tmp 15), 0, "ref.go:374", #[⟨0, .data⟩], none⟩) (v := ?_) rfl (by kernel_rfl) (by kernel_rfl) (by kernel_rfl) (fun _ _ _ h => h) (Or.inl ⟨by rfl, ?_⟩) (by assumption) ?_
    rotate_left
    ·(intro w hSw; (try dsimp only at hSw); go_simp); (try with_reducible rfl)
    try simp only [Act.put, zS]
    refine wpAnyH_take (i := 2) (oi := ⟨some 17, .load 3 (.tmp 16), 3, "ref.go:374", #[⟨1, .data⟩], none⟩) (v := ?_) rfl (by kernel_rfl) (by kernel_rfl) (by kernel_rfl) (fun _ _ _ h => h) (Or.inl ⟨by rfl, ?_⟩) (by assumption) ?_
    rotate_left
    ·(intro w hSw; (try dsimp only at hSw); go_simp); (try with_reducible rfl)
    try simp only [Act.put, zS]
    refine wpAnyH_take (i := 3) (oi := ⟨some 18, .move (.tmp 8), 3, "ref.go:374", #[], none⟩) (v := ?_) rfl (by kernel_rfl) (by kernel_rfl) (by kernel_rfl) (fun _ _ _ h => h) (Or.inl ⟨by rfl, ?_⟩) (by assumption) ?_
    rotate_left
    ·(intro w hSw; (try dsimp only at hSw); go_simp); (try with_reducible rfl)
    try simp only [Act.put, zS]
    refine wpAnyH_take (i := 4) (oi := ⟨some 19, .indexAddr 83 (.tmp 3) (.tmp 18), 0, "ref.go:374", #[⟨3, .data⟩], none⟩) (v := ?_) rfl (by kernel_rfl) (by kernel_rfl) (by kernel_rfl) (fun _ _ _ h => h) (Or.inl ⟨by rfl, ?_⟩) (by assumption) ?_
    rotate_left
    ·(intro w hSw; (try dsimp only at hSw); go_simp); (try with_reducible rfl)
    try simp only [Act.put, zS]
    refine wpAnyH_take (i := 5) (oi := ⟨some 20, .load 3 (.tmp 19), 3, "ref.go:374", #[⟨4, .data⟩], none⟩) (v := ?_) rfl (by kernel_rfl) (by kernel_rfl) (by kernel_rfl) (fun _ _ _ h => h) (Or.inl ⟨by rfl, ?_⟩) (by assumption) ?_
    rotate_left
    ·(intro w hSw; (try dsimp only at hSw); go_simp); (try with_reducible rfl)
    try simp only [Act.put, zS]
    refine wpAnyH_take (i := 6) (oi := ⟨some 21, .binOp .mul 3 (.tmp 17) (.tmp 20) 3, 3, "ref.go:374", #[⟨2, .data⟩, ⟨5, .data⟩], none⟩) (v := ?_) rfl (by kernel_rfl) (by kernel_rfl) (by kernel_rfl) (fun _ _ _ h => h) (Or.inl ⟨by rfl, ?_⟩) (by assumption) ?_
    rotate_left
    ·(intro w hSw; (try dsimp only at hSw); go_simp); (try with_reducible rfl)
    try simp only [Act.put, zS]
    refine wpAnyH_take (i := 7) (oi := ⟨some 22, .binOp .gtr 3 (.tmp 21) (.const (.int .i64 16384)) 3, 4, "ref.go:374", #[⟨6, .data⟩], none⟩) (v := ?_) rfl (by kernel_rfl) (by kernel_rfl) (by kernel_rfl) (fun _ _ _ h => h) (Or.inl ⟨by rfl, ?_⟩) (by assumption) ?_
    rotate_left
    ·(intro w hSw; (try dsimp only at hSw); go_simp); (try with_reducible rfl)
    try simp only [Act.put, zS]
    refine wpAnyH_done (by kernel_rfl) ?_ _
    clear hHeld0
    obtain ⟨W9, hW9⟩ : ∃ v, v = wr.drew := ⟨_, rfl⟩
    have kd : Below wr.heap.size wr W9 := by rw [hW9]; exact (Below.refl _ _).drew
    rw [← hW9]
    replace i2 := Blk.carry i2 kd
    replace i1 := Blk.carry i1 kd
    replace i6 := Blk.carry i6 kd
    replace i7 := Blk.carry i7 kd
    replace c6 := cellb c6 kd
    replace c1 := cellb c1 kd
    replace hB := bthen hB kd
    clear hW9 kd
    go_upto_region 8 with fail
    refine wp_region_E 10 (by kernel_rfl) ?_
    obtain ⟨wz, hwz⟩ : ∃ v, v = W9.drew := ⟨_, rfl⟩
    rw [← hwz]
    have hlz : Below W9.heap.size W9 wz := by rw [hwz]; exact (Below.refl _ _).drew
    have hbz := bthen hB hlz
    have c6 := cellb c6 hlz
    have c1 := cellb c1 hlz
    have i7 := i7.carry hlz
    have i2 := i2.carry hlz
    have i1 := i1.carry hlz
    have i6 := i6.carry hlz
    clear hwz hlz
    refine zT 0 ⟨some 24, .move (.tmp 8), 3, "ref.go:377", #[], none⟩ (v := ?_) rfl (Or.inl ⟨by rfl, ?_⟩) ?_
    rotate_left
    ·(intro w hE; have c6 := cellb c6 hE; have c1 := cellb c1 hE; (try dsimp only); go_simp); (try with_reducible rfl)
    try simp only [Act.put, zS]
    refine zT 1 ⟨some 25, .move (.tmp 8), 3, "ref.go:377", #[], none⟩ (v := ?_) rfl (Or.inl ⟨by rfl, ?_⟩) ?_
    rotate_left
    ·(intro w hE; have c6 := cellb c6 hE; have c1 := cellb c1 hE; (try dsimp only); go_simp); (try with_reducible rfl)
    try simp only [Act.put, zS]
    refine zT 2 ⟨some 26, .indexAddr 83 (.tmp 6) (.tmp 25), 0, "ref.go:377", #[⟨1, .data⟩], none⟩ (v := ?_) rfl (Or.inl ⟨by rfl, ?_⟩) ?_
    rotate_left
    ·(intro w hE; have c6 := cellb c6 hE; have c1 := cellb c1 hE; (try dsimp only); go_simp); (try with_reducible rfl)
    try simp only [Act.put, zS]
    refine zT 3 ⟨some 27, .load 3 (.tmp 26), 3, "ref.go:377", #[⟨2, .data⟩], none⟩ (v := ?_) rfl (Or.inl ⟨by rfl, ?_⟩) ?_
    rotate_left
    ·(intro w hE; have c6 := cellb c6 hE; have c1 := cellb c1 hE; (try dsimp only); go_simp); (try with_reducible rfl)
    try simp only [Act.put, zS]
    refine zT 4 ⟨some 28, .move (.tmp 8), 3, "ref.go:377", #[], none⟩ (v := ?_) rfl (Or.inl ⟨by rfl, ?_⟩) ?_
    rotate_left
    ·(intro w hE; have c6 := cellb c6 hE; have c1 := cellb c1 hE; (try dsimp only); go_simp); (try with_reducible rfl)
    try simp only [Act.put, zS]
    refine zT 5 ⟨some 29, .indexAddr 83 (.tmp 3) (.tmp 28), 0, "ref.go:377", #[⟨4, .data⟩], none⟩ (v := ?_) rfl (Or.inl ⟨by rfl, ?_⟩) ?_
    rotate_left
    ·(intro w hE; have c6 := cellb c6 hE; have c1 := cellb c1 hE; (try dsimp only); go_simp); (try with_reducible rfl)
    try simp only [Act.put, zS]
    refine zT 6 ⟨some 30, .load 3 (.tmp 29), 3, "ref.go:377", #[⟨5, .data⟩], none⟩ (v := ?_) rfl (Or.inl ⟨by rfl, ?_⟩) ?_
    rotate_left
    ·(intro w hE; have c6 := cellb c6 hE; have c1 := cellb c1 hE; (try dsimp only); go_simp); (try with_reducible rfl)
    try simp only [Act.put, zS]
    refine zT 7 ⟨some 31, .binOp .mul 3 (.tmp 27) (.tmp 30) 3, 3, "ref.go:377", #[⟨3, .data⟩, ⟨6, .data⟩], none⟩ (v := ?_) rfl (Or.inl ⟨by rfl, ?_⟩) ?_
    rotate_left
    ·(intro w hE; have c6 := cellb c6 hE; have c1 := cellb c1 hE; (try dsimp only); go_simp); (try with_reducible rfl)
    try simp only [Act.put, zS]
    refine zC 8 ⟨some 32, .call ⟨.value (.func 114), #[.tmp 31], #[3]⟩, 84, "ref.go:377", #[⟨7, .data⟩], none⟩ (fun w hE => ofPure (TSm.out w)) rfl (by rfl) (fun w hE => by (try dsimp only); go_simp) ?_
    try simp only [Act.put, zS]
    refine zT 9 ⟨some 33, .indexAddr 85 (.tmp 7) (.tmp 24), 0, "ref.go:377", #[⟨0, .data⟩, ⟨0, .phase⟩, ⟨1, .phase⟩, ⟨2, .phase⟩, ⟨3, .phase⟩, ⟨4, .phase⟩, ⟨5, .phase⟩, ⟨6, .phase⟩, ⟨7, .phase⟩, ⟨8, .phase⟩], none⟩ (v := ?_) rfl (Or.inl ⟨by rfl, ?_⟩) ?_
    rotate_left
    ·(intro w hE; have c6 := cellb c6 hE; have c1 := cellb c1 hE; (try dsimp only); go_simp); (try with_reducible rfl)
    try simp only [Act.put, zS]
    refine wpAnyE_one (i := 10) (o := ⟨none, .store 84 (.tmp 33) (.tmp 32), 0, "ref.go:377", #[⟨9, .data⟩, ⟨8, .data⟩, ⟨8, .chain⟩, ⟨0, .phase⟩, ⟨1, .phase⟩, ⟨2, .phase⟩, ⟨3, .phase⟩, ⟨4, .phase⟩, ⟨5, .phase⟩, ⟨6, .phase⟩, ⟨7, .phase⟩, ⟨8, .phase⟩], none⟩) (by kernel_rfl) rfl (fun wy1 hE K hK => ?_)
    have c6 := cellb c6 hE
    have c1 := cellb c1 hE
    have i7 := i7.carry hE
    have i2 := i2.carry hE
    have i1 := i1.carry hE
    have i6 := i6.carry hE
    have hbz1 := bthen hbz hE
    clear hE
    have f7 := Blk.frozen i7 k
    have c7 := BlkF.cell i7 (j := k) (by rw [wearK_len]; exact hlt)
    go_simp
    obtain ⟨wx1, hwz⟩ : ∃ v, v = (wy1.setCell ⟨G7, k, none⟩ (.float .f32 Q)) := ⟨_, rfl⟩
    rw [← hwz]
    have hcz1 : Below w.heap.size w wx1 := by rw [hwz]; exact (hbz1).setCell (p := ⟨G7, k, none⟩) (show w.heap.size ≤ G7 by omega) (.float .f32 Q)
    have j7 := BlkF.set i7 k Q
    have j2 := Blk.other i2 (show w.heap.size + 1 ≠ G7 by omega) (j := k) (.float .f32 Q)
    have j1 := Blk.other i1 (show w.heap.size ≠ G7 by omega) (j := k) (.float .f32 Q)
    have j6 := Blk.other i6 (show G6 ≠ G7 by omega) (j := k) (.float .f32 Q)
    rw [HSET.out] at j7
    rw [← hwz] at j7 j2 j1 j6
    replace i7 : BlkF _ G7 85 (wearK l ws (k + 1)) := j7
    replace i2 : BlkF _ (w.heap.size + 1) 85 zerF := j2
    replace i1 : BlkI _ w.heap.size 83 ws := j1
    replace i6 : BlkI _ G6 83 (swL l) := j6
    clear j7 j2 j1 j6
    clear hwz
    refine hK _ _ (fun h => absurd rfl h) ?_
    clear hK K
    try simp only [Act.put, zS]
    refine wpAnyE_done (by kernel_rfl) (fun wy2 hE => ?_) _
    have hbz2 := bthen hcz1 hE
    have i7 := i7.carry hE
    have i2 := i2.carry hE
    have i1 := i1.carry hE
    have i6 := i6.carry hE
    clear hE
    have hB := hbz2
    obtain ⟨W10, hW10⟩ : ∃ v, v = wy2 := ⟨_, rfl⟩
    rw [← hW10] at hB i7 i2 i1 i6 ⊢
    clear hW10
    rename_i W10
    have I7 := Lib.hid i7
    have I2 := Lib.hid i2
    have I1 := Lib.hid i1
    have I6 := Lib.hid i6
    have HB := Lib.hid hB
    clear i7 i2 i1 i6 hB
    go_wp2
    go_roundw
    case rel => exact ⟨k + 1, by omega, by go_num, HNB.out, I7.out, I2.out, I1.out, I6.out, HB.out⟩
    case measure => simp [intOf]; omega
  ·obtain rfl : k = 12 := by omega
   obtain ⟨rfl, rfl⟩ := H2.out HALL.out
   have hld := loadF12 (wearK_len l ws 12) i7
   have hr2 := BlkF.setRowA i2 (wearK l ws 12)
   have hld2 := loadF12 (wearK_len l ws 12) hr2
   have hinf2 : (Tryz.prog.info? 85).map (·.size) = some (wearK l ws 12).length := by rw [wearK_len]; exact hinf
   have hlo : zerF.length = (wearK l ws 12).length := by rw [wearK_len]; rfl
   obtain ⟨L, hL⟩ : ∃ L, L = wearK l ws 12 := ⟨_, rfl⟩
   rw [← hL] at hld hld2 hr2 hinf2 hlo
   have HL := Lib.hid hL
   clear H1 H2 HALL i7 hL hr2 i1 i6
   go_wp2_with (first | refine wpList_load rfl _ _ rfl hld ?_ | refine wpList_storeF rfl _ _ _ rfl (w.heap.size + 1) L zerF rfl rfl i2 hlo hinf2 ?_)
   exact bodyPost_ret (v := .tuple #[.agg (fa L), .int .i64 0]) (results_cell_tmp (p := 4) (q := 5) rfl _ _ (w.heap.size + 1) _ rfl _ rfl hld2) rfl ⟨by rw [HL.out], below_rowA hB (by omega) _⟩
end
section
set_option linter.unusedSimpArgs false
set_option linter.unusedVariables false
open Go.RowKit Flp
theorem exec_load {P : Program} {ρ : Operand → Value} {o : Oper} {t : TypeId} {x : Operand} {v : Value} {w : World} (hop : o.op = Op.load t x) (h : (Instr.loadAt t (ρ x)).run P w = .ok v w) : (execOp ρ o).run P w = .ok (.value v) w := by
 unfold execOp
 simp only [hop, Sem.run_bind, Sem.run_pure, h, Result.andThen_ok]
theorem wp_storeF {o : Oper} {a : Act} {w : World} {K : Act → World → Prop} {Q : Exit → Act → World → Prop} (T : TypeId) (x y : Operand) (hop : o.op = .store T x y) (B : Nat) (l old : List Nat)
 (hx : a.eval x = .pointer (some ⟨B, 0, none⟩)) (hy : a.eval y = .agg (fa l)) (hB : BlkF w B T old) (hlo : old.length = l.length) (hi : (Tryz.prog.info? T).map (·.size) = some l.length)
 (hK : K (a.put o.dst undef) (w.setRow B (fa l))) : o.wp Tryz.prog a w K Q :=
 wp_store_row T x y hop B (fa l) hx hy T (fa old) hB (by rw [hi, fa_size]) (by rw [fa_size, fa_size, hlo]) (fa_one l) hK
/-- the cells of a Life. -/
def lifV (ws : List Int) (xs : List Nat) (lim : Nat) (f s t late : Int) : List Value :=
 ws.map (Value.int .i64) ++ (xs.map (Value.float .f32) ++ [.float .f32 lim, .int .i64 f, .int .i64 s, .int .i64 t, .int .i64 late])
def lifA (ws : List Int) (xs : List Nat) (lim : Nat) (f s t late : Int) : Array Value := (lifV ws xs lim f s t late).toArray
theorem lif_w {ws : List Int} {xs : List Nat} {lim : Nat} {f s t late : Int} (hw : ws.length = 12) {j : Nat} (hj : j < 12) : (lifV ws xs lim f s t late)[j]? = some (.int .i64 (ws[j]?.getD 0)) := by
 unfold lifV
 rw [List.getElem?_append_left (by rw [List.length_map]; omega), List.getElem?_map, List.getElem?_eq_getElem (by omega)]; rfl
theorem lif_x {ws : List Int} {xs : List Nat} {lim : Nat} {f s t late : Int} (hw : ws.length = 12) (hx : xs.length = 12) {j : Nat} (hj : j < 12) : (lifV ws xs lim f s t late)[12 + j]? = some (.float .f32 (xs[j]?.getD 0)) := by
 unfold lifV
 rw [List.getElem?_append_right (by rw [List.length_map]; omega), List.length_map, hw, Nat.add_sub_cancel_left, List.getElem?_append_left (by rw [List.length_map]; omega), List.getElem?_map, List.getElem?_eq_getElem (by omega)]; rfl
theorem lif_t {ws : List Int} {xs : List Nat} {lim : Nat} {f s t late : Int} (hw : ws.length = 12) (hx : xs.length = 12) (j : Nat) : (lifV ws xs lim f s t late)[24 + j]? = [Value.float .f32 lim, .int .i64 f, .int .i64 s, .int .i64 t, .int .i64 late][j]? := by
 unfold lifV
 rw [List.getElem?_append_right (by rw [List.length_map]; omega), List.length_map, hw, show 24 + j - 12 = 12 + j by omega, List.getElem?_append_right (by rw [List.length_map]; omega), List.length_map, hx, Nat.add_sub_cancel_left]
theorem loadAtV {T e : TypeId} {n : Nat} (hu : Tryz.prog.underlying T = some (.array n e)) {cs : List Value} (hi : (Tryz.prog.info? T).map (·.size) = some cs.length) {w : World} {B o : Nat} (h : ∀ j v, cs[j]? = some v → w.cell? ⟨B, o + j, none⟩ = some v) :
 Sem.run Tryz.prog (Instr.loadAt T (.pointer (some ⟨B, o, none⟩))) w = .ok (.agg cs.toArray) w := by
 have hcs : ∀ j v, cs[j]? = some v → w.cell? ((⟨B, o, none⟩ : Addr).add j) = some v := fun j v hj => by
  rw [show (⟨B, o, none⟩ : Addr).add j = ⟨B, o + j, none⟩ by simp [Addr.add]]
  exact h j v hj
 have h1 := run_loadCells_list (P := Tryz.prog) w ⟨B, o, none⟩ cs hcs
 cases hq : Tryz.prog.info? T with
 | none => rw [hq] at hi; cases hi
 | some i =>
   rw [hq] at hi
   have hs : i.size = cs.length := by simpa using hi
   have hagg : (isAgg T).run Tryz.prog w = .ok true w := by
    unfold isAgg
    rw [Sem.run_bind, run_underlying hu w]
    rfl
   simp only [Instr.loadAt, Instr.sureAddr, Sem.run_bind, Sem.run_pure, Result.andThen_ok]
   simp [loadVar, Sem.run_bind, hagg, sizeOf, typeInfo, hq, hs, h1]
theorem lif_loadI {W : World} {G : Nat} {T : TypeId} {ws : List Int} {xs : List Nat} {lim : Nat} {f s t late : Int} (hw : ws.length = 12) (h : Blk W G T (lifV ws xs lim f s t late)) :
 Sem.run Tryz.prog (Instr.loadAt 83 (.pointer (some ⟨G, 0, none⟩))) W = .ok (.agg (ia ws)) W :=
 loadAtV Tryz.undA12 (cs := ws.map (Value.int .i64)) (by rw [List.length_map, hw]; exact Tryz.infoA12) (fun j v hj => by
  have hlt : j < 12 := by have := (List.getElem?_eq_some_iff.1 hj).1; rw [List.length_map] at this; omega
  rw [Nat.zero_add]
  refine h.cell ?_
  rw [lif_w hw hlt, ← hj, List.getElem?_map, List.getElem?_eq_getElem (by omega)]; rfl)
theorem lif_loadF {W : World} {G : Nat} {T : TypeId} {ws : List Int} {xs : List Nat} {lim : Nat} {f s t late : Int} (hw : ws.length = 12) (hx : xs.length = 12) (h : Blk W G T (lifV ws xs lim f s t late)) :
 Sem.run Tryz.prog (Instr.loadAt 85 (.pointer (some ⟨G, 12, none⟩))) W = .ok (.agg (fa xs)) W :=
 loadAtV Tryz.undF12 (cs := xs.map (Value.float .f32)) (by rw [List.length_map, hx]; exact Tryz.infoF12) (fun j v hj => by
  have hlt : j < 12 := by have := (List.getElem?_eq_some_iff.1 hj).1; rw [List.length_map] at this; omega
  refine h.cell ?_
  rw [lif_x hw hx hlt, ← hj, List.getElem?_map, List.getElem?_eq_getElem (by omega)]; rfl)
theorem lif_cells {W : World} {G : Nat} {T : TypeId} {ws : List Int} {xs : List Nat} {lim : Nat} {f s t late : Int} (hw : ws.length = 12) (hx : xs.length = 12) (h : Blk W G T (lifV ws xs lim f s t late)) :
 W.cell? ⟨G, 24, none⟩ = some (.float .f32 lim) ∧ W.cell? ⟨G, 25, none⟩ = some (.int .i64 f) ∧ W.cell? ⟨G, 26, none⟩ = some (.int .i64 s) ∧ W.cell? ⟨G, 27, none⟩ = some (.int .i64 t) ∧ W.cell? ⟨G, 28, none⟩ = some (.int .i64 late) :=
 ⟨h.cell (lif_t hw hx 0), h.cell (lif_t hw hx 1), h.cell (lif_t hw hx 2), h.cell (lif_t hw hx 3), h.cell (lif_t hw hx 4)⟩
end
end Go.Proofs.YtgdkomgfalkihaaGreatDoor

/- Package valve: Spares. -/
import Derived.Test.YtpmngcffkhbofaaGreatDoorVcF
import Derived.Test.YtpmngcffkhbofaaGreatDoorVbP
import Derived.Maps.GroupsBeside
import Derived.Maps.RangeWalk
namespace Go.Proofs.YtpmngcffkhbofaaGreatDoor
section
set_option linter.unusedSimpArgs false
set_option linter.unusedVariables false
open Go.RowKit Go.Maps
/-- the sum of what f says of the members. -/
def sumF {α : Type} (f : α → Int) (l : List α) : Int := l.foldr (fun x s => f x + s) 0
theorem sumF_append {α : Type} (f : α → Int) (l m : List α) : sumF f (l ++ m) = sumF f l + sumF f m := by
 induction l with
 | nil => simp [sumF]
 | cons x l ih =>
   show f x + sumF f (l ++ m) = f x + sumF f l + sumF f m
   rw [ih]; omega
theorem sumF_one {α : Type} (f : α → Int) (x : α) : sumF f [x] = f x := by simp [sumF]
theorem sumF_take {α : Type} (f : α → Int) (l : List α) (k : Nat) (x : α) (h : l[k]? = some x) : sumF f (l.take (k + 1)) = sumF f (l.take k) + f x := by
 rw [List.take_add_one, h, sumF_append]; simp [sumF_one]
theorem sumF_perm {α : Type} (f : α → Int) {l m : List α} (h : l.Perm m) : sumF f l = sumF f m := by
 induction h with
 | nil => rfl
 | cons x _ ih => show f x + sumF f _ = f x + sumF f _; rw [ih]
 | swap x y l => show f y + (f x + sumF f l) = f x + (f y + sumF f l); omega
 | trans _ _ h1 h2 => rw [h1, h2]
theorem sumF_rng {α : Type} {f : α → Int} {l : List α} {lo hi : Int} (h : ∀ x ∈ l, lo ≤ f x ∧ f x ≤ hi) : lo * l.length ≤ sumF f l ∧ sumF f l ≤ hi * l.length := by
 induction l with
 | nil => simp [sumF]
 | cons x l ih =>
   have h1 := h x (by simp)
   have h2 := ih (fun y hy => h y (by simp [hy]))
   show lo * ((l.length + 1 : Nat) : Int) ≤ f x + sumF f l ∧ f x + sumF f l ≤ hi * ((l.length + 1 : Nat) : Int)
   rw [show ((l.length + 1 : Nat) : Int) = (l.length : Int) + 1 by omega, Int.mul_add, Int.mul_add]
   omega
/-- the spares that are there at a tick; the modules that are replaced at an outage. -/
def therF (t : Int) (d : P2) : Int := if d.1 ≤ t then d.2 else 0
def therS (t : Int) (ds : List P2) : Int := sumF (therF t) ds
def isF (k : Int) (i : Int) : Int := if i = k then 1 else 0
def usedK (pl : List Int) : Nat → Int
 | 0 => 0
 | k + 1 => usedK pl k + sumF (isF k) pl
def mxI (a b : Int) : Int := max a b
def sprK (os : List I3) (pl : List Int) (ds : List P2) : Nat → Int
 | 0 => 0
 | k + 1 => mxI (sprK os pl ds k) (usedK pl (k + 1) - therS (os[k]?.getD (0, 0, 0)).1 ds)
def delG (_ : Nat) (d : P2) : Int := firstE [withinE d.1 0 100000, withinE d.2 1 100]
def sprE2 (ms : List Mo) (os : List I3) (pl : List Int) (ds : List P2) : Int := firstE [plnE ms os pl, whenE (decide (64 < (ds.length : Int))) 5]
def sprE (ms : List Mo) (os : List I3) (pl : List Int) (ds : List P2) : Int := if bothE ms os = 0 then (if sprE2 ms os pl ds = 0 then eachE delG ds else sprE2 ms os pl ds) else bothE ms os
def sprR (ms : List Mo) (os : List I3) (pl : List Int) (ds : List P2) : Int := if sprE ms os pl ds = 0 then sprK os pl ds os.length else 0
theorem usedK_rng (pl : List Int) (k : Nat) : 0 ≤ usedK pl k ∧ usedK pl k ≤ k * pl.length := by
 induction k with
 | zero => simp [usedK]
 | succ k ih =>
   have h := sumF_rng (f := isF k) (l := pl) (lo := 0) (hi := 1) (fun x _ => by unfold isF; split <;> omega)
   simp only [usedK]
   rw [show ((k + 1 : Nat) : Int) = (k : Int) + 1 by omega, Int.add_mul]
   omega
theorem delG_ok {ds : List P2} (h : eachE delG ds = 0) : ∀ d ∈ ds, (0 ≤ d.1 ∧ d.1 ≤ 100000) ∧ (1 ≤ d.2 ∧ d.2 ≤ 100) := by
 intro d hd
 obtain ⟨k, hk⟩ := List.getElem?_of_mem hd
 have := eachE_zero h k d hk
 unfold delG at this
 rw [firstE_cons0, firstE_cons0, withinE_zero, withinE_zero] at this
 exact ⟨this.1, this.2.1⟩
theorem sprE2_ok {ms : List Mo} {os : List I3} {pl : List Int} {ds : List P2} (h : sprE2 ms os pl ds = 0) : plnE ms os pl = 0 ∧ ds.length ≤ 64 := by
 unfold sprE2 at h
 rw [firstE_cons0, firstE_cons0, whenE_zero (by decide)] at h
 have := h.2.1
 exact ⟨h.1, by simp at this; omega⟩
theorem plnE_len {ms : List Mo} {os : List I3} {pl : List Int} (h : plnE ms os pl = 0) : pl.length = ms.length := by
 unfold plnE at h
 split at h
 ·assumption
 ·cases h
theorem therS_rng {ds : List P2} (t : Int) (h : ∀ d ∈ ds, 1 ≤ d.2 ∧ d.2 ≤ 100) (hl : ds.length ≤ 64) (k : Nat) : 0 ≤ sumF (therF t) (ds.take k) ∧ sumF (therF t) (ds.take k) ≤ 6400 := by
 have h1 := sumF_rng (f := therF t) (l := ds.take k) (lo := 0) (hi := 100) (fun x hx => by
  have := h x (List.mem_of_mem_take hx)
  unfold therF
  split <;> omega)
 have : (ds.take k).length ≤ 64 := by rw [List.length_take]; omega
 omega
theorem sprK_rng (os : List I3) (pl : List Int) (ds : List P2) (hd : ∀ d ∈ ds, 1 ≤ d.2 ∧ d.2 ≤ 100) (hl : ds.length ≤ 64) (k : Nat) : 0 ≤ sprK os pl ds k ∧ sprK os pl ds k ≤ k * pl.length := by
 induction k with
 | zero => simp [sprK]
 | succ k ih =>
   have h1 := therS_rng (os[k]?.getD (0, 0, 0)).1 hd hl ds.length
   rw [List.take_length] at h1
   have h2 := usedK_rng pl (k + 1)
   have h3 : ((k + 1 : Nat) : Int) * pl.length = (k : Int) * pl.length + pl.length := by
    rw [show ((k + 1 : Nat) : Int) = (k : Int) + 1 by omega, Int.add_mul]; omega
   show 0 ≤ mxI _ (_ - sumF (therF (os[k]?.getD (0, 0, 0)).1) ds) ∧ mxI _ (_ - sumF (therF (os[k]?.getD (0, 0, 0)).1) ds) ≤ _
   unfold mxI
   omega
end
section
set_option linter.unusedSimpArgs false
set_option linter.unusedVariables false
open Go.RowKit Go.Maps
set_option maxRecDepth 100000 in
set_option maxHeartbeats 8000000 in
theorem Spares_any (vm vo vp vd : Value) (ms : List Mo) (os : List I3) (pl : List Int) (ds : List P2) (w : World) (hml : ms.length ≤ 1000) (hls : ∀ m ∈ ms, m.1.size ≤ 1000000) (hol : os.length ≤ 1000) (hpl : pl.length ≤ 1000000) (hdl : ds.length ≤ 1000000) (hm : Rw 4 mV w vm ms) (ho : Rw 3 iV w vo os) (hp : Ints w vp pl) (hd : Prs w vd ds) :
 Calls Tryz.prog 41 #[vm, vo, vp, vd] w fun r w' => r = .returned (.tuple #[.int .i64 (sprR ms os pl ds), .int .i64 (sprE ms os pl ds)]) ∧ Below w.heap.size w w' := by
 have TK := Lib.hid (fun W (hm : Rw 4 mV W vm ms) (ho : Rw 3 iV W vo os) => check_any vm vo ms os W hml hls hol hm ho)
 have hok := @bothE_ok ms os
 have TP := Lib.hid (fun (h0 : bothE ms os = 0) W (hm : Rw 4 mV W vm ms) (ho : Rw 3 iV W vo os) (hp : Ints W vp pl) => checkPlan_any vm vo vp ms os pl W hml hol hpl hm ho hp (fun o h => ((outE_ok (hok h0).2).2 o h).2.1) (fun m h => by have := ((modsE_ok (hok h0).1).2 m h).2.2.2; omega))
 have TE := Lib.hid (fun W (h : Prs W vd ds) => eachD_any 102 #[] Tryz.enterSp1 delG (fun _ _ => True) W.heap.size vd ds W (by omega) (Nat.le_refl _) (fun w1 h1 => h.carry h1) trivial (fun _ _ _ _ _ => trivial) (fun k x hx w1 h1 _ => (Spares1_any k x.1 x.2 w1).mono fun r w2 ⟨hr, hb⟩ => ⟨hr, hb.mono h1.size, fun _ => trivial⟩))
 have TW := Lib.hid (fun W => when_any (decide (64 < (ds.length : Int))) 5 W)
 have hE2 : sprE2 ms os pl ds = firstE [plnE ms os pl, whenE (decide (64 < (ds.length : Int))) 5] := rfl
 have h1 : bothE ms os ≠ 0 → sprE ms os pl ds = bothE ms os ∧ sprR ms os pl ds = 0 := fun h => by
  have e : sprE ms os pl ds = bothE ms os := by unfold sprE; rw [if_neg h]
  exact ⟨e, by unfold sprR; rw [if_neg (by rw [e]; exact h)]⟩
 have h2 : bothE ms os = 0 → sprE2 ms os pl ds ≠ 0 → sprE ms os pl ds = sprE2 ms os pl ds ∧ sprR ms os pl ds = 0 := fun h h' => by
  have e : sprE ms os pl ds = sprE2 ms os pl ds := by unfold sprE; rw [if_pos h, if_neg h']
  exact ⟨e, by unfold sprR; rw [if_neg (by rw [e]; exact h')]⟩
 have h3 : bothE ms os = 0 → sprE2 ms os pl ds = 0 → sprE ms os pl ds = eachE delG ds := fun h h' => by unfold sprE; rw [if_pos h, if_pos h']
 have h4 : sprE ms os pl ds ≠ 0 → sprR ms os pl ds = 0 := fun h => by unfold sprR; rw [if_neg h]
 have h5 : sprE ms os pl ds = 0 → sprR ms os pl ds = sprK os pl ds os.length := fun h => by unfold sprR; rw [if_pos h]
 have h6 : sprE2 ms os pl ds = 0 → ds.length ≤ 64 ∧ pl.length = ms.length := fun h => ⟨(sprE2_ok h).2, plnE_len (sprE2_ok h).1⟩
 have h7 : bothE ms os = 0 → os.length ≤ 6 ∧ ms.length ≤ 8 := fun h => ⟨(outE_ok (hok h).2).1, (modsE_ok (hok h).1).1⟩
 have h8 := @delG_ok ds
 obtain ⟨E0, hE0⟩ : ∃ e, e = bothE ms os := ⟨_, rfl⟩
 obtain ⟨EP, hEP⟩ : ∃ e, e = plnE ms os pl := ⟨_, rfl⟩
 obtain ⟨EW, hEW⟩ : ∃ e, e = whenE (decide (64 < (ds.length : Int))) 5 := ⟨_, rfl⟩
 obtain ⟨E3, hE3⟩ : ∃ e, e = eachE delG ds := ⟨_, rfl⟩
 obtain ⟨R, hR⟩ : ∃ e, e = sprR ms os pl ds := ⟨_, rfl⟩
 obtain ⟨E, hE⟩ : ∃ e, e = sprE ms os pl ds := ⟨_, rfl⟩
 rw [← hE0] at TK TP h1 h2 h3 h7
 rw [← hEP, ← hEW] at hE2
 rw [← hEP] at TP
 rw [← hEW] at TW
 rw [← hE3] at TE h3 h8
 rw [← hE] at h1 h2 h3 h4 h5 ⊢
 rw [← hR] at h1 h2 h4 h5 ⊢
 have TF := Lib.hid (fun W => first2 EP EW 27 W)
 rw [← hE2] at TF
 obtain ⟨E2, hE2'⟩ : ∃ e, e = sprE2 ms os pl ds := ⟨_, rfl⟩
 rw [← hE2'] at TF h2 h3 h6
 obtain ⟨ma, mc, rfl, -⟩ := hm.slice
 obtain ⟨oa, oc, rfl, -⟩ := ho.slice
 obtain ⟨pa, pc, hpe, -⟩ := id hp
 subst hpe
 obtain ⟨da, dc, rfl, -⟩ := hd.slice
 have HOR := Lib.hid (fun (h : E0 = 0) => outE_ok (hok (hE0 ▸ h)).2)
 obtain ⟨NM, hNM⟩ : ∃ N, N = ms.length := ⟨_, rfl⟩
 obtain ⟨NO, hNO⟩ : ∃ N, N = os.length := ⟨_, rfl⟩
 obtain ⟨NP, hNP⟩ : ∃ N, N = pl.length := ⟨_, rfl⟩
 obtain ⟨ND, hND⟩ : ∃ N, N = ds.length := ⟨_, rfl⟩
 rw [← hNM] at TK TP hm h6 h7 ⊢
 rw [← hNO] at TK TP ho h5 h7 ⊢
 rw [← hNP] at TP hp h6 ⊢
 rw [← hND] at TE TW hd h6 ⊢
 have H1 := Lib.hid h1
 have H2 := Lib.hid h2
 have H3 := Lib.hid h3
 have H4 := Lib.hid h4
 have H5 := Lib.hid h5
 have H6 := Lib.hid h6
 have H7 := Lib.hid h7
 have H8 := Lib.hid h8
 have HNO := Lib.hid hNO
 have HNP := Lib.hid hNP
 have HND := Lib.hid hND
 clear hok hE2 h1 h2 h3 h4 h5 h6 h7 h8 hE0 hEP hEW hE3 hR hE hE2' hNM hNO hNP hND
 go_enter Tryz.func41, Tryz.ntmps41
 go_wp2_with fail
 refine (TK.out w hm ho).mono ?_
 rintro e w1 ⟨rfl, hB⟩
 replace hm := hm.carry hB
 replace ho := ho.carry hB
 replace hp := hp.carry hB
 replace hd := hd.carry hB
 clear TK
 by_cases h0 : E0 = 0
 ·subst h0
  have TP2 := Lib.hid (TP.out (by trivial))
  go_wp2_with fail
  refine (TP2.out w1 hm ho hp).mono ?_
  rintro e w2 ⟨rfl, hb2⟩
  replace ho := ho.carry hb2
  replace hp := hp.carry hb2
  replace hd := hd.carry hb2
  replace hB := bthen hB hb2
  clear TP TP2 hb2 hm
  go_wp2_with fail
  refine (TW.out w2).mono ?_
  rintro e w3 ⟨rfl, rfl⟩
  go_wp2_with fail
  refine (TF.out w2).mono ?_
  rintro e w4 ⟨rfl, hw4⟩
  have hb4 : Below w2.heap.size w2 w4 := by rw [← hw4]; exact below_new _ _
  replace ho := ho.carry hb4
  replace hp := hp.carry hb4
  replace hd := hd.carry hb4
  replace hB := bthen hB hb4
  clear TW TF hb4 hw4
  by_cases hE2 : E2 = 0
  ·subst hE2
   obtain rfl := H3.out (by trivial) (by trivial)
   go_wp2_with fail
   refine (TE.out w4 hd).mono ?_
   rintro e w5 ⟨rfl, hb5⟩
   replace ho := ho.carry hb5
   replace hp := hp.carry hb5
   replace hd := hd.carry hb5
   replace hB := bthen hB hb5
   clear TE hb5 H1 H2 H3
   by_cases hE3 : E = 0
   ·subst hE3
    obtain rfl := H5.out (by trivial)
    have hD := H8.out (by trivial)
    obtain ⟨hN6, hN8⟩ := H7.out (by trivial)
    obtain ⟨hD64, hNPM⟩ := H6.out (by trivial)
    have HTR := Lib.hid (fun (t : Int) (L : List P2) (hL : L.Perm ds) (k : Nat) => therS_rng (ds := L) t (fun d hd => (hD d (hL.mem_iff.1 hd)).2) (by rw [hL.length_eq, ← HND.out]; exact hD64) k)
    have HSR := Lib.hid (fun k => sprK_rng os pl ds (fun d hd => (hD d hd).2) (by rw [← HND.out]; exact hD64) k)
    have HUR := Lib.hid (fun k => usedK_rng pl k)
    have hNP8 : NP ≤ 8 := by omega
    have hND64 : ND ≤ 64 := hD64
    clear H4 H5 H6 H7 H8 hD hD64 hNPM
    go_wp2_with fail
    refine (values_any da ND dc w5).mono ?_
    rintro e V ⟨rfl, hV⟩
    have iV : Blk V w5.heap.size 96 [.slice da ND dc] := by rw [← hV]; exact Blk.new _ _ _
    have kV : Below w5.heap.size w5 V := by rw [← hV]; exact below_new _ _
    clear hV
    have TS := Lib.hid (SortedD_any w5.heap.size da ND dc ds V (by omega) (hd.carry kV) iV)
    replace ho := ho.carry kV
    replace hp := hp.carry kV
    replace hB := bthen hB kV
    clear hd iV kV
    go_wp2_with fail
    refine TS.out.mono ?_
    rintro e V1 ⟨⟨u, L, rfl, hL, hu⟩, hb6⟩
    replace ho := ho.carry hb6
    replace hp := hp.carry hb6
    replace hB := bthen hB hb6
    have HL := Lib.hid hL
    obtain ⟨ua, uc, rfl, -⟩ := hu.slice
    obtain ⟨NL, hNL⟩ : ∃ N, N = L.length := ⟨_, rfl⟩
    have hNL9 : NL ≤ 64 := by rw [hNL, hL.length_eq, ← HND.out]; omega
    rw [← hNL] at hu ⊢
    have HNL := Lib.hid hNL
    have HO := Lib.hid ho
    have HP := Lib.hid hp
    have HU := Lib.hid hu
    clear TS hb6 hL hNL ho hp hu
    go_wp2_with fail
    go_loopw [14, 15, 52] (fun s u i wr => ∃ k : Nat, k ≤ NO ∧ i = .int .i64 k ∧ s = .int .i64 (sprK os pl ds k) ∧ u = .int .i64 (usedK pl k) ∧ Below V1.heap.size V1 wr) (fun _ _ i _ => NO - (intOf i).toNat)
    case atStart => exact ⟨0, by omega, rfl, rfl, rfl, Below.refl _ _⟩
    case round =>
     obtain ⟨k, hk, rfl, rfl, rfl, hbel⟩ := hrel
     by_cases hlt : k < NO
     ·have hdk : (k : Int) < (NO : Int) := by omega
      obtain ⟨x, hx⟩ : ∃ x, os[k]? = some x := ⟨_, List.getElem?_eq_getElem (by rw [← HNO.out]; exact hlt)⟩
      obtain ⟨ob, oo, ocap, hoe, hocs⟩ := (HO.out.carry hbel).head (by rw [← HNO.out]; omega)
      simp only [Value.slice.injEq] at hoe
      obtain ⟨rfl, -, rfl⟩ := hoe
      obtain ⟨o0, o1, o2⟩ := rw3 (hocs k x hx) (show iV x = [.int .i64 x.1, .int .i64 x.2.1, .int .i64 x.2.2] from rfl)
      have hs1 : sprK os pl ds (k + 1) = mxI (sprK os pl ds k) (usedK pl k + sumF (isF k) pl - therS x.1 ds) := by simp only [sprK, usedK]; rw [hx]; rfl
      have hu1 : usedK pl (k + 1) = usedK pl k + sumF (isF k) pl := rfl
      have hsr := HSR.out k
      have hur := HUR.out k
      have hur1 := HUR.out (k + 1)
      have htr := HTR.out x.1 L HL.out
      rw [← HNP.out] at hsr hur hur1
      obtain ⟨x0, x1, x2⟩ := x
      dsimp only at o0 o1 o2 hs1 htr
      have hkb : (k : Int) * (NP : Int) ≤ 6 * 8 := Int.le_trans (Int.mul_le_mul_of_nonneg_right (show (k : Int) ≤ 6 by omega) (by omega)) (by omega)
      have hkb1 : ((k + 1 : Nat) : Int) * (NP : Int) ≤ 6 * 8 := Int.le_trans (Int.mul_le_mul_of_nonneg_right (show ((k + 1 : Nat) : Int) ≤ 6 by omega) (by omega)) (by omega)
      rw [hu1] at hur1
      obtain ⟨S, hS⟩ : ∃ S, S = sprK os pl ds k := ⟨_, rfl⟩
      obtain ⟨U, hU⟩ : ∃ S, S = usedK pl k := ⟨_, rfl⟩
      rw [← hS] at hs1 hsr ⊢
      rw [← hU] at hs1 hu1 hur hur1 ⊢
      have hSb : 0 ≤ S ∧ S ≤ 48 := by omega
      have hUb : 0 ≤ U ∧ U ≤ 48 := by omega
      have hU1b : 0 ≤ U + sumF (isF k) pl ∧ U + sumF (isF k) pl ≤ 48 := by omega
      have HS1 := Lib.hid hs1
      have HU1 := Lib.hid hu1
      have HTR2 := Lib.hid htr
      have HU1B := Lib.hid hU1b
      clear hx hocs hs1 hu1 hsr hur hur1 htr hkb hkb1 hS hU hU1b
      go_upto_region 15 with fail
      obtain ⟨V2, hV2⟩ : ∃ v, v = World.alloc wr (Obj.cells #[.int .i64 x0, .int .i64 x1, .int .i64 x2] 165) := ⟨_, rfl⟩
      have kV2 : Below wr.heap.size wr V2 := by rw [hV2]; exact below_new _ _
      have iV2 : Blk V2 (wr.heap.size) 165 [.int .i64 x0, .int .i64 x1, .int .i64 x2] := by rw [hV2]; exact Blk.new _ _ _
      have sV2 : V2.heap.size = wr.heap.size + 1 := by rw [hV2]; simp
      rw [← hV2]
      clear hV2
      have e0 := iV2.cell (j := 0) (v := .int .i64 x0) rfl
      have hb2 := hbel.trans (kV2.mono hbel.size)
      clear o0 o1 o2 iV2 sV2 kV2 hbel
      go_wp2_with fail
      go_loopw [18, 59] (fun s i wr => ∃ j : Nat, j ≤ NL ∧ i = .int .i64 j ∧ s = .int .i64 (sumF (therF x0) (L.take j)) ∧ Below V2.heap.size V2 wr) (fun _ i _ => NL - (intOf i).toNat)
      case atStart => exact ⟨0, by omega, rfl, rfl, Below.refl _ _⟩
      case round =>
       obtain ⟨j, hj, rfl, rfl, hbi⟩ := hrel
       have e0 := cellb e0 hbi
       have hb3 := hb2.trans (hbi.mono hb2.size)
       by_cases hjlt : j < NL
       ·have hdj : (j : Int) < (NL : Int) := by omega
        obtain ⟨d, hd⟩ : ∃ d, L[j]? = some d := ⟨_, List.getElem?_eq_getElem (by rw [← HNL.out]; exact hjlt)⟩
        obtain ⟨ub, uo, ucap, hue, hucs⟩ := (HU.out.carry hb3).head (by rw [← HNL.out]; omega)
        simp only [Value.slice.injEq] at hue
        obtain ⟨rfl, -, rfl⟩ := hue
        obtain ⟨q0, q1⟩ := rw2 (hucs j d hd) (show pV d = [.int .i64 d.1, .int .i64 d.2] from rfl)
        have ht := sumF_take (therF x0) L j d hd
        have ht0 := HTR2.out j
        have ht1 := HTR2.out (j + 1)
        rw [ht] at ht1
        obtain ⟨d0, d1⟩ := d
        dsimp only at q0 q1
        have hf : therF x0 (d0, d1) = if d0 ≤ x0 then d1 else 0 := rfl
        rw [hf] at ht ht1
        obtain ⟨T, hT⟩ : ∃ T, T = sumF (therF x0) (L.take j) := ⟨_, rfl⟩
        rw [← hT] at ht ht0 ht1 ⊢
        have kn := below_new wr (.cells #[.int .i64 d0, .int .i64 d1] 95)
        have hbn := bthen hbi kn
        have e0 := cellb e0 kn
        by_cases hle : d0 ≤ x0
        ·rw [if_pos hle] at ht ht1
         have hr1 : IntKind.i64.wrap (T + d1) = T + d1 := IntWalk.i64_in _ (by omega)
         have HT := Lib.hid ht
         clear ht ht0 ht1 hT hf hucs hd kn hbi hb3
         go_wp2
         go_roundw
         case rel => exact ⟨j + 1, by omega, by go_num, by rw [HT.out], hbn⟩
         case measure => simp [intOf]; omega
        ·rw [if_neg hle, Int.add_zero] at ht ht1
         have HT := Lib.hid ht
         have hb0 : decide (d0 ≤ x0) = false := decide_eq_false hle
         clear ht ht0 ht1 hT hf hucs hd kn hbi hb3 hle
         go_wp2
         go_roundw
         case rel => exact ⟨j + 1, by omega, by go_num, by rw [HT.out], hbn⟩
         case measure => simp [intOf]; omega
       ·obtain rfl : j = NL := by omega
        have hdj : ¬ (j : Int) < (j : Int) := by omega
        have hts : sumF (therF x0) (L.take j) = therS x0 ds := by
         rw [HNL.out, List.take_length]; exact sumF_perm _ HL.out
        have htb := HTR2.out j
        rw [hts] at htb ⊢
        obtain ⟨T, hT⟩ : ∃ T, T = therS x0 ds := ⟨_, rfl⟩
        rw [← hT] at htb ⊢
        rw [← hT] at HS1
        clear hts hT hbi hb2
        go_wp2_with fail
        go_loop [15, 75] (fun u i => ∃ j : Nat, j ≤ NP ∧ i = .int .i64 j ∧ u = .int .i64 (U + sumF (isF k) (pl.take j))) (fun _ i => NP - (intOf i).toNat)
        case atStart => exact ⟨0, by omega, rfl, by simp [sumF]⟩
        case round =>
         obtain ⟨j, hj, rfl, rfl⟩ := hrel
         by_cases hjlt : j < NP
         ·have hdj : (j : Int) < (NP : Int) := by omega
          obtain ⟨i, hi⟩ : ∃ d, pl[j]? = some d := ⟨_, List.getElem?_eq_getElem (by rw [← HNP.out]; exact hjlt)⟩
          obtain ⟨pb, po, pcap, hpe, hpcs⟩ := (Ints.below HP.out hb3).head (by rw [← HNP.out]; omega)
          simp only [Value.slice.injEq] at hpe
          obtain ⟨rfl, -, rfl⟩ := hpe
          have q0 := hpcs j (by rw [← HNP.out]; exact hjlt)
          rw [hi, Option.getD_some] at q0
          have ht := sumF_take (isF k) pl j i hi
          have ht0 := sumF_rng (f := isF k) (l := pl.take j) (lo := 0) (hi := 1) (fun x _ => by unfold isF; split <;> omega)
          rw [List.length_take, ← HNP.out] at ht0
          have hf : isF k i = if i = (k : Int) then 1 else 0 := rfl
          rw [hf] at ht
          obtain ⟨Z, hZ⟩ : ∃ Z, Z = sumF (isF k) (pl.take j) := ⟨_, rfl⟩
          rw [← hZ] at ht ht0 ⊢
          have hz9 : 0 ≤ Z ∧ Z ≤ 8 := by omega
          by_cases hle : i = (k : Int)
          ·rw [if_pos hle] at ht
           have hr1 : IntKind.i64.wrap (U + Z + 1) = U + Z + 1 := IntWalk.i64_in _ (by omega)
           have HT := Lib.hid ht
           have hb0 : (i == (k : Int)) = true := by rw [beq_iff_eq]; exact hle
           clear ht ht0 hZ hf hpcs hi hle
           go_wp2
           go_round
           case rel => exact ⟨j + 1, by omega, by go_num, by rw [HT.out]; congr 1; omega⟩
           case measure => simp [intOf]; omega
          ·rw [if_neg hle, Int.add_zero] at ht
           have HT := Lib.hid ht
           have hb0 : (i == (k : Int)) = false := by rw [beq_eq_false_iff_ne]; exact hle
           clear ht ht0 hZ hf hpcs hi hle
           go_wp2
           go_round
           case rel => exact ⟨j + 1, by omega, by go_num, by rw [HT.out]⟩
           case measure => simp [intOf]; omega
         ·obtain rfl : j = NP := by omega
          have hdj : ¬ (j : Int) < (j : Int) := by omega
          have hu := HU1B.out
          have e : pl.take j = pl := by rw [HNP.out, List.take_length]
          rw [e]
          obtain ⟨U1, hU1⟩ : ∃ Z, Z = U + sumF (isF k) pl := ⟨_, rfl⟩
          rw [← hU1] at hu ⊢
          rw [← hU1] at HS1 HU1
          have hr1 : IntKind.i64.wrap (U1 - T) = U1 - T := IntWalk.i64_in _ (by omega)
          clear e hU1
          go_wp2
          go_roundw
          case rel => exact ⟨k + 1, by omega, by go_num, by rw [HS1.out]; rfl, by rw [HU1.out], hb3⟩
          case measure => simp [intOf]; omega
     ·obtain rfl : k = NO := by omega
      have hdk : ¬ (k : Int) < (k : Int) := by omega
      obtain ⟨S, hS⟩ : ∃ S, S = sprK os pl ds k := ⟨_, rfl⟩
      rw [← hS]
      have HSS := Lib.hid hS
      clear hS
      go_wp2
      refine bodyPost_ret (v := .tuple #[.int .i64 S, .int .i64 0]) (by simp [results, Tryz.f41, go_sem]) rfl ?_
      exact ⟨by rw [HSS.out], bthen hB hbel⟩
   ·obtain rfl := H4.out hE3
    clear H4 H5
    go_wp2
    refine bodyPost_ret (v := .tuple #[.int .i64 0, .int .i64 E]) (by simp [results, Tryz.f41, go_sem]) rfl ?_
    exact ⟨rfl, hB⟩
  ·obtain ⟨rfl, rfl⟩ := H2.out (by trivial) hE2
   clear H1 H2 H3 H4 H5 H6 H8
   go_wp2
   refine bodyPost_ret (v := .tuple #[.int .i64 0, .int .i64 E]) (by simp [results, Tryz.f41, go_sem]) rfl ?_
   exact ⟨rfl, hB⟩
 ·obtain ⟨rfl, rfl⟩ := H1.out h0
  clear H1 H2 H3 H4 H5 H6 H7 H8 HOR TP
  go_wp2
  refine bodyPost_ret (v := .tuple #[.int .i64 0, .int .i64 E]) (by simp [results, Tryz.f41, go_sem]) rfl ?_
  exact ⟨rfl, hB⟩
end
section
set_option linter.unusedSimpArgs false
set_option linter.unusedVariables false
open Go.RowKit Go.Maps Go.ChangeShapes
/-- the map holds the votes of the pulses l, by their ticks. -/
structure GrpD (D : DataW Unit) (l : List P2) : Prop where
 im : IsMap D
 hs : ∀ t : Int, has D (.int .i64 t) = decide (votL t l ≠ [])
 av : ∀ t : Int, votL t l ≠ [] → ∀ zd, D.atKey (.int .i64 t) zd = .slice (lits .i64 (votL t l)) []
theorem GrpD.start : GrpD (.map []) [] := ⟨⟨_, rfl⟩, fun t => rfl, fun t h => absurd rfl h⟩
theorem votL_snoc (t : Int) (l : List P2) (p : P2) : votL t (l ++ [p]) = votL t l ++ (if p.1 = t then [p.2] else []) := by
 rw [votL_append]
 congr 1
 unfold votL
 by_cases h : p.1 = t
 ·rw [if_pos h]; simp [h]
 ·rw [if_neg h]; simp [h]
theorem GrpD.step {D : DataW Unit} {l : List P2} (h : GrpD D l) (p : P2) : GrpD (D.put (.int .i64 p.1) (.slice (lits .i64 (votL p.1 l ++ [p.2])) [])) (l ++ [p]) := by
 refine ⟨?_, fun t => ?_, fun t ht zd => ?_⟩
 ·obtain ⟨es, he⟩ := h.im
  rw [he]; exact ⟨_, rfl⟩
 ·by_cases e : t = p.1
  ·subst e
   rw [has_put_same h.im (key_lit _), votL_snoc, if_pos rfl]; simp
  ·rw [has_put_other (lit_ne e), h.hs, votL_snoc, if_neg (fun e' => e e'.symm), List.append_nil]
 ·by_cases e : t = p.1
  ·subst e
   rw [atKey_put_same h.im (key_lit _), votL_snoc, if_pos rfl]
  ·rw [votL_snoc, if_neg (fun e' => e e'.symm), List.append_nil] at ht ⊢
   rw [atKey_put_other (lit_ne e), h.av t ht]
theorem lits_inj {a b : List Int} (h : (lits .i64 a : List (DataW Unit)) = lits .i64 b) : a = b := by
 unfold lits at h
 exact (List.map_inj_right (fun x y hxy => by cases hxy; rfl)).1 h
theorem GrpD.zs {D : DataW Unit} {l : List P2} (h : GrpD D l) {w : World} {base : Nat} {e : TypeId} {v : Value} {zs : List Int} (ho : w.ownsInts base e .i64 v zs) (t : Int) (hat : D.atKey (.int .i64 t) .nil = rowDatum .i64 v zs) : zs = votL t l := by
 by_cases hv : votL t l = []
 ·have h1 : has D (.int .i64 t) = false := by rw [h.hs, hv]; rfl
  rw [atKey_of_not_has h1] at hat
  rcases ho.datum (H := Unit) with ⟨_, h2⟩ | h2
  ·rw [h2, hv]
  ·rw [h2] at hat; cases hat
 ·rw [h.av t hv] at hat
  rcases ho.datum (H := Unit) with ⟨h2, _⟩ | h2
  ·rw [h2] at hat; cases hat
  ·rw [h2] at hat
   simp only [DataW.slice.injEq, and_true] at hat
   exact (lits_inj hat).symm
theorem GrpD.zs2 {D : DataW Unit} {l : List P2} (h : GrpD D l) {w : World} {base : Nat} {e : TypeId} {v : Value} {zs : List Int} (ho : w.ownsInts base e .i64 v zs) (t : Int) (hat : ∀ zd, D.atKey (.int .i64 t) zd = rowDatum .i64 v zs) : zs = votL t l ∧ votL t l ≠ [] := by
 have h1 := h.zs ho t (hat _)
 refine ⟨h1, fun hv => ?_⟩
 have h2 : has D (.int .i64 t) = false := by rw [h.hs, hv]; rfl
 have h3 := hat (.lit (.int .i64 0))
 rw [atKey_of_not_has h2] at h3
 rcases ho.datum (H := Unit) with ⟨h4, _⟩ | h4
 ·rw [h4] at h3; cases h3
 ·rw [h4] at h3; cases h3
/-- what has been told off, when 'left' is still to come. -/
def VtI (n : Nat) (l : List P2) (left : Lit → Bool) (L : List P2) : Prop :=
 (∀ x : P2, x ∈ L ↔ votL x.1 l ≠ [] ∧ left (.int .i64 x.1) = false ∧ n < 2 * (votL x.1 l).length ∧ x.2 = majK (votL x.1 l) 12) ∧ (L.map (·.1)).Nodup
theorem VtI.start (n : Nat) {l : List P2} {D : DataW Unit} (h : GrpD D l) : VtI n l (has D) [] := by
 refine ⟨fun x => ?_, by simp⟩
 rw [h.hs]
 constructor
 ·intro h; cases h
 ·rintro ⟨h1, h2, _⟩
  simp at h2
  exact absurd h2 h1
theorem sameKey_int (a b : Int) : (Lit.int .i64 a).sameKey (.int .i64 b) = decide (a = b) := by simp [Lit.sameKey]
theorem VtI.skip {n : Nat} {l : List P2} {left : Lit → Bool} {L : List P2} (h : VtI n l left L) {t : Int} (hlt : left (.int .i64 t) = true) (hn : ¬ n < 2 * (votL t l).length) : VtI n l (fun z => left z && !z.sameKey (.int .i64 t)) L := by
 refine ⟨fun x => ?_, h.2⟩
 rw [h.1 x]
 by_cases e : x.1 = t
 ·rw [← e] at hn hlt
  constructor
  ·rintro ⟨_, _, h3, _⟩; exact absurd h3 hn
  ·rintro ⟨_, _, h3, _⟩; exact absurd h3 hn
 ·simp only [sameKey_int, e, decide_false, Bool.not_false, Bool.and_true]
theorem VtI.take {n : Nat} {l : List P2} {left : Lit → Bool} {L : List P2} (h : VtI n l left L) {t : Int} (hlt : left (.int .i64 t) = true) (hv : votL t l ≠ []) (hn : n < 2 * (votL t l).length) : VtI n l (fun z => left z && !z.sameKey (.int .i64 t)) (L ++ [(t, majK (votL t l) 12)]) := by
 constructor
 ·intro x
  rw [List.mem_append, h.1 x, List.mem_singleton]
  by_cases e : x.1 = t
  ·constructor
   ·rintro (⟨_, h2, _⟩ | h2)
    ·rw [e, hlt] at h2; cases h2
    ·subst h2
     exact ⟨hv, by simp [sameKey_int], hn, rfl⟩
   ·rintro ⟨h1, h2, h3, h4⟩
    right
    obtain ⟨a, b⟩ := x
    simp only at e h4
    subst e
    rw [h4]
  ·simp only [sameKey_int, e, decide_false, Bool.not_false, Bool.and_true]
   constructor
   ·rintro (h1 | h1)
    ·exact h1
    ·subst h1; exact absurd rfl e
   ·exact fun h1 => .inl h1
 ·rw [List.map_append, List.map_singleton, List.nodup_append]
  refine ⟨h.2, by simp, ?_⟩
  intro a ha b hb
  rw [List.mem_singleton] at hb
  subst hb
  obtain ⟨x, hx, rfl⟩ := List.mem_map.1 ha
  have := ((h.1 x).1 hx).2.1
  intro e
  rw [e, hlt] at this
  cases this
theorem VtI.done {n : Nat} {l : List P2} {left : Lit → Bool} {L l' : List P2} (h : VtI n l left L) (hl : ∀ kl, left kl = false) (hp : l'.Perm L) (hs : l'.Pairwise (fun x y => x.1 ≤ y.1)) : l' = voteL n l := by
 have hnd : (l'.map (·.1)).Nodup := (hp.map _).nodup_iff.2 h.2
 have hss : l'.Pairwise (fun x y => x.1 < y.1) := by
  have h1 : l'.Pairwise (fun x y => x.1 ≠ y.1) := List.pairwise_map.1 hnd
  exact (hs.and h1).imp fun ⟨a, b⟩ => by omega
 refine rise_eq hss (voteL_sorted n l) fun x => ?_
 rw [hp.mem_iff, h.1 x, mem_voteL, ← votL_ne]
 constructor
 ·rintro ⟨h1, _, h3, h4⟩; exact ⟨h1, h3, h4⟩
 ·rintro ⟨h1, h3, h4⟩; exact ⟨h1, hl _, h3, h4⟩
/-- valve n is put in. -/
theorem bits_or {a : Int} {n : Nat} (h0 : 0 ≤ a) (h : a < 2 ^ n) (hn : n < 12) : bits .or .i64 a (2 ^ n) = a + 2 ^ n := by
 obtain ⟨A, rfl⟩ := Int.eq_ofNat_of_zero_le h0
 have hA : A < 2 ^ n := by
  have : ((2 ^ n : Nat) : Int) = 2 ^ n := by simp
  omega
 have e2 : (2 : Int) ^ n = ((2 ^ n : Nat) : Int) := by simp
 have hb : 2 ^ n ≤ 2 ^ 11 := Nat.pow_le_pow_right (by decide) (by omega)
 have h1 : A ||| 2 ^ n = A + 2 ^ n := by
  have := Nat.two_pow_add_eq_or_of_lt hA 1
  rw [Nat.mul_one] at this
  rw [Nat.or_comm, ← this, Nat.add_comm]
 rw [e2]
 show IntKind.i64.wrap ((BitVec.ofInt 64 (A : Int) ||| BitVec.ofInt 64 ((2 ^ n : Nat) : Int)).toNat : Nat) = _
 have q1 : BitVec.ofInt 64 (A : Int) = BitVec.ofNat 64 A := rfl
 have q2 : BitVec.ofInt 64 ((2 ^ n : Nat) : Int) = BitVec.ofNat 64 (2 ^ n) := rfl
 rw [q1, q2, BitVec.toNat_or, BitVec.toNat_ofNat, BitVec.toNat_ofNat, Nat.mod_eq_of_lt (by omega), Nat.mod_eq_of_lt (by omega), h1, IntWalk.i64_in _ (by omega)]
 omega
def flatL (ls : List Lg) (k : Nat) : List P2 := (ls.take k).flatMap (·.2)
theorem flatL_succ (ls : List Lg) (k : Nat) (t : Lg) (h : ls[k]? = some t) : flatL ls (k + 1) = flatL ls k ++ t.2 := by
 unfold flatL
 rw [List.take_add_one, h, List.flatMap_append]; simp
def votE (ls : List Lg) : Int := logsE ls
def votR (ls : List Lg) : List P2 := if logsE ls = 0 then voteL ls.length (flatL ls ls.length) else []
end
end Go.Proofs.YtpmngcffkhbofaaGreatDoor

/- The reference of chapter 7: Vote. -/
import Derived.Test.YtgdkomgfalkihaaGreatDoorVgC
import Derived.Test.YtgdkomgfalkihaaGreatDoorVcJ
import Derived.Maps.AppendAt
namespace Go.Proofs.YtgdkomgfalkihaaGreatDoor
section
set_option linter.unusedSimpArgs false
set_option linter.unusedVariables false
open Go.RowKit
theorem insT_len (t : Int) (l : List Int) : (insT t l).length ≤ l.length + 1 := by
 induction l with
 | nil => simp [insT]
 | cons x l ih =>
   unfold insT
   split
   ·simp
   ·split
    ·simp
    ·simp; omega
theorem ticksL_len (l : List P2) : (ticksL l).length ≤ l.length := by
 induction l with
 | nil => simp [ticksL]
 | cons p l ih =>
   have := insT_len p.1 (ticksL l)
   have e : ticksL (p :: l) = insT p.1 (ticksL l) := rfl
   rw [e, List.length_cons]; omega
theorem votT_len (n : Nat) (F : List P2) (t : Int) : (votT n F t).length ≤ F.length := by
 unfold votT voteL
 refine Nat.le_trans (List.length_filter_le _ _) ?_
 rw [List.length_map]
 exact Nat.le_trans (List.length_filter_le _ _) (ticksL_len F)
set_option maxRecDepth 100000 in
set_option maxHeartbeats 8000000 in
theorem VoteR_any (v : Value) (rs : List LgV) (ls : List Lg) (w : World) (hok : LgOk ls) (hv : Lgs w v rs ls) :
 Calls Tryz.prog 38 #[v] w fun r w' => (∃ u, r = .returned u ∧ Prs w' u (voteL ls.length (flatL ls ls.length))) ∧ Below w.heap.size w w' := by
 have HV := Lib.hid hv
 have HOK := Lib.hid hok
 have hlen := hv.len
 have TV := Lib.hid (fun t W (h : Lgs W v rs ls) => VotedR_any v rs ls t W hok h)
 obtain ⟨a, cp, rfl, -⟩ := hv.rw.slice
 obtain ⟨i0, hi, hz0, hz1, hz2⟩ := info_parts Tryz.infZbipoleref07Pulse
 obtain ⟨N, hN⟩ : ∃ N, N = rs.length := ⟨_, rfl⟩
 have hN2 : ls.length = N := by omega
 have hN6 : N ≤ 6 := by have := hok.len; omega
 rw [hN2] at TV ⊢
 rw [← hN] at HV TV ⊢
 have HN := Lib.hid hN
 have HN2 := Lib.hid hN2
 obtain ⟨F, hF⟩ : ∃ f, f = flatL ls N := ⟨_, rfl⟩
 have hFr : ∀ p ∈ F, 0 ≤ p.1 ∧ p.1 ≤ 100000 := fun p hp => by rw [hF] at hp; exact (flatL_rg hok hp).1
 have hFl : F.length ≤ 2000 := by rw [hF]; have := flatL_len hok N; omega
 rw [← hF] at TV ⊢
 have HF := Lib.hid hF
 have HFR := Lib.hid hFr
 have HFL := Lib.hid hFl
 have hst := votT_start (n := N) (fun p hp => (hFr p hp).1)
 have HST := Lib.hid hst
 clear hN hN2 hv hok hlen hF hFr hFl hst
 go_enter Tryz.func38, Tryz.ntmps38
 go_wp2_with fail
 go_loopw [3, 4] (fun u i wr => ∃ T : Int, i = .int .i64 T ∧ 0 ≤ T ∧ T ≤ 100002 ∧ wr.ownsRow w.heap.size 119 2 u (votT N F T).length ((votT N F T).flatMap pV) ∧ Below w.heap.size w wr) (fun _ i _ => 100002 - (intOf i).toNat)
 case atStart => exact ⟨0, rfl, by omega, by omega, by rw [HST.out]; exact World.ownsRow_nil _ _ _ _, Below.refl _ _⟩
 case round =>
  obtain ⟨T, rfl, hT0, hT1, hown, hbel⟩ := hrel
  by_cases hT : T ≤ 100000
  ·have HVW := Lib.hid (HV.out.carry hbel)
   have hge := minK_ge (F := F) hT
   have hsp := (minK_spec T F).1
   have hstep := votT_step (n := N) (F := F) (t := T) (m := minK T F) (fun p hp => (HFR.out p hp).2) hT rfl
   have hLe : (votT N F T).length ≤ 2000 := by have := votT_len N F T; have := HFL.out; omega
   obtain ⟨NB, hNB⟩ : ∃ q, q = (votT N F T).length := ⟨_, rfl⟩
   rw [← hNB] at hown hLe
   have HNB := Lib.hid hNB
   obtain ⟨m, hm⟩ : ∃ m, m = minK T F := ⟨_, rfl⟩
   rw [← hm] at hstep hge hsp
   have HM := Lib.hid hm
   have HSTEP := Lib.hid hstep
   obtain ⟨oa, oc, rfl⟩ := own_slice hown
   have HOWN := Lib.hid hown
   clear hNB hm hstep hown
   go_wp2_with fail
   go_loop [5, 6] (fun n i => ∃ k : Nat, k ≤ N ∧ i = .int .i64 k ∧ n = .int .i64 (minK T (flatL ls k))) (fun _ i => N - (intOf i).toNat)
   case atStart => exact ⟨0, by omega, rfl, rfl⟩
   case round =>
    obtain ⟨k, hk, rfl, rfl⟩ := hrel
    by_cases hlt : k < N
    ·have hdk : (k : Int) < (N : Int) := by omega
     obtain ⟨r, hr⟩ : ∃ r, rs[k]? = some r := ⟨_, List.getElem?_eq_getElem (by rw [← HN.out]; exact hlt)⟩
     obtain ⟨g, hg⟩ : ∃ g, ls[k]? = some g := ⟨_, List.getElem?_eq_getElem (by rw [HN2.out]; exact hlt)⟩
     obtain ⟨b, off, cp', he, hcs⟩ := HVW.out.rw.head (by rw [← HN.out]; omega)
     simp only [Value.slice.injEq] at he
     obtain ⟨rfl, -, rfl⟩ := he
     obtain ⟨c0, c1⟩ := rw2 (hcs k r hr) (show lV r = [.int .i64 r.1, .slice r.2.1 r.2.2.1 r.2.2.2] from rfl)
     obtain ⟨-, htr⟩ := HVW.out.ok k r g hr hg
     have htok := (HOK.out.rng k g hg).2
     have hfs := flatL_succ ls k g hg
     have hrn := htr.len
     obtain ⟨rc, ra, rn, rcap⟩ := r
     dsimp only at c0 c1 htr hrn
     have HTR := Lib.hid htr
     have HRN := Lib.hid hrn
     have HTO := Lib.hid htok
     have HFS := Lib.hid hfs
     have hrn9 : rn ≤ 256 := by have := htok.len; omega
     clear hcs hr hg htr htok hfs hrn c0
     go_wp2_with fail
     go_loop [5, 7] (fun n i => ∃ j : Nat, j ≤ rn ∧ i = .int .i64 j ∧ n = .int .i64 (minK T (flatL ls k ++ g.2.take j))) (fun _ i => rn - (intOf i).toNat)
     case atStart => exact ⟨0, by omega, rfl, by rw [List.take_zero, List.append_nil]⟩
     case round =>
      obtain ⟨j, hj, rfl, rfl⟩ := hrel
      by_cases hj2 : j < rn
      ·have hdj : (j : Int) < (rn : Int) := by omega
       obtain ⟨x, hx⟩ : ∃ x, g.2[j]? = some x := ⟨_, List.getElem?_eq_getElem (by rw [← HRN.out]; exact hj2)⟩
       obtain ⟨bb, oo, cc, he, hcs⟩ := HTR.out.head (by rw [← HRN.out]; omega)
       simp only [Value.slice.injEq] at he
       obtain ⟨rfl, -, rfl⟩ := he
       obtain ⟨d0, d1⟩ := rw2 (hcs j x hx) (show pV x = [.int .i64 x.1, .int .i64 x.2] from rfl)
       have hms : minK T (flatL ls k ++ g.2.take (j + 1)) = if T ≤ x.1 then min (minK T (flatL ls k ++ g.2.take j)) x.1 else minK T (flatL ls k ++ g.2.take j) := by
        rw [List.take_add_one, hx, Option.toList_some, ← List.append_assoc, minK_snoc]
       obtain ⟨n0, hn0⟩ : ∃ n, n = minK T (flatL ls k ++ g.2.take j) := ⟨_, rfl⟩
       rw [← hn0] at hms ⊢
       obtain ⟨x0, x1⟩ := x
       dsimp only at d0 d1 hms
       have HMS := Lib.hid hms
       clear hcs hx hms hn0 d1
       by_cases hc : T ≤ x0
       ·have HM2 := Lib.hid (HMS.out.trans (by rw [if_pos hc]))
        clear HMS
        go_wp2
        go_round
        case rel => exact ⟨j + 1, by omega, by go_num, by rw [HM2.out]⟩
        case measure => simp [intOf]; omega
       ·have HM2 := Lib.hid (HMS.out.trans (by rw [if_neg hc]))
        clear HMS
        go_wp2
        go_round
        case rel => exact ⟨j + 1, by omega, by go_num, by rw [HM2.out]⟩
        case measure => simp [intOf]; omega
      ·have hjr : j = rn := by omega
       have e7 : ¬ (j : Int) < (rn : Int) := by omega
       have hn1 : minK T (flatL ls k ++ g.2.take j) = minK T (flatL ls (k + 1)) := by
        rw [HFS.out, List.take_of_length_le (by rw [← HRN.out]; omega)]
       rw [hn1]
       clear hjr hn1
       go_wp2
       go_round
       case rel => exact ⟨k + 1, by omega, by go_num, rfl⟩
       case measure => simp [intOf]; omega
    ·have hkN : k = N := by omega
     have e6 : ¬ (k : Int) < (N : Int) := by omega
     rw [hkN, ← HF.out, ← HM.out]
     have w1 : IntKind.i64.wrap (m + 1) = m + 1 := IntWalk.i64_in _ (by omega)
     clear hkN
     by_cases hc : m ≤ 100000
     ·have HS2 := HSTEP.out
      rw [if_pos hc] at HS2
      go_wp2_with fail
      refine (TV.out m wr HVW.out).mono ?_
      rintro e W5 ⟨rfl, hl⟩
      have hbel5 := bthen hbel hl
      have hown := own_below HOWN.out hl
      obtain ⟨Z, hZ⟩ : ∃ z, z = majK (votL m F) 12 := ⟨_, rfl⟩
      obtain ⟨Q, hQ⟩ : ∃ z, z = (votL m F).length := ⟨_, rfl⟩
      rw [← hZ, ← hQ] at HS2 ⊢
      clear hZ hQ hl hbel
      by_cases hq : N < 2 * Q
      ·have hqd : decide (N < 2 * Q) = true := decide_eq_true hq
       rw [hqd]
       rw [if_pos hq] at HS2
       have HS3 := Lib.hid HS2
       have kn := below_new W5 (.cells #[.int .i64 m, .int .i64 Z] 119)
       have hsz := hbel5.size
       clear HS2 hq hqd
       go_wp2_with (at_builtin; refine wpList_append_own _ rfl _ _ 22 rfl w.heap.size 119 i0 (.agg #[.int .i64 0, .int .i64 0]) 2 16 Tryz.undZbipoleref07Pulse hi hz0 hz1 hz2 rfl (by decide) (.slice oa NB oc) NB _ rfl (own_below hown kn) ⟨W5.heap.size, 0, none⟩ 1 1 [.int .i64 m, .int .i64 Z] rfl rfl (fun j u hj => (Blk.new W5 119 [.int .i64 m, .int .i64 Z]).news j u hj) (by simp [Value.oneCell']) (by unfold maxLen; omega) (by omega) (by have := kn.size; omega) ?_; intro v9 w1 hown9 hgrow9 _)
       have hbelN := (bthen hbel5 kn).trans (below_grow (own_below hown kn) (by have := kn.size; omega) hgrow9)
       have hownN : w1.ownsRow w.heap.size 119 2 v9 (votT N F (m + 1)).length ((votT N F (m + 1)).flatMap pV) := by
        rw [HS3.out, List.length_append, List.flatMap_append, ← HNB.out]
        exact hown9
       clear hown hown9 hgrow9 hbel5 kn
       go_wp2
       go_roundw
       case rel => exact ⟨m + 1, rfl, by omega, by omega, hownN, hbelN⟩
       case measure => simp [intOf]; omega
      ·have hqd : decide (N < 2 * Q) = false := decide_eq_false hq
       rw [hqd]
       rw [if_neg hq, List.append_nil] at HS2
       have HS3 := Lib.hid HS2
       clear HS2 hq hqd
       go_wp2
       go_roundw
       case rel => exact ⟨m + 1, rfl, by omega, by omega, by rw [HS3.out, ← HNB.out]; exact hown, hbel5⟩
       case measure => simp [intOf]; omega
     ·have HS2 := HSTEP.out
      rw [if_neg hc, List.append_nil] at HS2
      have HS3 := Lib.hid HS2
      clear HS2
      go_wp2
      go_roundw
      case rel => exact ⟨m + 1, rfl, by omega, by omega, by rw [HS3.out, ← HNB.out]; exact HOWN.out, hbel⟩
      case measure => simp [intOf]; omega
  ·have hend : votT N F T = voteL N F := votT_end (fun p hp => by have := HFR.out p hp; omega)
   have hout := hown
   rw [hend] at hout
   have hP := Rw.of_own pV_len hout rfl
   clear hown hout hend
   go_wp2
   go_ret
   exact ⟨⟨_, rfl, hP⟩, hbel⟩
end
section
set_option linter.unusedSimpArgs false
set_option linter.unusedVariables false
open Go.RowKit
theorem Tryz.infZvalveLog : (Tryz.prog.info? 33).map (fun i => (i.zero, i.size, i.bytes)) = some (some (.agg #[.int .i64 0, .slice none 0 0]), 2, 32) := by kernel_rfl
theorem Tryz.undZvalveLog : Tryz.prog.underlying 73 = some (.slice 33) := by kernel_rfl
theorem own_keepV {w w' : World} {row : Option Nat} {base e size n : Nat} {v : Value} {xs : List Value} (h : w.ownsRow base e size v n xs) (hg : w.grownBy w' row) (hne : ∀ b, v.ownBlock = some b → row ≠ some b) : w'.ownsRow base e size v n xs := by
 obtain ⟨h1, h2⟩ := h
 refine ⟨h1, ?_⟩
 rcases h2 with h2 | ⟨g, cap, cur, rfl, hg', hh, r⟩
 ·exact .inl h2
 ·exact .inr ⟨g, cap, cur, rfl, hg', (hg.block g (Array.getElem?_eq_some_iff.1 hh).1 (fun e => hne g rfl e.symm)).trans hh, r⟩
/-- logs of the call's own: u holds rs; each train's row lies apart of u's. -/
structure OwL (H : Nat) (W : World) (u : Value) (rs : List LgV) (ls : List Lg) : Prop where
 own : OwR W H 33 2 lV u rs
 len : rs.length = ls.length
 ok : ∀ (k : Nat) (r : LgV) (t : Lg), rs[k]? = some r → ls[k]? = some t → r.1 = t.1 ∧ OwR W H 139 2 pV (.slice r.2.1 r.2.2.1 r.2.2.2) t.2 ∧ (∀ g, (Value.slice r.2.1 r.2.2.1 r.2.2.2).ownBlock = some g → u.ownBlock ≠ some g)
theorem OwL.carry {H : Nat} {W W' : World} {u : Value} {rs : List LgV} {ls : List Lg} (h : OwL H W u rs ls) (hb : Below W.heap.size W W') : OwL H W' u rs ls :=
 ⟨own_below h.own hb, h.len, fun k r t h1 h2 => ⟨(h.ok k r t h1 h2).1, own_below (h.ok k r t h1 h2).2.1 hb, (h.ok k r t h1 h2).2.2⟩⟩
theorem OwL.lgs {H : Nat} {W : World} {u : Value} {rs : List LgV} {ls : List Lg} (h : OwL H W u rs ls) : Lgs W u rs ls :=
 ⟨OwR.rw h.own lV_len, h.len, fun k r t h1 h2 => ⟨(h.ok k r t h1 h2).1, OwR.rw (h.ok k r t h1 h2).2.1 pV_len⟩⟩
theorem OwL.add {H B : Nat} {W W3 : World} {u u' : Value} {rs : List LgV} {ls : List Lg} {r : LgV} {t : Lg} (h : OwL H W u rs ls) (hr : r.1 = t.1) (hp : OwR W B 139 2 pV (.slice r.2.1 r.2.2.1 r.2.2.2) t.2) (hB : H ≤ B) (hub : ∀ g, u.ownBlock = some g → g < B)
 (hg : W.grownBy W3 u.ownBlock) (ho : OwR W3 H 33 2 lV u' (rs ++ [r])) (hat : u'.ownBlock = u.ownBlock ∨ u'.ownBlock = some W.heap.size) : OwL H W3 u' (rs ++ [r]) (ls ++ [t]) := by
 have key : ∀ {b : Nat} {v : Value} {l : List P2}, OwR W b 139 2 pV v l → (∀ g, v.ownBlock = some g → u.ownBlock ≠ some g) → OwR W3 b 139 2 pV v l ∧ (∀ g, v.ownBlock = some g → u'.ownBlock ≠ some g) := fun hv hne => by
  refine ⟨own_keepV hv hg (fun g e => hne g e), fun g e h9 => ?_⟩
  rcases hat with h8 | h8
  ·exact hne g e (h8 ▸ h9)
  ·have := (World.ownsRow.lt hv g e).2
   rw [h8] at h9
   cases h9
   omega
 refine ⟨ho, by simp [h.len], fun k r' t' h1 h2 => ?_⟩
 by_cases hk : k < rs.length
 ·rw [List.getElem?_append_left hk] at h1
  rw [List.getElem?_append_left (by rw [← h.len]; exact hk)] at h2
  obtain ⟨a1, a2, a3⟩ := h.ok k r' t' h1 h2
  exact ⟨a1, (key a2 a3).1, (key a2 a3).2⟩
 ·have hl : k < (rs ++ [r]).length := (List.getElem?_eq_some_iff.1 h1).1
  rw [List.length_append, List.length_singleton] at hl
  obtain rfl : k = rs.length := by omega
  rw [List.getElem?_concat_length] at h1
  rw [h.len, List.getElem?_concat_length] at h2
  cases h1
  cases h2
  have hne : ∀ g, (Value.slice r.2.1 r.2.2.1 r.2.2.2).ownBlock = some g → u.ownBlock ≠ some g := fun g e h9 => by
   have h1 := (World.ownsRow.lt hp g e).1
   have h2 := hub g h9
   omega
  exact ⟨hr, own_baseV (key hp hne).1 hB, (key hp hne).2⟩
set_option maxRecDepth 100000 in
set_option maxHeartbeats 4000000 in
theorem logs_any (v : Value) (rs : List LgV) (ls : List Lg) (w : World) (hl : ls.length ≤ 1000000) (hlt : ∀ t ∈ ls, t.2.length ≤ 1000000) (hv : Lgs w v rs ls) :
 Calls Tryz.prog 34 #[v] w fun r w' => (∃ u rs', r = .returned u ∧ Lgs w' u rs' ls) ∧ Below w.heap.size w w' := by
 obtain ⟨i0, hi, hz0, hz1, hz2⟩ := info_parts Tryz.infZvalveLog
 have HV := Lib.hid hv
 have HLT := Lib.hid hlt
 have hlen := hv.len
 obtain ⟨va, vc, rfl, -⟩ := hv.rw.slice
 obtain ⟨N, hN⟩ : ∃ N, N = rs.length := ⟨_, rfl⟩
 have hN2 : ls.length = N := by omega
 have hl2 : N ≤ 1000000 := by omega
 rw [← hN] at HV ⊢
 have HN := Lib.hid hN
 have HN2 := Lib.hid hN2
 clear hN hN2 hv hlen hlt hl
 go_enter Tryz.func34, Tryz.ntmps34
 go_wp2_with fail
 go_loopw [3, 8] (fun u i wr => ∃ k : Nat, k ≤ N ∧ i = .int .i64 k ∧ (∃ rs', OwL w.heap.size wr u rs' (ls.take k)) ∧ Below w.heap.size w wr) (fun _ i _ => N - (intOf i).toNat)
 case atStart => exact ⟨0, by omega, rfl, ⟨[], World.ownsRow_nil _ _ _ _, rfl, fun k r t h _ => by simp at h⟩, Below.refl _ _⟩
 case round =>
  obtain ⟨k, hk, rfl, ⟨rs', hown⟩, hbel⟩ := hrel
  by_cases hlt : k < N
  ·have hdk : (k : Int) < (N : Int) := by omega
   obtain ⟨r, hr⟩ : ∃ r, rs[k]? = some r := ⟨_, List.getElem?_eq_getElem (by rw [← HN.out]; exact hlt)⟩
   obtain ⟨t, ht⟩ : ∃ t, ls[k]? = some t := ⟨_, List.getElem?_eq_getElem (by rw [HN2.out]; exact hlt)⟩
   have hszr := hbel.size
   have HVW := HV.out.carry hbel
   obtain ⟨b, off, cp', he, hcs⟩ := HVW.rw.head (by rw [← HN.out]; omega)
   simp only [Value.slice.injEq] at he
   obtain ⟨rfl, -, rfl⟩ := he
   obtain ⟨c0, c1⟩ := rw2 (hcs k r hr) (show lV r = [.int .i64 r.1, .slice r.2.1 r.2.2.1 r.2.2.2] from rfl)
   obtain ⟨hr1, htr⟩ := HVW.ok k r t hr ht
   have hts : ls.take (k + 1) = ls.take k ++ [t] := by rw [List.take_add_one, ht]; rfl
   have htl := HLT.out t (List.mem_of_getElem? ht)
   obtain ⟨rc, ra, rn, rcap⟩ := r
   obtain ⟨tc, tt⟩ := t
   dsimp only at c0 c1 htr hr1 htl
   subst hr1
   have HTS := Lib.hid hts
   have hrl : rs'.length = k := by rw [hown.len, List.length_take, HN2.out]; omega
   have HRL := Lib.hid hrl
   obtain ⟨oa, oc, he2⟩ := own_slice hown.own
   rw [hrl] at he2
   subst he2
   have hub : ∀ g, (Value.slice oa k oc).ownBlock = some g → g < wr.heap.size := fun g e => (World.ownsRow.lt hown.own g e).2
   have HUB := Lib.hid hub
   have TL := Lib.hid (fun W h => logO_any rc ra rn rcap tt W htl h)
   clear hcs hr ht hts htl hrl hub
   go_upto_region 5 with fail
   obtain ⟨W1, hW1⟩ : ∃ v, v = World.alloc wr (Obj.cells #[.int .i64 rc, .slice ra rn rcap] 24) := ⟨_, rfl⟩
   have kW1 : Below wr.heap.size wr W1 := by rw [hW1]; exact below_new _ _
   have iW1 : Blk W1 (wr.heap.size) 24 [.int .i64 rc, .slice ra rn rcap] := by rw [hW1]; exact Blk.new _ _ _
   have sW1 : W1.heap.size = wr.heap.size + 1 := by rw [hW1]; simp
   rw [← hW1]
   clear hW1
   have d0 := iW1.cell (j := 0) (v := .int .i64 rc) rfl
   have d1 := iW1.cell (j := 1) (v := .slice ra rn rcap) rfl
   replace htr := htr.carry kW1
   replace hown := hown.carry kW1
   replace hbel := bthen hbel kW1
   have HS1 := Lib.hid sW1
   clear iW1 kW1 sW1 c0 c1 HVW
   go_wp2_with fail
   refine (TL.out W1 htr).mono ?_
   rintro e W2 ⟨⟨a4, c4, rfl, hp⟩, hl⟩
   replace hown := hown.carry hl
   replace hbel := bthen hbel hl
   obtain ⟨n4, hn4⟩ : ∃ n, n = tt.length := ⟨_, rfl⟩
   rw [← hn4] at hp ⊢
   have HN4 := Lib.hid hn4
   have hW1 : w.heap.size ≤ W1.heap.size := by have := HS1.out; omega
   have kn := below_new W2 (.cells #[.int .i64 rc, .slice a4 n4 c4] 33)
   have hsz := hbel.size
   have hown2 := hown.carry kn
   have hp2 := hp.carry kn
   have HB5 := Lib.hid hbel
   clear d0 d1 htr hl hn4 hown hp hbel
   go_wp2_with (at_builtin; refine wpList_append_own_at _ rfl _ _ 73 rfl w.heap.size 33 i0 (.agg #[.int .i64 0, .slice none 0 0]) 2 32 Tryz.undZvalveLog hi hz0 hz1 hz2 rfl (by decide) (.slice oa k oc) rs'.length _ rfl hown2.own ⟨W2.heap.size, 0, none⟩ 1 1 [.int .i64 rc, .slice a4 n4 c4] rfl rfl (fun j u hj => (Blk.new W2 33 [.int .i64 rc, .slice a4 n4 c4]).news j u hj) (by simp [Value.oneCell']) (by have := HRL.out; unfold maxLen; omega) (by have := HRL.out; omega) (by have := kn.size; omega) ?_; intro v9 w9 hown9 hgrow9 _ hat9)
   have hbel9 := (bthen HB5.out kn).trans (below_grow hown2.own (by have := kn.size; omega) hgrow9)
   have hfin : OwL w.heap.size w9 v9 (rs' ++ [(rc, a4, n4, c4)]) (ls.take (k + 1)) := by
    rw [HTS.out]
    refine hown2.add rfl (t := (rc, tt)) hp2 hW1 (fun g e => by have := HUB.out g e; have := HS1.out; omega) hgrow9 ?_ hat9
    unfold OwR
    rw [List.length_append, List.length_singleton, List.flatMap_append]
    exact hown9
   clear hown2 hown9 hgrow9 hat9 kn hp2
   go_wp2
   go_roundw
   case rel => exact ⟨k + 1, by omega, by go_num, ⟨_, hfin⟩, hbel9⟩
   case measure => simp [intOf]; omega
  ·have hkN : k = N := by omega
   have e6 : ¬ (k : Int) < (N : Int) := by omega
   rw [hkN, List.take_of_length_le (by rw [HN2.out]; exact Nat.le_refl _)] at hown
   have hout := hown.lgs
   clear hown hkN
   go_wp2
   go_ret
   exact ⟨⟨_, rfl, _, hout⟩, hbel⟩
end
end Go.Proofs.YtgdkomgfalkihaaGreatDoor

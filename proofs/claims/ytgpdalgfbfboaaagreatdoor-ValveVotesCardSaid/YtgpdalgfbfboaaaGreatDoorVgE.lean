/- The reference of chapter 7: Vote. -/
import Derived.Test.YtgpdalgfbfboaaaGreatDoorVgC
import Derived.Test.YtgpdalgfbfboaaaGreatDoorVcJ
import Derived.Maps.AppendAt
namespace Go.Proofs.YtgpdalgfbfboaaaGreatDoor
section
set_option linter.unusedSimpArgs false
set_option linter.unusedVariables false
open Go.RowKit
theorem insT_len (t : Int) (l : List Int) : (insT t l).length ≤ l.length + 1 := by
 induction l with
 | nil => simp [insT]
 | cons x l ih =>
   unfold insT
   split
   ·simp
   ·split
    ·simp
    ·simp; omega
theorem ticksL_len (l : List P2) : (ticksL l).length ≤ l.length := by
 induction l with
 | nil => simp [ticksL]
 | cons p l ih =>
   have := insT_len p.1 (ticksL l)
   have e : ticksL (p :: l) = insT p.1 (ticksL l) := rfl
   rw [e, List.length_cons]; omega
theorem votT_len (n : Nat) (F : List P2) (t : Int) : (votT n F t).length ≤ F.length := by
 unfold votT voteL
 refine Nat.le_trans (List.length_filter_le _ _) ?_
 rw [List.length_map]
 exact Nat.le_trans (List.length_filter_le _ _) (ticksL_len F)
end
section
set_option linter.unusedSimpArgs false
set_option linter.unusedVariables false
open Go.RowKit
theorem Tryz.infZvalveLog : (Tryz.prog.info? 53).map (fun i => (i.zero, i.size, i.bytes)) = some (some (.agg #[.int .i64 0, .slice none 0 0]), 2, 32) := by kernel_rfl
theorem Tryz.undZvalveLog : Tryz.prog.underlying 30 = some (.slice 53) := by kernel_rfl
theorem own_keepV {w w' : World} {row : Option Nat} {base e size n : Nat} {v : Value} {xs : List Value} (h : w.ownsRow base e size v n xs) (hg : w.grownBy w' row) (hne : ∀ b, v.ownBlock = some b → row ≠ some b) : w'.ownsRow base e size v n xs := by
 obtain ⟨h1, h2⟩ := h
 refine ⟨h1, ?_⟩
 rcases h2 with h2 | ⟨g, cap, cur, rfl, hg', hh, r⟩
 ·exact .inl h2
 ·exact .inr ⟨g, cap, cur, rfl, hg', (hg.block g (Array.getElem?_eq_some_iff.1 hh).1 (fun e => hne g rfl e.symm)).trans hh, r⟩
/-- logs of the call's own: u holds rs; each train's row lies apart of u's. -/
structure OwL (H : Nat) (W : World) (u : Value) (rs : List LgV) (ls : List Lg) : Prop where
 own : OwR W H 53 2 lV u rs
 len : rs.length = ls.length
 ok : ∀ (k : Nat) (r : LgV) (t : Lg), rs[k]? = some r → ls[k]? = some t → r.1 = t.1 ∧ OwR W H 41 2 pV (.slice r.2.1 r.2.2.1 r.2.2.2) t.2 ∧ (∀ g, (Value.slice r.2.1 r.2.2.1 r.2.2.2).ownBlock = some g → u.ownBlock ≠ some g)
theorem OwL.carry {H : Nat} {W W' : World} {u : Value} {rs : List LgV} {ls : List Lg} (h : OwL H W u rs ls) (hb : Below W.heap.size W W') : OwL H W' u rs ls :=
 ⟨own_below h.own hb, h.len, fun k r t h1 h2 => ⟨(h.ok k r t h1 h2).1, own_below (h.ok k r t h1 h2).2.1 hb, (h.ok k r t h1 h2).2.2⟩⟩
theorem OwL.lgs {H : Nat} {W : World} {u : Value} {rs : List LgV} {ls : List Lg} (h : OwL H W u rs ls) : Lgs W u rs ls :=
 ⟨OwR.rw h.own lV_len, h.len, fun k r t h1 h2 => ⟨(h.ok k r t h1 h2).1, OwR.rw (h.ok k r t h1 h2).2.1 pV_len⟩⟩
theorem OwL.add {H B : Nat} {W W3 : World} {u u' : Value} {rs : List LgV} {ls : List Lg} {r : LgV} {t : Lg} (h : OwL H W u rs ls) (hr : r.1 = t.1) (hp : OwR W B 41 2 pV (.slice r.2.1 r.2.2.1 r.2.2.2) t.2) (hB : H ≤ B) (hub : ∀ g, u.ownBlock = some g → g < B)
 (hg : W.grownBy W3 u.ownBlock) (ho : OwR W3 H 53 2 lV u' (rs ++ [r])) (hat : u'.ownBlock = u.ownBlock ∨ u'.ownBlock = some W.heap.size) : OwL H W3 u' (rs ++ [r]) (ls ++ [t]) := by
 have key : ∀ {b : Nat} {v : Value} {l : List P2}, OwR W b 41 2 pV v l → (∀ g, v.ownBlock = some g → u.ownBlock ≠ some g) → OwR W3 b 41 2 pV v l ∧ (∀ g, v.ownBlock = some g → u'.ownBlock ≠ some g) := fun hv hne => by
  refine ⟨own_keepV hv hg (fun g e => hne g e), fun g e h9 => ?_⟩
  rcases hat with h8 | h8
  ·exact hne g e (h8 ▸ h9)
  ·have := (World.ownsRow.lt hv g e).2
   rw [h8] at h9
   cases h9
   omega
 refine ⟨ho, by simp [h.len], fun k r' t' h1 h2 => ?_⟩
 by_cases hk : k < rs.length
 ·rw [List.getElem?_append_left hk] at h1
  rw [List.getElem?_append_left (by rw [← h.len]; exact hk)] at h2
  obtain ⟨a1, a2, a3⟩ := h.ok k r' t' h1 h2
  exact ⟨a1, (key a2 a3).1, (key a2 a3).2⟩
 ·have hl : k < (rs ++ [r]).length := (List.getElem?_eq_some_iff.1 h1).1
  rw [List.length_append, List.length_singleton] at hl
  obtain rfl : k = rs.length := by omega
  rw [List.getElem?_concat_length] at h1
  rw [h.len, List.getElem?_concat_length] at h2
  cases h1
  cases h2
  have hne : ∀ g, (Value.slice r.2.1 r.2.2.1 r.2.2.2).ownBlock = some g → u.ownBlock ≠ some g := fun g e h9 => by
   have h1 := (World.ownsRow.lt hp g e).1
   have h2 := hub g h9
   omega
  exact ⟨hr, own_baseV (key hp hne).1 hB, (key hp hne).2⟩
set_option maxRecDepth 100000 in
set_option maxHeartbeats 4000000 in
theorem logs_any (v : Value) (rs : List LgV) (ls : List Lg) (w : World) (hl : ls.length ≤ 1000000) (hlt : ∀ t ∈ ls, t.2.length ≤ 1000000) (hv : Lgs w v rs ls) :
 Calls Tryz.prog 9 #[v] w fun r w' => (∃ u rs', r = .returned u ∧ Lgs w' u rs' ls) ∧ Below w.heap.size w w' := by
 obtain ⟨i0, hi, hz0, hz1, hz2⟩ := info_parts Tryz.infZvalveLog
 have HV := Lib.hid hv
 have HLT := Lib.hid hlt
 have hlen := hv.len
 obtain ⟨va, vc, rfl, -⟩ := hv.rw.slice
 obtain ⟨N, hN⟩ : ∃ N, N = rs.length := ⟨_, rfl⟩
 have hN2 : ls.length = N := by omega
 have hl2 : N ≤ 1000000 := by omega
 rw [← hN] at HV ⊢
 have HN := Lib.hid hN
 have HN2 := Lib.hid hN2
 clear hN hN2 hv hlen hlt hl
 go_enter Tryz.func9, Tryz.ntmps9
 go_wp2_with fail
 go_loopw [3, 8] (fun u i wr => ∃ k : Nat, k ≤ N ∧ i = .int .i64 k ∧ (∃ rs', OwL w.heap.size wr u rs' (ls.take k)) ∧ Below w.heap.size w wr) (fun _ i _ => N - (intOf i).toNat)
 case atStart => exact ⟨0, by omega, rfl, ⟨[], World.ownsRow_nil _ _ _ _, rfl, fun k r t h _ => by simp at h⟩, Below.refl _ _⟩
 case round =>
  obtain ⟨k, hk, rfl, ⟨rs', hown⟩, hbel⟩ := hrel
  by_cases hlt : k < N
  ·have hdk : (k : Int) < (N : Int) := by omega
   obtain ⟨r, hr⟩ : ∃ r, rs[k]? = some r := ⟨_, List.getElem?_eq_getElem (by rw [← HN.out]; exact hlt)⟩
   obtain ⟨t, ht⟩ : ∃ t, ls[k]? = some t := ⟨_, List.getElem?_eq_getElem (by rw [HN2.out]; exact hlt)⟩
   have hszr := hbel.size
   have HVW := HV.out.carry hbel
   obtain ⟨b, off, cp', he, hcs⟩ := HVW.rw.head (by rw [← HN.out]; omega)
   simp only [Value.slice.injEq] at he
   obtain ⟨rfl, -, rfl⟩ := he
   obtain ⟨c0, c1⟩ := rw2 (hcs k r hr) (show lV r = [.int .i64 r.1, .slice r.2.1 r.2.2.1 r.2.2.2] from rfl)
   obtain ⟨hr1, htr⟩ := HVW.ok k r t hr ht
   have hts : ls.take (k + 1) = ls.take k ++ [t] := by rw [List.take_add_one, ht]; rfl
   have htl := HLT.out t (List.mem_of_getElem? ht)
   obtain ⟨rc, ra, rn, rcap⟩ := r
   obtain ⟨tc, tt⟩ := t
   dsimp only at c0 c1 htr hr1 htl
   subst hr1
   have HTS := Lib.hid hts
   have hrl : rs'.length = k := by rw [hown.len, List.length_take, HN2.out]; omega
   have HRL := Lib.hid hrl
   obtain ⟨oa, oc, he2⟩ := own_slice hown.own
   rw [hrl] at he2
   subst he2
   have hub : ∀ g, (Value.slice oa k oc).ownBlock = some g → g < wr.heap.size := fun g e => (World.ownsRow.lt hown.own g e).2
   have HUB := Lib.hid hub
   have TL := Lib.hid (fun W h => logO_any rc ra rn rcap tt W htl h)
   clear hcs hr ht hts htl hrl hub
   go_upto_region 5 with fail
   obtain ⟨W1, hW1⟩ : ∃ v, v = World.alloc wr (Obj.cells #[.int .i64 rc, .slice ra rn rcap] 34) := ⟨_, rfl⟩
   have kW1 : Below wr.heap.size wr W1 := by rw [hW1]; exact below_new _ _
   have iW1 : Blk W1 (wr.heap.size) 34 [.int .i64 rc, .slice ra rn rcap] := by rw [hW1]; exact Blk.new _ _ _
   have sW1 : W1.heap.size = wr.heap.size + 1 := by rw [hW1]; simp
   rw [← hW1]
   clear hW1
   have d0 := iW1.cell (j := 0) (v := .int .i64 rc) rfl
   have d1 := iW1.cell (j := 1) (v := .slice ra rn rcap) rfl
   replace htr := htr.carry kW1
   replace hown := hown.carry kW1
   replace hbel := bthen hbel kW1
   have HS1 := Lib.hid sW1
   clear iW1 kW1 sW1 c0 c1 HVW
   go_wp2_with fail
   refine (TL.out W1 htr).mono ?_
   rintro e W2 ⟨⟨a4, c4, rfl, hp⟩, hl⟩
   replace hown := hown.carry hl
   replace hbel := bthen hbel hl
   obtain ⟨n4, hn4⟩ : ∃ n, n = tt.length := ⟨_, rfl⟩
   rw [← hn4] at hp ⊢
   have HN4 := Lib.hid hn4
   have hW1 : w.heap.size ≤ W1.heap.size := by have := HS1.out; omega
   have kn := below_new W2 (.cells #[.int .i64 rc, .slice a4 n4 c4] 53)
   have hsz := hbel.size
   have hown2 := hown.carry kn
   have hp2 := hp.carry kn
   have HB5 := Lib.hid hbel
   clear d0 d1 htr hl hn4 hown hp hbel
   go_wp2_with (at_builtin; refine wpList_append_own_at _ rfl _ _ 30 rfl w.heap.size 53 i0 (.agg #[.int .i64 0, .slice none 0 0]) 2 32 Tryz.undZvalveLog hi hz0 hz1 hz2 rfl (by decide) (.slice oa k oc) rs'.length _ rfl hown2.own ⟨W2.heap.size, 0, none⟩ 1 1 [.int .i64 rc, .slice a4 n4 c4] rfl rfl (fun j u hj => (Blk.new W2 53 [.int .i64 rc, .slice a4 n4 c4]).news j u hj) (by simp [Value.oneCell']) (by have := HRL.out; unfold maxLen; omega) (by have := HRL.out; omega) (by have := kn.size; omega) ?_; intro v9 w9 hown9 hgrow9 _ hat9)
   have hbel9 := (bthen HB5.out kn).trans (below_grow hown2.own (by have := kn.size; omega) hgrow9)
   have hfin : OwL w.heap.size w9 v9 (rs' ++ [(rc, a4, n4, c4)]) (ls.take (k + 1)) := by
    rw [HTS.out]
    refine hown2.add rfl (t := (rc, tt)) hp2 hW1 (fun g e => by have := HUB.out g e; have := HS1.out; omega) hgrow9 ?_ hat9
    unfold OwR
    rw [List.length_append, List.length_singleton, List.flatMap_append]
    exact hown9
   clear hown2 hown9 hgrow9 hat9 kn hp2
   go_wp2
   go_roundw
   case rel => exact ⟨k + 1, by omega, by go_num, ⟨_, hfin⟩, hbel9⟩
   case measure => simp [intOf]; omega
  ·have hkN : k = N := by omega
   have e6 : ¬ (k : Int) < (N : Int) := by omega
   rw [hkN, List.take_of_length_le (by rw [HN2.out]; exact Nat.le_refl _)] at hown
   have hout := hown.lgs
   clear hown hkN
   go_wp2
   go_ret
   exact ⟨⟨_, rfl, _, hout⟩, hbel⟩
end
end Go.Proofs.YtgpdalgfbfboaaaGreatDoor

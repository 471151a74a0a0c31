/- Package valve: Vote. -/
import Derived.Test.YtpmngcffkhbofaaGreatDoorVcI
namespace Go.Proofs.YtpmngcffkhbofaaGreatDoor
set_option linter.unusedSimpArgs false
set_option linter.unusedVariables false
open Go.RowKit Go.Maps Go.ChangeShapes
theorem wp_append_own_at {P : Program} {o : Oper} {a : Act} {w : World} {K : Act → World → Prop} {Q : Exit → Act → World → Prop} (s x : Operand) (t : TypeId)
 (ho : o.op = .call { callee := .builtin .append, args := #[s, x], argTypes := #[t, t] })
 (base : Nat) (e : TypeId) (i : TypeInfo) (z : Value) (size bytes : Nat) (ht : P.underlying t = some (.slice e)) (hi : P.info? e = some i) (hz : i.zero = some z)
 (hsize : i.size = size) (hby : i.bytes = bytes) (hzs : z.cells.size = size) (hsz : 0 < size)
 (v : Value) (n : Nat) (xs : List Value) (hs : a.eval s = v) (hown : w.ownsRow base e size v n xs)
 (ad : Addr) (m c : Nat) (news : List Value) (hx : a.eval x = .slice (some ad) m c) (hl : news.length = m * size) (hnews : ∀ j u, news[j]? = some u → w.cell? (ad.add j) = some u) (h1 : ∀ u ∈ news, u.oneCell' = true)
 (h63 : n + m ≤ maxLen) (hbytes : (n + m) * bytes ≤ 140737488355328) (hbase : base ≤ w.heap.size)
 (h : ∀ v' w', w'.ownsRow base e size v' (n + m) (xs ++ news) → w.grownBy w' v.ownBlock → (v'.ownBlock = v.ownBlock ∨ v'.ownBlock = some w.heap.size) → K (a.put o.dst v') w') : o.wp P a w K Q := by
 obtain ⟨v', w', hr, h2, h3, _, h5⟩ := run_append_own_at (P := P) w base t o.type e i z size bytes ht hi hz hsize hby hzs hsz v n xs hown ad m c news hl hnews h1 h63 hbytes hbase
 unfold Oper.wp execOp
 simp only [ho, resolve, invoke, builtin, Sem.run_bind, Sem.run_pure, Result.andThen_ok, List.map_toArray, List.map_cons, List.map_nil, hs, hx, hr]
 exact h v' w' h2 h3 h5
/-- the map of a vote. -/
def Grp (w : World) (MB N : Nat) (D : DataW Unit) : Prop := w.ownsGroups Tryz.prog 3 (MB + 1) 3 .i64 MB N D
theorem Grp.carry {w w' : World} {MB N : Nat} {D : DataW Unit} (h : Grp w MB N D) (hb : Below w.heap.size w w') : Grp w' MB N D :=
 World.ownsGroups.kept h (grownD hb) (by simp) (fun _ _ _ x _ => by cases x.val.ownBlock <;> simp)
theorem Grp.lt {w : World} {MB N : Nat} {D : DataW Unit} (h : Grp w MB N D) : MB < w.heap.size := by
 obtain ⟨es, clock, hb, _⟩ := h
 exact (Array.getElem?_eq_some_iff.1 hb).1
/-- later, and nothing turned. -/
structure Since (a b : World) : Prop where
 b : Below a.heap.size a b
theorem Since.refl (a : World) : Since a a := ⟨Below.refl _ _⟩
theorem Since.carry {a b c : World} (h : Since a b) (k : Below b.heap.size b c) : Since a c := ⟨bthen h.b k⟩
/-- the votes at a tick, as they lie. -/
structure OIn (w : World) (base : Nat) (v : Value) (zs : List Int) : Prop where
 o : w.ownsInts base 3 .i64 v zs
theorem OIn.carry {w w' : World} {base : Nat} {v : Value} {zs : List Int} (h : OIn w base v zs) (hb : Below w.heap.size w w') : OIn w' base v zs := ⟨⟨own_below h.o.1 hb, h.o.2⟩⟩
theorem Blk.own_ne {w : World} {B base e size n : Nat} {T : TypeId} {vs : List Value} {v : Value} {xs : List Value} (h : Blk w B T vs) (hown : w.ownsRow base e size v n xs) (hT : T ≠ e) : some B ≠ v.ownBlock := by
 rcases hown.2 with ⟨rfl, _⟩ | ⟨g, cap, cur, rfl, _, hh, _⟩
 ·simp [Value.ownBlock]
 ·intro e'
  obtain rfl : B = g := by simpa [Value.ownBlock] using e'
  have := (show w.heap[B]? = _ from h).symm.trans hh
  simp at this
  exact hT this.2
theorem Blk.two {w : World} {B : Nat} {T : TypeId} {a b : Value} (h : Blk w B T [a, b]) : w.cell? ⟨B, 0, none⟩ = some a ∧ w.cell? ⟨B, 1, none⟩ = some b := ⟨h.cell rfl, h.cell rfl⟩
theorem zeroInts (w : World) : (zeroValue 63).run Tryz.prog w = .ok (.slice none 0 0) w := by kernel_rfl
theorem Tryz.undMapG : Tryz.prog.underlying 139 = some (.map 3 63) := by kernel_rfl
theorem flatL_len {ls : List Lg} (h : LgOk ls) (k : Nat) : (flatL ls k).length ≤ 256 * k := by
 induction k with
 | zero => simp [flatL]
 | succ k ih =>
   cases hk : ls[k]? with
   | none =>
     have : flatL ls (k + 1) = flatL ls k := by
      unfold flatL
      rw [List.take_add_one, hk]; simp
     rw [this]; omega
   | some t =>
     rw [flatL_succ _ _ _ hk, List.length_append]
     have := (h.rng k t hk).2.len
     omega
theorem flatL_rng {ls : List Lg} (h : LgOk ls) (k : Nat) : ∀ p ∈ flatL ls k, (0 ≤ p.1 ∧ p.1 ≤ 100000) ∧ (0 ≤ p.2 ∧ p.2 ≤ 4095) := by
 intro p hp
 unfold flatL at hp
 obtain ⟨t, ht, hp⟩ := List.mem_flatMap.1 hp
 obtain ⟨j, hj⟩ := List.getElem?_of_mem (List.mem_of_mem_take ht)
 exact (h.rng j t hj).2.mem hp
theorem votL_rng {t : Int} {l : List P2} (h : ∀ p ∈ l, 0 ≤ p.2 ∧ p.2 ≤ 4095) : ∀ z ∈ votL t l, 0 ≤ z ∧ z ≤ 4095 := by
 intro z hz
 unfold votL at hz
 obtain ⟨p, hp, rfl⟩ := List.mem_map.1 hz
 exact h p (List.mem_filter.1 hp).1
theorem below_none {A B : World} (h : A.grownBy B none) : Below A.heap.size A B := ⟨h.os, h.tape, h.output, h.size, fun k hk => h.block k hk (by simp)⟩
theorem own_keptN {w w' : World} {base e size n r : Nat} {v : Value} {xs : List Value} (h : w.ownsRow base e size v n xs) (hg : w.grownBy w' (some r)) (ho : ∃ o : Obj, w.heap[r]? = some o ∧ o.isCells = false) : w'.ownsRow base e size v n xs := by
 refine ⟨h.1, ?_⟩
 rcases h.2 with h2 | ⟨g, cap, cur, hv, hb, hh, hr⟩
 ·exact .inl h2
 ·refine .inr ⟨g, cap, cur, hv, hb, (hg.block g (Array.getElem?_eq_some_iff.1 hh).1 (fun e' => ?_)).trans hh, hr⟩
  obtain ⟨o, h1, h2⟩ := ho
  cases e'
  rw [hh] at h1
  cases h1
  cases h2
theorem ranges_iter {H : Type} {P : Program} {w : World} {k : TypeId} {R : Value → Option (DataW H × List MemPlace)} {b r n cnt : Nat} {D : DataW H} {left : Lit → Bool} (h : w.ranges P k R b r n D left cnt) : ∃ o : Obj, w.heap[r]? = some o ∧ o.isCells = false := by
 obtain ⟨es, clock, since, seen, c0, _, _, _, _, hr, _⟩ := h
 exact ⟨_, hr, rfl⟩
theorem own_ne_of {w : World} {base e size n r : Nat} {v : Value} {xs : List Value} (h : w.ownsRow base e size v n xs) (ho : ∃ o : Obj, w.heap[r]? = some o ∧ o.isCells = false) : some r ≠ v.ownBlock := by
 rcases h.2 with ⟨rfl, _⟩ | ⟨g, cap, cur, rfl, hb, hh, hr⟩
 ·simp [Value.ownBlock]
 ·intro e'
  obtain rfl : r = g := by simpa [Value.ownBlock] using e'
  obtain ⟨o, h1, h2⟩ := ho
  rw [hh] at h1
  cases h1
  cases h2
theorem votL_len (t : Int) (l : List P2) : (votL t l).length ≤ l.length := by
 unfold votL
 rw [List.length_map]
 exact List.length_filter_le _ _
set_option maxRecDepth 100000 in
set_option maxHeartbeats 8000000 in
theorem Vote_any (v : Value) (rs : List LgV) (ls : List Lg) (w : World) (hl : ls.length ≤ 1000) (hlt : ∀ t ∈ ls, t.2.length ≤ 1000000) (hv : Lgs w v rs ls) :
 Calls Tryz.prog 28 #[v] w fun r w' => (∃ u, r = .returned (.tuple #[u, .int .i64 (votE ls)]) ∧ Prs w' u (votR ls)) ∧ Below w.heap.size w w' := by
 have TC := Lib.hid (fun W (h : Lgs W v rs ls) => CheckLogs_any v rs ls W hl hlt h)
 have h0 : logsE ls ≠ 0 → votR ls = [] := fun h => by unfold votR; rw [if_neg h]
 have h1 : logsE ls = 0 → votR ls = voteL ls.length (flatL ls ls.length) := fun h => by unfold votR; rw [if_pos h]
 have h2 := @logsE_ok ls
 have e0 : votE ls = logsE ls := rfl
 rw [e0]
 obtain ⟨E, hE⟩ : ∃ e, e = logsE ls := ⟨_, rfl⟩
 obtain ⟨R, hR⟩ : ∃ e, e = votR ls := ⟨_, rfl⟩
 rw [← hE] at TC h0 h1 h2 ⊢
 rw [← hR] at h0 h1 ⊢
 have HLEN := Lib.hid hv.len
 have HV := Lib.hid hv
 obtain ⟨va, vc, rfl, -⟩ := hv.rw.slice
 obtain ⟨NL, hNL⟩ : ∃ N, N = rs.length := ⟨_, rfl⟩
 have hNL2 : ls.length = NL := by rw [hNL, HLEN.out]
 rw [hNL2] at h1 hl
 rw [← hNL] at HV TC ⊢
 have HN := Lib.hid hNL
 have HN2 := Lib.hid hNL2
 have H0 := Lib.hid h0
 have H1 := Lib.hid h1
 have H2 := Lib.hid h2
 clear hv h0 h1 h2 e0 hE hR hNL hNL2
 go_enter Tryz.func28, Tryz.ntmps28
 go_wp2_with fail
 refine (TC.out w HV.out).mono ?_
 rintro e w1 ⟨rfl, hB⟩
 clear TC
 by_cases hz : E = 0
 ·subst hz
  obtain rfl := H1.out (by trivial)
  have HOK := Lib.hid (H2.out (by trivial))
  have HV1 := Lib.hid (HV.out.carry hB)
  have hN6 : NL ≤ 6 := by rw [← HN2.out]; exact HOK.out.len
  have hmm := @run_makeMap Tryz.prog
  clear H0 H1 H2
  go_wp2_with fail
  go_loopw [26] (fun i wr => ∃ (k : Nat) (D : DataW Unit), k ≤ NL ∧ i = .int .i64 k ∧ Grp wr w1.heap.size (flatL ls k).length D ∧ GrpD D (flatL ls k) ∧ Below w1.heap.size w1 wr) (fun i _ => NL - (intOf i).toNat)
  case atStart => exact ⟨0, .map [], by omega, rfl, World.ownsGroups_made _ _ _ _ _, GrpD.start, below_new _ _⟩
  case round =>
   obtain ⟨k, D, hk, rfl, hG, hD, hbel⟩ := hrel
   clear hmm
   by_cases hlt2 : k < NL
   ·have hdk : (k : Int) < (NL : Int) := by omega
    obtain ⟨r, hr⟩ : ∃ r, rs[k]? = some r := ⟨_, List.getElem?_eq_getElem (by rw [← HN.out]; exact hlt2)⟩
    obtain ⟨t, ht⟩ : ∃ t, ls[k]? = some t := ⟨_, List.getElem?_eq_getElem (by rw [HN2.out]; exact hlt2)⟩
    have HVW := HV1.out.carry hbel
    obtain ⟨b, off, cp', he, hcs⟩ := HVW.rw.head (by rw [← HN.out]; omega)
    simp only [Value.slice.injEq] at he
    obtain ⟨rfl, -, rfl⟩ := he
    obtain ⟨c0, c1⟩ := rw2 (hcs k r hr) (show lV r = [.int .i64 r.1, .slice r.2.1 r.2.2.1 r.2.2.2] from rfl)
    obtain ⟨-, htr⟩ := HV1.out.ok k r t hr ht
    have hflat := flatL_succ ls k t ht
    have hfl := flatL_len HOK.out k
    have htok := (HOK.out.rng k t ht).2
    obtain ⟨rc, ra, rn, rcap⟩ := r
    dsimp only at c0 c1 htr
    have htl := htr.len
    have hrn : rn ≤ 256 := by rw [htl]; exact htok.len
    have HTL := Lib.hid htl
    have HTOK := Lib.hid htok
    have HFLAT := Lib.hid hflat
    obtain ⟨FL, hFL⟩ : ∃ l, l = flatL ls k := ⟨_, rfl⟩
    rw [← hFL] at hG hD hfl HFLAT
    have HTR := Lib.hid htr
    clear hcs hr ht HVW htl htok hflat hFL htr
    go_upto_region 8 with fail
    obtain ⟨V2, hV2⟩ : ∃ v, v = World.alloc wr (Obj.cells #[.int .i64 rc, .slice ra rn rcap] 32) := ⟨_, rfl⟩
    have kV2 : Below wr.heap.size wr V2 := by rw [hV2]; exact below_new _ _
    have iV2 : Blk V2 (wr.heap.size) 32 [.int .i64 rc, .slice ra rn rcap] := by rw [hV2]; exact Blk.new _ _ _
    have sV2 : V2.heap.size = wr.heap.size + 1 := by rw [hV2]; simp
    rw [← hV2]
    clear hV2
    have e1 := iV2.cell (j := 1) (v := .slice ra rn rcap) rfl
    have hG := hG.carry kV2
    have hbel := bthen hbel kV2
    clear c0 c1 iV2 sV2 kV2
    go_wp2_with fail
    clear e1
    go_loopw [33] (fun i wx => ∃ (j : Nat) (D : DataW Unit), j ≤ rn ∧ i = .int .i64 j ∧ Grp wx w1.heap.size (FL.length + j) D ∧ GrpD D (FL ++ t.2.take j) ∧ Below w1.heap.size w1 wx) (fun i _ => rn - (intOf i).toNat)
    case atStart => exact ⟨0, D, by omega, rfl, hG, by simpa using hD, hbel⟩
    case round =>
     clear hG hD hbel
     obtain ⟨j, D, hj, rfl, hG, hD, hbel⟩ := hrel
     by_cases hjlt : j < rn
     ·have hdj : (j : Int) < (rn : Int) := by omega
      obtain ⟨p, hp⟩ : ∃ p, t.2[j]? = some p := ⟨_, List.getElem?_eq_getElem (by rw [← HTL.out]; exact hjlt)⟩
      obtain ⟨b2, off2, cp2, he2, hcs2⟩ := (HTR.out.carry hbel).head (by rw [← HTL.out]; omega)
      simp only [Value.slice.injEq] at he2
      obtain ⟨rfl, -, rfl⟩ := he2
      obtain ⟨d0, d1⟩ := rw2 (hcs2 j p hp) (show pV p = [.int .i64 p.1, .int .i64 p.2] from rfl)
      have hpr := HTOK.out.rng j p hp
      have htk : FL ++ t.2.take (j + 1) = (FL ++ t.2.take j) ++ [p] := by rw [List.take_add_one, hp, List.append_assoc]; rfl
      have hst := hD.step p
      have hzs := fun (w' : World) (v' : Value) (zs : List Int) (h : w'.ownsInts (w1.heap.size + 1) 3 .i64 v' zs) (hat : D.atKey (.int .i64 p.1) .nil = rowDatum .i64 v' zs) => hD.zs h p.1 hat
      obtain ⟨px, py⟩ := p
      dsimp only at d0 d1 hpr hst hzs
      have HK := Lib.hid (show keyOf Tryz.prog 3 (.int .i64 px) = some (.int .i64 px) from keyOf_int_mk Tryz.underlying3 (wf_i64 (by omega)))
      have HWF := Lib.hid (show (Lit.int .i64 py).wf = true from wf_i64 (by omega))
      have HTK := Lib.hid htk
      have HST := Lib.hid hst
      have HZS := Lib.hid hzs
      have hn9 : FL.length + j ≤ 10000 := by omega
      obtain ⟨FN, hFN⟩ : ∃ n, n = FL.length + j := ⟨_, rfl⟩
      rw [← hFN] at hG hn9
      have HFN := Lib.hid hFN
      obtain ⟨i0, hi, hz0, hz1, hz2⟩ := info_parts Tryz.infZint
      have hfl' := Lib.hid hfl
      clear hp hcs2 hpr htk hst hzs hD hFN hfl
      have hMB0 := hG.lt
      go_upto_region 11 with fail
      obtain ⟨W1, hW1⟩ : ∃ v, v = World.alloc wr (Obj.cells #[.int .i64 px, .int .i64 py] 104) := ⟨_, rfl⟩
      have kW1 : Below wr.heap.size wr W1 := by rw [hW1]; exact below_new _ _
      have iW1 : Blk W1 (wr.heap.size) 104 [.int .i64 px, .int .i64 py] := by rw [hW1]; exact Blk.new _ _ _
      have sW1 : W1.heap.size = wr.heap.size + 1 := by rw [hW1]; simp
      rw [← hW1]
      clear hW1
      have hG := hG.carry kW1
      have hbel := bthen hbel kW1
      obtain ⟨PB, hPB⟩ : ∃ P, P = wr.heap.size := ⟨_, rfl⟩
      rw [← hPB] at iW1 hMB0 ⊢
      have hMB : w1.heap.size < PB := hMB0
      clear d0 d1 kW1 sW1 hPB
      refine wp_region_held_drew (S := (fun W => W.cell? ⟨PB, 0, none⟩ = some (.int .i64 px) ∧ W.cell? ⟨PB, 1, none⟩ = some (.int .i64 py))) (by kernel_rfl) (Blk.two iW1) (fun hHeld0 => ?_)
      obtain ⟨wzd, hwz⟩ : ∃ v, v = W1.drew := ⟨_, rfl⟩
      rw [← hwz] at hHeld0 ⊢
      have hbzd : Below w1.heap.size w1 wzd := by rw [hwz]; exact hbel.drew
      have hlzd : Below W1.heap.size W1 wzd := by rw [hwz]; exact (Below.refl _ _).drew
      have iW1 := iW1.carry hlzd
      have hG := hG.carry hlzd
      clear hwz hlzd
      refine zH 0 ⟨some 37, .move (.tmp 5), 139, "valve.go:253", #[], none⟩ rfl ?_
      simp only [Act.put, zS]
      refine zH 1 ⟨some 38, .fieldAddr 104 (.tmp 9) 0, 0, "valve.go:253", #[], none⟩ rfl ?_
      simp only [Act.put, zS]
      refine zH 2 ⟨some 39, .load 3 (.tmp 38), 3, "valve.go:253", #[⟨1, .data⟩], none⟩ rfl ?_
      simp only [Act.put, zS]
      refine zH 3 ⟨some 40, .move (.tmp 5), 139, "valve.go:253", #[], none⟩ rfl ?_
      simp only [Act.put, zS]
      refine zH 4 ⟨some 41, .fieldAddr 104 (.tmp 9) 0, 0, "valve.go:253", #[], none⟩ rfl ?_
      simp only [Act.put, zS]
      refine zH 5 ⟨some 42, .load 3 (.tmp 41), 3, "valve.go:253", #[⟨4, .data⟩], none⟩ rfl ?_
      simp only [Act.put, zS]
      refine zH 7 ⟨some 44, .fieldAddr 104 (.tmp 9) 1, 0, "valve.go:253", #[], none⟩ rfl ?_
      simp only [Act.put, zS]
      refine zH 8 ⟨some 45, .load 3 (.tmp 44), 3, "valve.go:253", #[⟨7, .data⟩], none⟩ rfl ?_
      simp only [Act.put, zS]
      refine wpAnyH_ready (rs := [6, 9]) (by kernel_rfl) (by simp) ?_
      refine (AllReadyH.cons (o := ⟨some 43, .lookup 139 (.tmp 40) (.tmp 42) false, 63, "valve.go:253", #[⟨3, .data⟩, ⟨5, .data⟩], none⟩) rfl (fun K hK => ?_) (AllReadyH.cons (o := ⟨some 46, .buildSlice 63 1 #[(0, .tmp 45)], 63, "valve.go:253", #[⟨8, .data⟩], none⟩) rfl (fun K hK => ?_) AllReadyH.nil))
      ·obtain ⟨v6, zs, hrun, hat, hoi, hzl, hback⟩ := World.ownsGroups.at hG Tryz.keyInt Tryz.undMapG (zeroInts _) (by unfold maxLen; omega) HK.out
       obtain ⟨va6, vc6, rfl⟩ := own_slice hoi.1
       have hzs := HZS.out _ _ _ hoi hat
       have HZ := Lib.hid hzs
       have hoo : OIn _ _ _ _ := ⟨hoi⟩
       have hsn := Since.refl wzd
       clear hzs hoi hat
       go_simp
       clear hrun
       refine hK.out _ _ (Blk.two iW1) (fun hHeld1 => ?_)
       clear hK K hHeld0
       try simp only [Act.put, zS]
       refine wpAnyH_ready (rs := [9]) (by kernel_rfl) (by simp) ?_
       refine (AllReadyH.cons (o := ⟨some 46, .buildSlice 63 1 #[(0, .tmp 45)], 63, "valve.go:253", #[⟨8, .data⟩], none⟩) rfl (fun K hK => ?_) AllReadyH.nil)
       go_simp
       obtain ⟨wz9, hwz⟩ : ∃ v, v = wzd.alloc (Obj.cells #[.int .i64 py] 3) := ⟨_, rfl⟩
       rw [← hwz]
       have hl : Below wzd.heap.size wzd wz9 := by rw [hwz]; exact below_new _ _
       have hbz9 := bthen hbzd hl
       have iN : Blk wz9 wzd.heap.size 3 [.int .i64 py] := by rw [hwz]; exact Blk.new _ _ _
       generalize wzd.heap.size = G at iN ⊢
       clear hwz
       have iW1 := iW1.carry hl
       have hG := hG.carry hl
       have hsn := hsn.carry hl
       have hoo := hoo.carry hl
       clear hl
       refine hK.out _ _ (Blk.two iW1) (fun hHeld2 => ?_)
       clear hK K hHeld1
       try simp only [Act.put, zS]
       refine wpAnyH_ready (rs := [10]) (by kernel_rfl) (by simp) ?_
       refine (AllReadyH.cons (o := ⟨some 47, .call ⟨.builtin .append, #[.tmp 43, .tmp 46], #[63, 63]⟩, 63, "valve.go:253", #[⟨6, .data⟩, ⟨9, .data⟩], none⟩) rfl (fun K hK => ?_) AllReadyH.nil)
       have hsz := (hbz9).size
       have hpb := Blk.lt iW1
       refine wp_append_own_at (.tmp 43) (.tmp 46) 63 rfl (w1.heap.size + 1) 3 i0 (.int .i64 0) 1 8 Tryz.undZint hi hz0 hz1 hz2 rfl (by decide) _ zs.length _ rfl hoo.o.1 ⟨G, 0, none⟩ 1 1 [.int .i64 py] rfl rfl (fun j u hj => by rw [addr_add, Nat.zero_add]; exact iN.cell hj) (by simp [Value.oneCell']) (by unfold maxLen; omega) (by omega) (by omega) ?_
       intro v10 wz10 hown10 hgrow10 hloc10
       have hbz10 := (hbz9).grown hgrow10 hsz (fun k' hk' => by have := (hoo.o.1.lt k' hk').1; omega)
       have iW1 := Blk.kept iW1 hgrow10 (Blk.own_ne iW1 hoo.o.1 (by decide))
       have hgA := (World.grownBy.but (grownD hsn.b) _).trans hgrow10
       have happ := hoo.o.appended hown10 HWF.out
       have hdat := happ.datum_pos (H := Unit) (by simp)
       obtain ⟨va10, vc10, rfl⟩ := own_slice hown10
       refine hK.out _ _ (Blk.two iW1) (fun hHeld3 => ?_)
       clear hK K hHeld2
       try simp only [Act.put, zS]
       refine wpAnyH_ready (rs := [11]) (by kernel_rfl) (by simp) ?_
       refine (AllReadyH.cons (o := ⟨none, .mapUpdate 139 (.tmp 37) (.tmp 39) (.tmp 47), 0, "valve.go:253", #[⟨0, .data⟩, ⟨2, .data⟩, ⟨10, .data⟩, ⟨10, .chain⟩, ⟨0, .phase⟩, ⟨1, .phase⟩, ⟨2, .phase⟩, ⟨3, .phase⟩, ⟨4, .phase⟩, ⟨5, .phase⟩, ⟨6, .phase⟩, ⟨7, .phase⟩, ⟨8, .phase⟩, ⟨9, .phase⟩, ⟨10, .phase⟩], none⟩) rfl (fun K hK => ?_) AllReadyH.nil)
       have hsz := (hbz10).size
       have hpb := Blk.lt iW1
       obtain ⟨wz11, hrun11, hG11, hgrow11⟩ := hback _ _ _ hgA happ (by simp; omega) (hloc10.imp id (fun h => ⟨_, h, hsn.b.size⟩))
       have hbz11 := (hbz10).grown hgrow11 hsz (fun j' hj' => by cases hj'; omega)
       have iW1 := Blk.kept iW1 hgrow11 (by simp; omega)
       go_simp
       clear hrun11
       refine hK.out _ _ (Blk.two iW1) (fun hHeld4 => ?_)
       clear hK K hHeld3
       try simp only [Act.put, zS]
       refine wpAnyH_done (by kernel_rfl) ?_ _
       clear hHeld4
       rw [hdat, HZ.out] at hG11
       have hB9 := hbz11
       obtain ⟨W9, hW9⟩ : ∃ v, v = wz11 := ⟨_, rfl⟩
       rw [← hW9] at hB9 hG11 ⊢
       clear hW9 iW1 hdat happ hgA hown10 hgrow10 hgrow11 hloc10
       go_wp2
       go_roundw
       case rel => exact ⟨j + 1, _, by omega, by go_num, by rw [← Nat.add_assoc, ← HFN.out]; exact hG11, by rw [HTK.out]; exact HST.out, hB9⟩
       case measure => simp [intOf]; omega
      ·go_simp
       obtain ⟨wz9, hwz⟩ : ∃ v, v = wzd.alloc (Obj.cells #[.int .i64 py] 3) := ⟨_, rfl⟩
       rw [← hwz]
       have hl : Below wzd.heap.size wzd wz9 := by rw [hwz]; exact below_new _ _
       have hbz9 := bthen hbzd hl
       have iN : Blk wz9 wzd.heap.size 3 [.int .i64 py] := by rw [hwz]; exact Blk.new _ _ _
       generalize wzd.heap.size = G at iN ⊢
       clear hwz
       have iW1 := iW1.carry hl
       have hG := hG.carry hl
       clear hl
       refine hK.out _ _ (Blk.two iW1) (fun hHeld1 => ?_)
       clear hK K hHeld0
       try simp only [Act.put, zS]
       refine wpAnyH_ready (rs := [6]) (by kernel_rfl) (by simp) ?_
       refine (AllReadyH.cons (o := ⟨some 43, .lookup 139 (.tmp 40) (.tmp 42) false, 63, "valve.go:253", #[⟨3, .data⟩, ⟨5, .data⟩], none⟩) rfl (fun K hK => ?_) AllReadyH.nil)
       obtain ⟨v6, zs, hrun, hat, hoi, hzl, hback⟩ := World.ownsGroups.at hG Tryz.keyInt Tryz.undMapG (zeroInts _) (by unfold maxLen; omega) HK.out
       obtain ⟨va6, vc6, rfl⟩ := own_slice hoi.1
       have hzs := HZS.out _ _ _ hoi hat
       have HZ := Lib.hid hzs
       have hoo : OIn _ _ _ _ := ⟨hoi⟩
       have hsn := Since.refl wz9
       clear hzs hoi hat
       go_simp
       clear hrun
       refine hK.out _ _ (Blk.two iW1) (fun hHeld2 => ?_)
       clear hK K hHeld1
       try simp only [Act.put, zS]
       refine wpAnyH_ready (rs := [10]) (by kernel_rfl) (by simp) ?_
       refine (AllReadyH.cons (o := ⟨some 47, .call ⟨.builtin .append, #[.tmp 43, .tmp 46], #[63, 63]⟩, 63, "valve.go:253", #[⟨6, .data⟩, ⟨9, .data⟩], none⟩) rfl (fun K hK => ?_) AllReadyH.nil)
       have hsz := (hbz9).size
       have hpb := Blk.lt iW1
       refine wp_append_own_at (.tmp 43) (.tmp 46) 63 rfl (w1.heap.size + 1) 3 i0 (.int .i64 0) 1 8 Tryz.undZint hi hz0 hz1 hz2 rfl (by decide) _ zs.length _ rfl hoo.o.1 ⟨G, 0, none⟩ 1 1 [.int .i64 py] rfl rfl (fun j u hj => by rw [addr_add, Nat.zero_add]; exact iN.cell hj) (by simp [Value.oneCell']) (by unfold maxLen; omega) (by omega) (by omega) ?_
       intro v10 wz10 hown10 hgrow10 hloc10
       have hbz10 := (hbz9).grown hgrow10 hsz (fun k' hk' => by have := (hoo.o.1.lt k' hk').1; omega)
       have iW1 := Blk.kept iW1 hgrow10 (Blk.own_ne iW1 hoo.o.1 (by decide))
       have hgA := (World.grownBy.but (grownD hsn.b) _).trans hgrow10
       have happ := hoo.o.appended hown10 HWF.out
       have hdat := happ.datum_pos (H := Unit) (by simp)
       obtain ⟨va10, vc10, rfl⟩ := own_slice hown10
       refine hK.out _ _ (Blk.two iW1) (fun hHeld3 => ?_)
       clear hK K hHeld2
       try simp only [Act.put, zS]
       refine wpAnyH_ready (rs := [11]) (by kernel_rfl) (by simp) ?_
       refine (AllReadyH.cons (o := ⟨none, .mapUpdate 139 (.tmp 37) (.tmp 39) (.tmp 47), 0, "valve.go:253", #[⟨0, .data⟩, ⟨2, .data⟩, ⟨10, .data⟩, ⟨10, .chain⟩, ⟨0, .phase⟩, ⟨1, .phase⟩, ⟨2, .phase⟩, ⟨3, .phase⟩, ⟨4, .phase⟩, ⟨5, .phase⟩, ⟨6, .phase⟩, ⟨7, .phase⟩, ⟨8, .phase⟩, ⟨9, .phase⟩, ⟨10, .phase⟩], none⟩) rfl (fun K hK => ?_) AllReadyH.nil)
       have hsz := (hbz10).size
       have hpb := Blk.lt iW1
       obtain ⟨wz11, hrun11, hG11, hgrow11⟩ := hback _ _ _ hgA happ (by simp; omega) (hloc10.imp id (fun h => ⟨_, h, hsn.b.size⟩))
       have hbz11 := (hbz10).grown hgrow11 hsz (fun j' hj' => by cases hj'; omega)
       have iW1 := Blk.kept iW1 hgrow11 (by simp; omega)
       go_simp
       clear hrun11
       refine hK.out _ _ (Blk.two iW1) (fun hHeld4 => ?_)
       clear hK K hHeld3
       try simp only [Act.put, zS]
       refine wpAnyH_done (by kernel_rfl) ?_ _
       clear hHeld4
       rw [hdat, HZ.out] at hG11
       have hB9 := hbz11
       obtain ⟨W9, hW9⟩ : ∃ v, v = wz11 := ⟨_, rfl⟩
       rw [← hW9] at hB9 hG11 ⊢
       clear hW9 iW1 hdat happ hgA hown10 hgrow10 hgrow11 hloc10
       go_wp2
       go_roundw
       case rel => exact ⟨j + 1, _, by omega, by go_num, by rw [← Nat.add_assoc, ← HFN.out]; exact hG11, by rw [HTK.out]; exact HST.out, hB9⟩
       case measure => simp [intOf]; omega
     ·obtain rfl : j = rn := by omega
      have hdj : ¬ (j : Int) < (j : Int) := by omega
      rw [HTL.out, List.take_length, ← HFLAT.out] at hD
      rw [show FL.length + j = (flatL ls (k + 1)).length by rw [HFLAT.out, List.length_append, HTL.out]] at hG
      go_wp2
      go_roundw
      case rel => exact ⟨k + 1, D, by omega, by go_num, hG, hD, hbel⟩
      case measure => simp [intOf]; omega
   ·obtain rfl : k = NL := by omega
    have hdk : ¬ (k : Int) < (k : Int) := by omega
    have hflr := flatL_rng HOK.out k
    have hfl := flatL_len HOK.out k
    obtain ⟨FA, hFA⟩ : ∃ l, l = flatL ls k := ⟨_, rfl⟩
    rw [← hFA] at hflr hfl hG hD
    have HRE := Lib.hid hFA
    have HFR := Lib.hid (fun p hp => (hflr p hp).2)
    have hfa9 : FA.length ≤ 1536 := by omega
    obtain ⟨WB, hWB⟩ : ∃ W, W = wr := ⟨_, rfl⟩
    subst hWB
    obtain ⟨es, clock, hb, F, hs, hDe, hbb, hlen, hap⟩ := hG
    have hown : WB.ownsMap Tryz.prog 3 (rowElem (H := Unit) WB (w1.heap.size + 1) 3 .i64) w1.heap.size FA.length D := ⟨es, clock, hb, F, hs, hDe⟩
    have hsize := hown.size_le
    have hw1 : w1.heap.size < WB.heap.size := hown.lt
    have HD := Lib.hid hD
    have HW1 := Lib.hid (bthen hB hbel)
    clear hFA hflr hfl hb F hs hDe hbb hlen hap hD hbel hB
    go_wp2_with (first | (at_range; refine wpList_range_own _ rfl _ 139 rfl 3 63 Tryz.keyInt Tryz.undMapG _ w1.heap.size FA.length D rfl hown ?_; intro w0 hrg0 hg0 hs0) | go_in)
    (try go_frame)
    go_loopw [10] (fun u wx => ∃ (left : Lit → Bool) (cnt : Nat) (L : List P2), wx.ranges Tryz.prog 3 (rowElem (H := Unit) WB (w1.heap.size + 1) 3 .i64) w1.heap.size WB.heap.size FA.length D left cnt ∧ VtI k FA left L ∧ wx.ownsRow WB.heap.size 104 2 u L.length (L.flatMap pV) ∧ Below WB.heap.size WB wx ∧ L.length + cnt ≤ FA.length) (fun _ wx => wx.rangeLeft w1.heap.size WB.heap.size)
    case atStart => exact ⟨_, _, [], hrg0, VtI.start k HD.out, World.ownsRow_nil _ _ _ _, below_none hg0, by simpa using hsize⟩
    case round =>
     clear hrg0 hg0 hs0 hown hsize
     obtain ⟨left, cnt, L, hrg, hvt, hout, hbel, hcnt⟩ := hrel
     obtain ⟨oa, oc, rfl⟩ := own_slice hout
     have HVT := Lib.hid hvt
     clear hvt
     go_wp2_with (first | (at_next; refine wpList_next_ranges _ rfl _ rfl 3 Tryz.keyInt (rowElem (H := Unit) WB (w1.heap.size + 1) 3 .i64) (Value.int .i64) id (fun key kl hk => by obtain ⟨x, hx, _⟩ := Maps.keyOf_int_inv Tryz.underlying3 hk; exact ⟨x, hx⟩) (fun v _ _ => ⟨v, rfl⟩) w1.heap.size WB.heap.size _ _ _ _ rfl hrg ?_ ?_) | go_in)
     ·intro hc0 hl0
      have TS := Lib.hid (sortP_any WB.heap.size (.slice oa L.length oc) L wr (by omega) hout)
      have HL0 := Lib.hid hl0
      clear hl0 hrg hc0
      go_wp2_with fail
      refine TS.out.mono ?_
      rintro e w5 ⟨⟨rfl, l', hp, hsrt, hpr⟩, hb5⟩
      have hl' := HVT.out.done HL0.out hp hsrt
      subst hl'
      have HP := Lib.hid hpr
      clear hp hsrt hpr hout
      go_wp2
      refine bodyPost_ret (v := .tuple #[.slice oa L.length oc, .int .i64 0]) (by simp [results, Tryz.f28, go_sem]) rfl ?_
      exact ⟨⟨_, rfl, by rw [← HRE.out]; exact HP.out⟩, HW1.out.trans ((hbel.trans hb5).mono HW1.out.size)⟩
     ·intro x c kl yd yp w2 cnt2 hkey hlk hv2 hat hrg2 hlt3 hg2 hs2 hen
      obtain ⟨x', ex, rfl, hwfx⟩ := Maps.keyOf_int_inv Tryz.underlying3 hkey
      cases ex
      obtain ⟨zs, hoi, hyy⟩ := rowElem_inv hv2
      obtain ⟨rfl, rfl⟩ := Prod.mk.inj hyy
      clear hyy
      obtain ⟨hzs, hne⟩ := HD.out.zs2 hoi x hat
      obtain ⟨ca, cc, hce⟩ := own_slice hoi.1
      subst hce
      have hit := ranges_iter hrg
      have hbel2 : Below WB.heap.size WB w2 := below_grown hbel hg2 (fun r e => by cases e; exact Nat.le_refl _) (Nat.le_refl _)
      have hvi : Ints w2 (.slice ca zs.length cc) zs := (Ints.of_own hoi.1 rfl).below hbel2
      have hout2 := own_keptN hout hg2 hit
      have hmeas : cnt2 < wr.rangeLeft w1.heap.size WB.heap.size := by rw [hrg.left_eq]; exact hlt3
      have HMEAS := Lib.hid hmeas
      have hzl : zs.length ≤ 1536 := by rw [hzs]; exact Nat.le_trans (votL_len _ _) hfa9
      have HZ := Lib.hid hzs
      have HNE := Lib.hid hne
      have HLK := Lib.hid hlk
      have HZR := Lib.hid (show ∀ z ∈ zs, 0 ≤ z ∧ z ≤ 4095 by rw [hzs]; exact votL_rng HFR.out)
      obtain ⟨NZ, hNZ⟩ : ∃ n, n = zs.length := ⟨_, rfl⟩
      rw [← hNZ] at hvi hzl hen ⊢
      have HNZ := Lib.hid hNZ
      have hq : IntKind.i64.wrap (2 * (NZ : Int)) = 2 * NZ := IntWalk.i64_in _ (by omega)
      have hsw : wr.heap.size ≤ w2.heap.size := hg2.size
      clear hzs hne hlk hkey hv2 hat hoi hit hout hbel hmeas hNZ hg2 hs2 hrg hwfx
      by_cases hle : 2 * NZ ≤ k
      ·have b0 : (2 * (NZ : Int)) ≤ (k : Int) := by omega
       have HSK := Lib.hid (HVT.out.skip HLK.out (by rw [← HZ.out, ← HNZ.out]; omega))
       clear hvi hle
       go_wp2
       go_roundw
       case rel => exact ⟨_, cnt2, L, hrg2, HSK.out, hout2, hbel2, by omega⟩
       case measure => rw [hrg2.left_eq]; exact HMEAS.out
      ·have b0 : ¬ (2 * (NZ : Int)) ≤ (k : Int) := by omega
       have HTA := Lib.hid (HVT.out.take HLK.out HNE.out (by rw [← HZ.out, ← HNZ.out]; omega))
       rw [← HZ.out] at HTA
       clear hle
       go_upto_region 20 with fail
       obtain ⟨X, hX⟩ : ∃ v, v = World.alloc w2 (Obj.cells #[.int .i64 x, .int .i64 0] 104) := ⟨_, rfl⟩
       have kX : Below w2.heap.size w2 X := by rw [hX]; exact below_new _ _
       have iX : Blk X (w2.heap.size) 104 [.int .i64 x, .int .i64 0] := by rw [hX]; exact Blk.new _ _ _
       have sX : X.heap.size = w2.heap.size + 1 := by rw [hX]; simp
       rw [← hX]
       clear hX
       have HVI := Lib.hid hvi
       have hwX : w2.heap.size < X.heap.size := by omega
       clear hvi sX
       go_wp2_with fail
       go_loopw [65] (fun i wx => ∃ n : Nat, n ≤ 12 ∧ i = .int .i64 n ∧ Blk wx w2.heap.size 104 [.int .i64 x, .int .i64 (majK zs n)] ∧ Below w2.heap.size w2 wx) (fun i _ => 12 - (intOf i).toNat)
       case atStart => exact ⟨0, by omega, rfl, iX, kX⟩
       case round =>
        clear iX kX
        obtain ⟨n, hn, rfl, hX, hbx⟩ := hrel
        by_cases hn12 : n < 12
        ·have hdn : (n : Int) < 12 := by omega
         have hmr := majK_rng zs n
         have hms : majK zs (n + 1) = majK zs n + (if (zs.length : Int) < 2 * yesC n zs then 2 ^ n else 0) := rfl
         rw [← HNZ.out] at hms
         obtain ⟨M, hM⟩ : ∃ M, M = majK zs n := ⟨_, rfl⟩
         rw [← hM] at hmr hms hX
         have hvw : Ints wr (.slice ca NZ cc) zs := Ints.below HVI.out hbx
         have HMS := Lib.hid hms
         have HMR := Lib.hid hmr
         clear hms hmr hM
         have hpw : (2 : Int) ^ n ≤ 2048 := by
          have h1 : 2 ^ n ≤ 2 ^ 11 := Nat.pow_le_pow_right (by decide) (by omega)
          have h2 : ((2 ^ n : Nat) : Int) = 2 ^ n := by simp
          omega
         have hpp := pow_pos2 n
         have q3 : IntKind.i64.wrap (2 ^ n) = 2 ^ n := IntWalk.i64_in _ (by omega)
         have HQ3 := Lib.hid q3
         have HOR := Lib.hid (bits_or HMR.out.1 HMR.out.2 hn12)
         clear q3 hpw hpp
         go_wp2_with fail
         go_loop [15, 70] (fun s i => ∃ j : Nat, j ≤ NZ ∧ i = .int .i64 j ∧ s = .int .i64 (yesC n (zs.take j))) (fun _ i => NZ - (intOf i).toNat)
         case atStart => exact ⟨0, by omega, rfl, rfl⟩
         case round =>
          obtain ⟨j, hj, rfl, rfl⟩ := hrel
          by_cases hjlt : j < NZ
          ·have hdj : (j : Int) < (NZ : Int) := by omega
           obtain ⟨z, hzj⟩ : ∃ d, zs[j]? = some d := ⟨_, List.getElem?_eq_getElem (by rw [← HNZ.out]; exact hjlt)⟩
           obtain ⟨zb, zo, zcap, hze, hzcs⟩ := hvw.head (by rw [← HNZ.out]; omega)
           simp only [Value.slice.injEq] at hze
           obtain ⟨rfl, -, rfl⟩ := hze
           have q0 := hzcs j (by rw [← HNZ.out]; exact hjlt)
           rw [hzj, Option.getD_some] at q0
           have hzr := HZR.out z (List.mem_of_getElem? hzj)
           have hy : yesC n (zs.take (j + 1)) = yesC n (zs.take j) + bitV z n := by rw [List.take_add_one, hzj]; exact yesC_snoc _ _ _
           have hyr := yesC_rng n (zs.take j)
           rw [List.length_take, ← HNZ.out] at hyr
           have hbr := bitV_rng z n
           have q1 := bit_and n hzr
           obtain ⟨Y, hY⟩ : ∃ Y, Y = yesC n (zs.take j) := ⟨_, rfl⟩
           obtain ⟨bv, hbv⟩ : ∃ Y, Y = bitV z n := ⟨_, rfl⟩
           rw [← hY] at hy hyr ⊢
           rw [← hbv] at hy hbr q1
           have q2 : IntKind.i64.wrap (Y + bv) = Y + bv := IntWalk.i64_in _ (by omega)
           have HY := Lib.hid hy
           clear hzcs hzj hy hyr hbr hY hbv
           go_wp2
           go_round
           case rel => exact ⟨j + 1, by omega, by go_num, by rw [HY.out]⟩
           case measure => simp [intOf]; omega
          ·obtain rfl : j = NZ := by omega
           have hdj : ¬ (j : Int) < (j : Int) := by omega
           have e : zs.take j = zs := by rw [HNZ.out, List.take_length]
           have hyr := yesC_rng n zs
           rw [← HNZ.out] at hyr
           rw [e]
           obtain ⟨Y, hY⟩ : ∃ Y, Y = yesC n zs := ⟨_, rfl⟩
           rw [← hY] at hyr ⊢
           rw [← hY] at HMS
           have q2 : IntKind.i64.wrap (2 * Y) = 2 * Y := IntWalk.i64_in _ (by omega)
           clear e hY hvw
           by_cases hyes : (j : Int) < 2 * Y
           ·have hms : majK zs (n + 1) = M + 2 ^ n := by rw [HMS.out, if_pos hyes]
            have HM1 := Lib.hid hms
            clear hms
            have q3 := HQ3.out
            have q4 := HOR.out
            have c1 := hX.cell (j := 1) (v := .int .i64 M) rfl
            obtain ⟨M1, hM1⟩ : ∃ m, m = M + 2 ^ n := ⟨_, rfl⟩
            rw [← hM1] at q4 HM1
            clear hM1
            go_upto_region 30 with fail
            refine wp_region_E 6 (by kernel_rfl) ?_
            obtain ⟨wz, hwz⟩ : ∃ v, v = wr.drew := ⟨_, rfl⟩
            rw [← hwz]
            have hlz : Below wr.heap.size wr wz := by rw [hwz]; exact (Below.refl _ _).drew
            have hbz := bthen hbx hlz
            have c1 := cellb c1 hlz
            have hX := hX.carry hlz
            clear hwz hlz
            refine zV 0 ⟨some 86, .fieldAddr 104 (.tmp 13) 1, 0, "valve.go:268", #[], none⟩ rfl ?_
            simp only [Act.put, zS]
            refine zV 1 ⟨some 87, .load 3 (.tmp 86), 3, "valve.go:268", #[⟨0, .data⟩], none⟩ rfl ?_ (hv := fun w hE => by have c1 := cellb c1 hE; (try dsimp only); go_simp; try rfl)
            simp only [Act.put, zS]
            refine zV 2 ⟨some 88, .move (.tmp 14), 3, "valve.go:268", #[], none⟩ rfl ?_
            simp only [Act.put, zS]
            refine zV 3 ⟨some 89, .binOp .shl 3 (.const (.int .i64 1)) (.tmp 88) 3, 3, "valve.go:268", #[⟨2, .data⟩], none⟩ rfl ?_
            simp only [Act.put, zS]
            refine zV 4 ⟨some 90, .binOp .or 3 (.tmp 87) (.tmp 89) 3, 3, "valve.go:268", #[⟨1, .data⟩, ⟨3, .data⟩], none⟩ rfl ?_
            simp only [Act.put, zS]
            refine zV 5 ⟨some 91, .fieldAddr 104 (.tmp 13) 1, 0, "valve.go:268", #[⟨0, .phase⟩, ⟨1, .phase⟩, ⟨2, .phase⟩, ⟨3, .phase⟩, ⟨4, .phase⟩], none⟩ rfl ?_
            simp only [Act.put, zS]
            refine wpAnyE_one (i := 6) (o := ⟨none, .store 3 (.tmp 91) (.tmp 90), 0, "valve.go:268", #[⟨5, .data⟩, ⟨4, .data⟩, ⟨0, .phase⟩, ⟨1, .phase⟩, ⟨2, .phase⟩, ⟨3, .phase⟩, ⟨4, .phase⟩], none⟩) (by kernel_rfl) rfl (fun wy1 hE K hK => ?_)
            have c1 := cellb c1 hE
            have hX := hX.carry hE
            have hbz1 := bthen hbz hE
            clear hE
            have fF := Blk.frozen hX 1
            go_simp
            obtain ⟨wx1, hwz⟩ : ∃ v, v = (wy1.setCell ⟨w2.heap.size, 1, none⟩ (.int .i64 M1)) := ⟨_, rfl⟩
            rw [← hwz]
            have hcz1 : Below w2.heap.size w2 wx1 := by rw [hwz]; exact (hbz1).setCell (Nat.le_refl _) _
            have hX := Blk.set hX 1 (.int .i64 M1)
            rw [← hwz] at hX
            clear hwz
            refine hK _ _ (fun h => absurd rfl h) ?_
            clear hK K
            try simp only [Act.put, zS]
            refine wpAnyE_done (by kernel_rfl) (fun wy2 hE => ?_) _
            have hbz2 := bthen hcz1 hE
            have hX := hX.carry hE
            clear hE
            have hbx := hbz2
            obtain ⟨W9, hW9⟩ : ∃ v, v = wy2 := ⟨_, rfl⟩
            rw [← hW9] at hbx hX ⊢
            clear hW9
            clear c1 q3 q4
            go_wp2
            go_roundw
            case rel => exact ⟨n + 1, by omega, by go_num, by rw [HM1.out]; exact hX, hbx⟩
            case measure => simp [intOf]; omega
           ·have hms : majK zs (n + 1) = M := by rw [HMS.out, if_neg hyes, Int.add_zero]
            have HM1 := Lib.hid hms
            have hb0 : ¬ (j : Int) < 2 * Y := hyes
            clear hms
            go_wp2
            go_roundw
            case rel => exact ⟨n + 1, by omega, by go_num, by rw [HM1.out]; exact hX, hbx⟩
            case measure => simp [intOf]; omega
        ·obtain rfl : n = 12 := by omega
         have hdn : ¬ ((12 : Nat) : Int) < 12 := by omega
         obtain ⟨M, hM⟩ : ∃ M, M = majK zs 12 := ⟨_, rfl⟩
         rw [← hM] at hX HTA
         have e0 := hX.cell (j := 0) (v := .int .i64 x) rfl
         have e1 := hX.cell (j := 1) (v := .int .i64 M) rfl
         have hout3 := own_below hout2 hbx
         have hbel3 : Below WB.heap.size WB wr := hbel2.trans (hbx.mono hbel2.size)
         have hln : ∀ j u, (pV (x, M))[j]? = some u → (wr.alloc (.cells #[.int .i64 x, .int .i64 M] 104)).cell? ((⟨wr.heap.size, 0, none⟩ : Addr).add j) = some u := fun j u hj => by
          rw [addr_add, Nat.zero_add]
          exact Blk.cell (Blk.new wr 104 (pV (x, M))) hj
         have kn := below_new wr (.cells #[.int .i64 x, .int .i64 M] 104)
         have hout4 := own_below hout3 kn
         have hbel4 := hbel3.trans (kn.mono hbel3.size)
         have hs4 := hbel4.size
         have hrg4 := (hrg2.kept (grownD hbx) (by simp) (by simp)).kept (grownD kn) (by simp) (by simp)
         obtain ⟨i0, hi, hz0, hz1, hz2⟩ := info_parts Tryz.infZvalvePulse
         clear hX hM hrg2 hout2 hout3 hbel3 hbx
         go_wp2_with (at_builtin; refine wpList_append_own_at _ rfl (.tmp 93) (.tmp 95) 30 rfl WB.heap.size 104 i0 (.agg #[.int .i64 0, .int .i64 0]) 2 16 Tryz.undZvalvePulse hi hz0 hz1 hz2 rfl (by decide) (.slice oa L.length oc) L.length _ rfl hout4 ⟨wr.heap.size, 0, none⟩ 1 1 (pV (x, M)) rfl rfl hln (by simp [pV, Value.oneCell']) (by unfold maxLen; omega) (by omega) hs4 ?_; intro v9 w9 hown9 hgrow9 hnil9 hloc9)
         have hrg5 := hrg4.kept hgrow9 (fun e' => by have := (World.ownsRow.lt hout4 _ e'.symm).1; omega) (own_ne_of hout4 (ranges_iter hrg4))
         have hbel5 := hbel4.grown hgrow9 hs4 (fun k' hk' => (World.ownsRow.lt hout4 k' hk').1)
         have hown5 : w9.ownsRow WB.heap.size 104 2 v9 (L ++ [(x, M)]).length ((L ++ [(x, M)]).flatMap pV) := by
          rw [List.length_append, List.flatMap_append, List.length_singleton, List.flatMap_cons, List.flatMap_nil, List.append_nil]
          exact hown9
         clear hown9 hrg4 hout4 hbel4 hs4 hgrow9 hln kn e0 e1 hi hz0 hz1 hz2
         (try go_wp2)
         go_roundw
         case rel => exact ⟨_, cnt2, L ++ [(x, M)], hrg5, HTA.out, hown5, hbel5, by rw [List.length_append, List.length_singleton]; omega⟩
         case measure => rw [hrg5.left_eq]; exact HMEAS.out
 ·obtain rfl := H0.out hz
  clear H0 H1 H2
  go_wp2
  refine bodyPost_ret (v := .tuple #[.slice none 0 0, .int .i64 E]) (by simp [results, Tryz.f28, go_sem]) rfl ?_
  exact ⟨⟨_, rfl, Rw.nil _ _ _ _ _⟩, hB⟩
end Go.Proofs.YtpmngcffkhbofaaGreatDoor

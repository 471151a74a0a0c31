/- The law ValveSmooth. (UNDER WAY) -/
import Derived.Test.YtgpdalgfbfboaaaGreatDoorVjD
import Derived.Test.YtgpdalgfbfboaaaGreatDoorVcN
namespace Go.Proofs.YtgpdalgfbfboaaaGreatDoor
set_option linter.unusedSimpArgs false
set_option linter.unusedVariables false
open Go.RowKit
theorem same_train (va vb : Value) (l : List P2) (W : World) (ha : Prs W va l) (hb : Prs W vb l) (hl : l.length ≤ 1000000000) :
 Calls Tryz.prog 11 #[va, vb] W fun e w' => e = .returned (.bool true) ∧ Below W.heap.size W w' := by
 have := SameTrain_any va vb l l W ha hb hl
 rw [decide_eq_true rfl] at this
 exact this
theorem short12 {n : Nat} (h : shortB n = true) (h2 : n ≤ 256) : n ≤ 12 := by
 unfold shortB at h
 simp at h; omega
theorem logE_of {c : Int} {l : List P2} (h : 0 ≤ c ∧ c ≤ 255) (h2 : TrOk l) : logE c l = 0 := by
 unfold logE
 rw [withinE_zero.2 h, trainE_of_ok h2]; rfl
/-- what the change-over answers. -/
theorem ch_smooth {ca cb : Int} {la lb : List P2} {fr : Int} {n : Nat} (h1 : logE ca la = 0) (h2 : logE cb lb = 0) (hf : 0 ≤ fr ∧ fr ≤ 100000) (hn : 1 ≤ n ∧ n ≤ 16) :
 (overR la lb fr n = none → chE ca cb la lb fr n = 7 ∧ chT ca cb la lb fr n = 0) ∧ (∀ y, overR la lb fr n = some y → chE ca cb la lb fr n = 0 ∧ chT ca cb la lb fr n = y.1) := by
 have e1 : chE1 ca cb la lb fr n = 0 := by
  unfold chE1
  rw [h1, h2, withinE_zero.2 hf, withinE_zero.2 (by omega)]; rfl
 have ho : chO la lb fr n = (overR la lb fr n).map (·.1) := by
  have := chO_eq (logE_ok h1).2 (logE_ok h2).2 fr (n : Int) (by omega)
  rw [Int.toNat_natCast] at this
  exact this
 constructor
 ·intro h
  rw [h] at ho
  exact ⟨by unfold chE; rw [if_pos e1, ho]; rfl, by unfold chT; rw [if_pos e1, ho]; rfl⟩
 ·intro y h
  rw [h] at ho
  exact ⟨by unfold chE; rw [if_pos e1, ho]; rfl, by unfold chT; rw [if_pos e1, ho]; rfl⟩
theorem swt_smooth {ca cb : Int} {la lb : List P2} {t : Int} (h1 : logE ca la = 0) (h2 : logE cb lb = 0) (ht : 0 ≤ t ∧ t ≤ 100000) (hl : la.length + lb.length ≤ 256) : swtE ca cb la lb t = 0 ∧ swtR ca cb la lb t = swtF la lb t := by
 have e1 : swtE1 ca cb la lb t = 0 := by
  unfold swtE1
  rw [h1, h2, withinE_zero.2 ht]; rfl
 have e : swtE ca cb la lb t = 0 := by
  unfold swtE
  rw [if_pos e1, if_neg (by rw [List.length_take, List.length_drop]; omega)]
 exact ⟨e, by unfold swtR; rw [if_pos e]; exact swtL_eq (logE_ok h1).2 (logE_ok h2).2 t⟩
theorem self_smooth {ca : Int} {la : List P2} (h1 : logE ca la = 0) : (la = [] → chE ca ca la la 0 1 = 7) ∧ (∀ x : P2, la[0]? = some x → chE ca ca la la 0 1 = 0 ∧ chT ca ca la la 0 1 = x.1) := by
 have h := ch_smooth (fr := 0) (n := 1) h1 h1 (by omega) (by omega)
 rw [self_over (logE_ok h1).2] at h
 exact ⟨fun e => (h.1 (by rw [e]; rfl)).1, fun x hx => h.2 x hx⟩
theorem twin_dif {ca tc : Int} {la : List P2} (h1 : logE ca la = 0) (h2 : logE tc la = 0) : difE ca tc la la = 0 ∧ difO ca tc la la = none := by
 have e : difE ca tc la la = 0 := by unfold difE; rw [h1, h2]; rfl
 refine ⟨e, ?_⟩
 unfold difO
 rw [if_pos e]
 have := difF_eq la la (logE_ok h1).2.sorted
 rw [twin_differ (logE_ok h1).2.sorted] at this
 exact Option.map_eq_none_iff.1 this
theorem twin_swt {ca tc fr : Int} {la : List P2} (h1 : logE ca la = 0) (h2 : logE tc la = 0) (hf : 0 ≤ fr ∧ fr ≤ 100000) (hl : la.length ≤ 12) : swtE ca tc la la fr = 0 ∧ swtR ca tc la la fr = la := by
 have h := swt_smooth (t := fr) h1 h2 hf (by omega)
 rw [twin_same (logE_ok h1).2.sorted] at h
 exact h
theorem bumps_ok {l : List P2} (h : TrOk l) : bumpsE l 0 = 0 ∧ bumpsR l 0 = bumpsL l 0 := by
 have e : bumpsE l 0 = 0 := by unfold bumpsE; rw [trainE_of_ok h]; rfl
 exact ⟨e, by unfold bumpsR; rw [if_pos e]⟩
theorem bumps_len (l : List P2) (lim : Int) : (bumpsL l lim).length ≤ l.length := by
 unfold bumpsL bumpK
 rw [List.length_map]
 refine Nat.le_trans (List.length_filter_le _ _) ?_
 rw [List.length_range]; omega
theorem at_some {l : List P2} {t v : Int} (h : atR l t = some v) : atB l t = true ∧ atD l t = v := by
 unfold atB atD
 rw [h]
 exact ⟨rfl, rfl⟩
theorem has_of {l : List Int} {n : Int} (h : n ∈ l) : hasI l n = true := by unfold hasI; rw [List.contains_iff_mem]; exact h
set_option maxRecDepth 100000 in
set_option maxHeartbeats 16000000 in
theorem smo_law (TA : ∀ W, Pows W → Heads W → Calls Tryz.prog 5 #[] W fun e w' => e = .returned (.bool true) ∧ Below W.heap.size W w')
 (va vb : Value) (ca cb : Int) (la lb : List P2) (x0 x1 : Int) (w : World) (hx0 : 0 ≤ x0 ∧ x0 ≤ 255) (hx1 : 0 ≤ x1 ∧ x1 ≤ 255) (hp : Pows w) (hh : Heads w) (hva : Prs w va la) (hvb : Prs w vb lb) :
 Calls Tryz.prog 4 #[.agg #[.int .i64 ca, va], .agg #[.int .i64 cb, vb], .agg #[.int .u8 x0, .int .u8 x1]] w fun e w' => e = .returned (.bool true) ∧ Below w.heap.size w w' := by
 have TA := Lib.hid TA
 obtain ⟨a1, p1, hve, -⟩ := hva.slice
 obtain ⟨N, hN⟩ : ∃ N, N = la.length := ⟨_, rfl⟩
 rw [← hN] at hve
 subst hve
 obtain ⟨a2, p2, hve, -⟩ := hvb.slice
 obtain ⟨M, hM⟩ : ∃ M, M = lb.length := ⟨_, rfl⟩
 rw [← hM] at hve
 subst hve
 have T1 := Lib.hid (fun W => Short_any a1 N p1 W)
 have T2 := Lib.hid (fun W => Short_any a2 M p2 W)
 have HP := Lib.hid hp
 have HH := Lib.hid hh
 have HA := Lib.hid hva
 have HB := Lib.hid hvb
 have HN := Lib.hid hN
 have HM := Lib.hid hM
 have HX0 := Lib.hid hx0
 have HX1 := Lib.hid hx1
 have HS1 := Lib.hid (fun h : shortB N = true => short12 h)
 have HS2 := Lib.hid (fun h : shortB M = true => short12 h)
 have HL1 := Lib.hid (fun h : shortB N = true => (show N ≤ 257 by unfold shortB at h; simp at h; omega))
 have HL2 := Lib.hid (fun h : shortB M = true => (show M ≤ 257 by unfold shortB at h; simp at h; omega))
 obtain ⟨s1, hs1⟩ : ∃ b, b = shortB N := ⟨_, rfl⟩
 obtain ⟨s2, hs2⟩ : ∃ b, b = shortB M := ⟨_, rfl⟩
 rw [← hs1] at T1 HS1 HL1
 rw [← hs2] at T2 HS2 HL2
 clear hp hh hva hvb hN hM hs1 hs2 hx0 hx1
 go_enter Tryz.func4, Tryz.ntmps4
 go_upto_region 1 with fail
 obtain ⟨W1, hW1⟩ : ∃ v, v = World.alloc w (Obj.cells #[.int .i64 ca, .slice a1 N p1] 34) := ⟨_, rfl⟩
 have kW1 : Below w.heap.size w W1 := by rw [hW1]; exact below_new _ _
 have iW1 : Blk W1 (w.heap.size) 34 [.int .i64 ca, .slice a1 N p1] := by rw [hW1]; exact Blk.new _ _ _
 have sW1 : W1.heap.size = w.heap.size + 1 := by rw [hW1]; simp
 rw [← hW1]
 clear hW1
 obtain ⟨W2, hW2⟩ : ∃ v, v = World.alloc W1 (Obj.cells #[.int .i64 cb, .slice a2 M p2] 34) := ⟨_, rfl⟩
 have kW2 : Below W1.heap.size W1 W2 := by rw [hW2]; exact below_new _ _
 have iW2 : Blk W2 (w.heap.size + 1) 34 [.int .i64 cb, .slice a2 M p2] := by rw [hW2, ← sW1]; exact Blk.new _ _ _
 have sW2 : W2.heap.size = w.heap.size + 1 + 1 := by rw [hW2]; simp [sW1]
 rw [← hW2]
 clear hW2
 obtain ⟨W3, hW3⟩ : ∃ v, v = World.alloc W2 (Obj.cells #[.int .u8 x0, .int .u8 x1] 46) := ⟨_, rfl⟩
 have kW3 : Below W2.heap.size W2 W3 := by rw [hW3]; exact below_new _ _
 have iW3 : Blk W3 (w.heap.size + 1 + 1) 46 [.int .u8 x0, .int .u8 x1] := by rw [hW3, ← sW2]; exact Blk.new _ _ _
 have sW3 : W3.heap.size = w.heap.size + 1 + 1 + 1 := by rw [hW3]; simp [sW2]
 rw [← hW3]
 clear hW3
 have i3 := iW1.carry (bthen kW2 kW3)
 have i4 := iW2.carry kW3
 have i5 := iW3
 have k3 := bthen kW1 (bthen kW2 kW3)
 clear iW1 iW2 iW3 kW1 kW2 kW3 sW1 sW2 sW3
 generalize w.heap.size + 1 + 1 = B5 at i5 ⊢
 generalize w.heap.size + 1 = B4 at i4 ⊢
 have I3 := Lib.hid i3
 have I4 := Lib.hid i4
 have I5 := Lib.hid i5
 have K3 := Lib.hid k3
 have c30 := i3.cell (j := 0) (v := .int .i64 ca) rfl
 have c31 := i3.cell (j := 1) (v := .slice a1 N p1) rfl
 have c40 := i4.cell (j := 0) (v := .int .i64 cb) rfl
 have c41 := i4.cell (j := 1) (v := .slice a2 M p2) rfl
 clear i3 i4 i5 k3
 cases s1 with
 | false =>
   refine wp_region_E 99 (by kernel_rfl) ?_
   obtain ⟨wz, hwz⟩ : ∃ v, v = W3.drew := ⟨_, rfl⟩
   rw [← hwz]
   have hlz : Below W3.heap.size W3 wz := by rw [hwz]; exact (Below.refl _ _).drew
   have hbz := bthen (Below.refl _ _) hlz
   have c30 := cellb c30 hlz
   have c31 := cellb c31 hlz
   have c40 := cellb c40 hlz
   have c41 := cellb c41 hlz
   clear hwz hlz
   refine zC 0 ⟨some 36, .call ⟨.value (.func 5), #[], #[]⟩, 4, "law.go:340", #[], none⟩ (fun w hE => TA.out w (HP.out.carry (bthen K3.out (bthen hbz hE))) (HH.out.carry (bthen K3.out (bthen hbz hE)))) rfl (by rfl) (fun w hE => by (try dsimp only); go_simp) ?_
   try simp only [Act.put, zS]
   refine zT 1 ⟨some 37, .unOp .not 4 (.tmp 36), 4, "law.go:340", #[⟨0, .data⟩], none⟩ (v := ?_) rfl (Or.inl ⟨by rfl, ?_⟩) ?_
   rotate_left
   ·(intro w hE; have c30 := cellb c30 hE; have c31 := cellb c31 hE; have c40 := cellb c40 hE; have c41 := cellb c41 hE; (try dsimp only); go_simp); (try with_reducible rfl)
   try simp only [Act.put, zS]
   refine zT 2 ⟨some 38, .move (.tmp 37), 4, "law.go:340", #[⟨1, .data⟩, ⟨0, .chain⟩], none⟩ (v := ?_) rfl (Or.inl ⟨by rfl, ?_⟩) ?_
   rotate_left
   ·(intro w hE; have c30 := cellb c30 hE; have c31 := cellb c31 hE; have c40 := cellb c40 hE; have c41 := cellb c41 hE; (try dsimp only); go_simp); (try with_reducible rfl)
   try simp only [Act.put, zS]
   refine zT 3 ⟨some 39, .fieldAddr 34 (.tmp 3) 1, 0, "law.go:340", #[⟨2, .guard⟩], some (2, false)⟩ (v := ?_) rfl (Or.inl ⟨by rfl, ?_⟩) ?_
   rotate_left
   ·(intro w hE; have c30 := cellb c30 hE; have c31 := cellb c31 hE; have c40 := cellb c40 hE; have c41 := cellb c41 hE; (try dsimp only); go_simp); (try with_reducible rfl)
   try simp only [Act.put, zS]
   refine zT 4 ⟨some 40, .load 32 (.tmp 39), 32, "law.go:340", #[⟨3, .data⟩, ⟨2, .guard⟩], some (2, false)⟩ (v := ?_) rfl (Or.inl ⟨by rfl, ?_⟩) ?_
   rotate_left
   ·(intro w hE; have c30 := cellb c30 hE; have c31 := cellb c31 hE; have c40 := cellb c40 hE; have c41 := cellb c41 hE; (try dsimp only); go_simp); (try with_reducible rfl)
   try simp only [Act.put, zS]
   refine zC 5 ⟨some 41, .call ⟨.value (.func 15), #[.tmp 40], #[32]⟩, 4, "law.go:340", #[⟨4, .data⟩, ⟨2, .chain⟩, ⟨2, .guard⟩], some (2, false)⟩ (fun w hE => ofPure (T1.out w)) rfl (by rfl) (fun w hE => by (try dsimp only); go_simp) ?_
   try simp only [Act.put, zS]
   refine zT 6 ⟨some 42, .unOp .not 4 (.tmp 41), 4, "law.go:340", #[⟨5, .data⟩, ⟨2, .guard⟩], some (2, false)⟩ (v := ?_) rfl (Or.inl ⟨by rfl, ?_⟩) ?_
   rotate_left
   ·(intro w hE; have c30 := cellb c30 hE; have c31 := cellb c31 hE; have c40 := cellb c40 hE; have c41 := cellb c41 hE; (try dsimp only); go_simp); (try with_reducible rfl)
   try simp only [Act.put, zS]
   refine zT 7 ⟨some 43, .pick (.tmp 38) (.const (.bool true)) (.tmp 42), 4, "law.go:340", #[⟨2, .data⟩, ⟨6, .data⟩], none⟩ (v := ?_) rfl (Or.inl ⟨by rfl, ?_⟩) ?_
   rotate_left
   ·(intro w hE; have c30 := cellb c30 hE; have c31 := cellb c31 hE; have c40 := cellb c40 hE; have c41 := cellb c41 hE; (try dsimp only); go_simp); (try with_reducible rfl)
   try simp only [Act.put, zS]
   refine zT 8 ⟨some 44, .move (.tmp 43), 4, "law.go:340", #[⟨7, .data⟩, ⟨5, .chain⟩], none⟩ (v := ?_) rfl (Or.inl ⟨by rfl, ?_⟩) ?_
   rotate_left
   ·(intro w hE; have c30 := cellb c30 hE; have c31 := cellb c31 hE; have c40 := cellb c40 hE; have c41 := cellb c41 hE; (try dsimp only); go_simp); (try with_reducible rfl)
   try simp only [Act.put, zS]
   refine zT 9 ⟨some 45, .fieldAddr 34 (.tmp 4) 1, 0, "law.go:340", #[⟨8, .guard⟩], some (8, false)⟩ (v := undef) rfl (Or.inr (Or.inr ⟨by rfl, rfl⟩)) ?_
   try simp only [Act.put, zS]
   refine zT 10 ⟨some 46, .load 32 (.tmp 45), 32, "law.go:340", #[⟨9, .data⟩, ⟨8, .guard⟩], some (8, false)⟩ (v := undef) rfl (Or.inr (Or.inr ⟨by rfl, rfl⟩)) ?_
   try simp only [Act.put, zS]
   refine zT 11 ⟨some 47, .call ⟨.value (.func 15), #[.tmp 46], #[32]⟩, 4, "law.go:340", #[⟨10, .data⟩, ⟨8, .chain⟩, ⟨8, .guard⟩], some (8, false)⟩ (v := undef) rfl (Or.inr (Or.inr ⟨by rfl, rfl⟩)) ?_
   try simp only [Act.put, zS]
   refine zT 12 ⟨some 48, .unOp .not 4 (.tmp 47), 4, "law.go:340", #[⟨11, .data⟩, ⟨8, .guard⟩], some (8, false)⟩ (v := undef) rfl (Or.inr (Or.inr ⟨by rfl, rfl⟩)) ?_
   try simp only [Act.put, zS]
   refine zT 13 ⟨some 49, .pick (.tmp 44) (.const (.bool true)) (.tmp 48), 4, "law.go:340", #[⟨8, .data⟩, ⟨12, .data⟩], none⟩ (v := ?_) rfl (Or.inl ⟨by rfl, ?_⟩) ?_
   rotate_left
   ·(intro w hE; have c30 := cellb c30 hE; have c31 := cellb c31 hE; have c40 := cellb c40 hE; have c41 := cellb c41 hE; (try dsimp only); go_simp); (try with_reducible rfl)
   try simp only [Act.put, zS]
   refine zT 14 ⟨some 50, .move (.tmp 49), 4, "law.go:340", #[⟨13, .data⟩, ⟨11, .chain⟩], none⟩ (v := ?_) rfl (Or.inl ⟨by rfl, ?_⟩) ?_
   rotate_left
   ·(intro w hE; have c30 := cellb c30 hE; have c31 := cellb c31 hE; have c40 := cellb c40 hE; have c41 := cellb c41 hE; (try dsimp only); go_simp); (try with_reducible rfl)
   try simp only [Act.put, zS]
   refine zT 15 ⟨some 51, .load 34 (.tmp 3), 34, "law.go:340", #[⟨14, .guard⟩], some (14, false)⟩ (v := undef) rfl (Or.inr (Or.inr ⟨by rfl, rfl⟩)) ?_
   try simp only [Act.put, zS]
   refine zT 16 ⟨some 52, .call ⟨.value (.func 17), #[.tmp 51], #[34]⟩, 3, "law.go:340", #[⟨15, .data⟩, ⟨14, .chain⟩, ⟨14, .guard⟩], some (14, false)⟩ (v := undef) rfl (Or.inr (Or.inr ⟨by rfl, rfl⟩)) ?_
   try simp only [Act.put, zS]
   refine zT 17 ⟨some 53, .load 34 (.tmp 4), 34, "law.go:340", #[⟨14, .guard⟩], some (14, false)⟩ (v := undef) rfl (Or.inr (Or.inr ⟨by rfl, rfl⟩)) ?_
   try simp only [Act.put, zS]
   refine zT 18 ⟨some 54, .call ⟨.value (.func 17), #[.tmp 53], #[34]⟩, 3, "law.go:340", #[⟨17, .data⟩, ⟨16, .chain⟩, ⟨14, .guard⟩], some (14, false)⟩ (v := undef) rfl (Or.inr (Or.inr ⟨by rfl, rfl⟩)) ?_
   try simp only [Act.put, zS]
   refine zT 19 ⟨some 55, .buildSlice 35 2 #[(0, .tmp 52), (1, .tmp 54)], 35, "law.go:340", #[⟨16, .data⟩, ⟨18, .data⟩, ⟨14, .guard⟩], some (14, false)⟩ (v := undef) rfl (Or.inr (Or.inr ⟨by rfl, rfl⟩)) ?_
   try simp only [Act.put, zS]
   refine zT 20 ⟨some 56, .call ⟨.value (.func 16), #[.tmp 55], #[35]⟩, 3, "law.go:340", #[⟨19, .data⟩, ⟨18, .chain⟩, ⟨14, .guard⟩], some (14, false)⟩ (v := undef) rfl (Or.inr (Or.inr ⟨by rfl, rfl⟩)) ?_
   try simp only [Act.put, zS]
   refine zT 21 ⟨some 57, .binOp .neq 3 (.tmp 56) (.const (.int .i64 0)) 3, 4, "law.go:340", #[⟨20, .data⟩, ⟨14, .guard⟩], some (14, false)⟩ (v := undef) rfl (Or.inr (Or.inr ⟨by rfl, rfl⟩)) ?_
   try simp only [Act.put, zS]
   refine zT 22 ⟨some 58, .pick (.tmp 50) (.const (.bool true)) (.tmp 57), 4, "law.go:340", #[⟨14, .data⟩, ⟨21, .data⟩], none⟩ (v := ?_) rfl (Or.inl ⟨by rfl, ?_⟩) ?_
   rotate_left
   ·(intro w hE; have c30 := cellb c30 hE; have c31 := cellb c31 hE; have c40 := cellb c40 hE; have c41 := cellb c41 hE; (try dsimp only); go_simp); (try with_reducible rfl)
   try simp only [Act.put, zS]
   refine wpAnyE_done (by kernel_rfl) (fun wy1 hE => ?_) _
   have hbz1 := bthen hbz hE
   have c30 := cellb c30 hE
   have c31 := cellb c31 hE
   have c40 := cellb c40 hE
   have c41 := cellb c41 hE
   clear hE
   have hb := hbz1
   obtain ⟨W4, hW4⟩ : ∃ v, v = wy1 := ⟨_, rfl⟩
   rw [← hW4] at hb ⊢
   clear hW4
   rename_i W4
   clear c30 c31 c40 c41
   go_wp2_with fail
   refine (TA.out W4 (HP.out.carry (bthen K3.out hb)) (HH.out.carry (bthen K3.out hb))).mono ?_
   rintro e w2 ⟨rfl, hb2⟩
   go_wp2
   go_ret
   exact ⟨rfl, bthen K3.out (bthen hb hb2)⟩
 | true =>
   cases s2 with
   | false =>
     refine wp_region_E 99 (by kernel_rfl) ?_
     obtain ⟨wz, hwz⟩ : ∃ v, v = W3.drew := ⟨_, rfl⟩
     rw [← hwz]
     have hlz : Below W3.heap.size W3 wz := by rw [hwz]; exact (Below.refl _ _).drew
     have hbz := bthen (Below.refl _ _) hlz
     have c30 := cellb c30 hlz
     have c31 := cellb c31 hlz
     have c40 := cellb c40 hlz
     have c41 := cellb c41 hlz
     clear hwz hlz
     refine zC 0 ⟨some 36, .call ⟨.value (.func 5), #[], #[]⟩, 4, "law.go:340", #[], none⟩ (fun w hE => TA.out w (HP.out.carry (bthen K3.out (bthen hbz hE))) (HH.out.carry (bthen K3.out (bthen hbz hE)))) rfl (by rfl) (fun w hE => by (try dsimp only); go_simp) ?_
     try simp only [Act.put, zS]
     refine zT 1 ⟨some 37, .unOp .not 4 (.tmp 36), 4, "law.go:340", #[⟨0, .data⟩], none⟩ (v := ?_) rfl (Or.inl ⟨by rfl, ?_⟩) ?_
     rotate_left
     ·(intro w hE; have c30 := cellb c30 hE; have c31 := cellb c31 hE; have c40 := cellb c40 hE; have c41 := cellb c41 hE; (try dsimp only); go_simp); (try with_reducible rfl)
     try simp only [Act.put, zS]
     refine zT 2 ⟨some 38, .move (.tmp 37), 4, "law.go:340", #[⟨1, .data⟩, ⟨0, .chain⟩], none⟩ (v := ?_) rfl (Or.inl ⟨by rfl, ?_⟩) ?_
     rotate_left
     ·(intro w hE; have c30 := cellb c30 hE; have c31 := cellb c31 hE; have c40 := cellb c40 hE; have c41 := cellb c41 hE; (try dsimp only); go_simp); (try with_reducible rfl)
     try simp only [Act.put, zS]
     refine zT 3 ⟨some 39, .fieldAddr 34 (.tmp 3) 1, 0, "law.go:340", #[⟨2, .guard⟩], some (2, false)⟩ (v := ?_) rfl (Or.inl ⟨by rfl, ?_⟩) ?_
     rotate_left
     ·(intro w hE; have c30 := cellb c30 hE; have c31 := cellb c31 hE; have c40 := cellb c40 hE; have c41 := cellb c41 hE; (try dsimp only); go_simp); (try with_reducible rfl)
     try simp only [Act.put, zS]
     refine zT 4 ⟨some 40, .load 32 (.tmp 39), 32, "law.go:340", #[⟨3, .data⟩, ⟨2, .guard⟩], some (2, false)⟩ (v := ?_) rfl (Or.inl ⟨by rfl, ?_⟩) ?_
     rotate_left
     ·(intro w hE; have c30 := cellb c30 hE; have c31 := cellb c31 hE; have c40 := cellb c40 hE; have c41 := cellb c41 hE; (try dsimp only); go_simp); (try with_reducible rfl)
     try simp only [Act.put, zS]
     refine zC 5 ⟨some 41, .call ⟨.value (.func 15), #[.tmp 40], #[32]⟩, 4, "law.go:340", #[⟨4, .data⟩, ⟨2, .chain⟩, ⟨2, .guard⟩], some (2, false)⟩ (fun w hE => ofPure (T1.out w)) rfl (by rfl) (fun w hE => by (try dsimp only); go_simp) ?_
     try simp only [Act.put, zS]
     refine zT 6 ⟨some 42, .unOp .not 4 (.tmp 41), 4, "law.go:340", #[⟨5, .data⟩, ⟨2, .guard⟩], some (2, false)⟩ (v := ?_) rfl (Or.inl ⟨by rfl, ?_⟩) ?_
     rotate_left
     ·(intro w hE; have c30 := cellb c30 hE; have c31 := cellb c31 hE; have c40 := cellb c40 hE; have c41 := cellb c41 hE; (try dsimp only); go_simp); (try with_reducible rfl)
     try simp only [Act.put, zS]
     refine zT 7 ⟨some 43, .pick (.tmp 38) (.const (.bool true)) (.tmp 42), 4, "law.go:340", #[⟨2, .data⟩, ⟨6, .data⟩], none⟩ (v := ?_) rfl (Or.inl ⟨by rfl, ?_⟩) ?_
     rotate_left
     ·(intro w hE; have c30 := cellb c30 hE; have c31 := cellb c31 hE; have c40 := cellb c40 hE; have c41 := cellb c41 hE; (try dsimp only); go_simp); (try with_reducible rfl)
     try simp only [Act.put, zS]
     refine zT 8 ⟨some 44, .move (.tmp 43), 4, "law.go:340", #[⟨7, .data⟩, ⟨5, .chain⟩], none⟩ (v := ?_) rfl (Or.inl ⟨by rfl, ?_⟩) ?_
     rotate_left
     ·(intro w hE; have c30 := cellb c30 hE; have c31 := cellb c31 hE; have c40 := cellb c40 hE; have c41 := cellb c41 hE; (try dsimp only); go_simp); (try with_reducible rfl)
     try simp only [Act.put, zS]
     refine zT 9 ⟨some 45, .fieldAddr 34 (.tmp 4) 1, 0, "law.go:340", #[⟨8, .guard⟩], some (8, false)⟩ (v := ?_) rfl (Or.inl ⟨by rfl, ?_⟩) ?_
     rotate_left
     ·(intro w hE; have c30 := cellb c30 hE; have c31 := cellb c31 hE; have c40 := cellb c40 hE; have c41 := cellb c41 hE; (try dsimp only); go_simp); (try with_reducible rfl)
     try simp only [Act.put, zS]
     refine zT 10 ⟨some 46, .load 32 (.tmp 45), 32, "law.go:340", #[⟨9, .data⟩, ⟨8, .guard⟩], some (8, false)⟩ (v := ?_) rfl (Or.inl ⟨by rfl, ?_⟩) ?_
     rotate_left
     ·(intro w hE; have c30 := cellb c30 hE; have c31 := cellb c31 hE; have c40 := cellb c40 hE; have c41 := cellb c41 hE; (try dsimp only); go_simp); (try with_reducible rfl)
     try simp only [Act.put, zS]
     refine zC 11 ⟨some 47, .call ⟨.value (.func 15), #[.tmp 46], #[32]⟩, 4, "law.go:340", #[⟨10, .data⟩, ⟨8, .chain⟩, ⟨8, .guard⟩], some (8, false)⟩ (fun w hE => ofPure (T2.out w)) rfl (by rfl) (fun w hE => by (try dsimp only); go_simp) ?_
     try simp only [Act.put, zS]
     refine zT 12 ⟨some 48, .unOp .not 4 (.tmp 47), 4, "law.go:340", #[⟨11, .data⟩, ⟨8, .guard⟩], some (8, false)⟩ (v := ?_) rfl (Or.inl ⟨by rfl, ?_⟩) ?_
     rotate_left
     ·(intro w hE; have c30 := cellb c30 hE; have c31 := cellb c31 hE; have c40 := cellb c40 hE; have c41 := cellb c41 hE; (try dsimp only); go_simp); (try with_reducible rfl)
     try simp only [Act.put, zS]
     refine zT 13 ⟨some 49, .pick (.tmp 44) (.const (.bool true)) (.tmp 48), 4, "law.go:340", #[⟨8, .data⟩, ⟨12, .data⟩], none⟩ (v := ?_) rfl (Or.inl ⟨by rfl, ?_⟩) ?_
     rotate_left
     ·(intro w hE; have c30 := cellb c30 hE; have c31 := cellb c31 hE; have c40 := cellb c40 hE; have c41 := cellb c41 hE; (try dsimp only); go_simp); (try with_reducible rfl)
     try simp only [Act.put, zS]
     refine zT 14 ⟨some 50, .move (.tmp 49), 4, "law.go:340", #[⟨13, .data⟩, ⟨11, .chain⟩], none⟩ (v := ?_) rfl (Or.inl ⟨by rfl, ?_⟩) ?_
     rotate_left
     ·(intro w hE; have c30 := cellb c30 hE; have c31 := cellb c31 hE; have c40 := cellb c40 hE; have c41 := cellb c41 hE; (try dsimp only); go_simp); (try with_reducible rfl)
     try simp only [Act.put, zS]
     refine zT 15 ⟨some 51, .load 34 (.tmp 3), 34, "law.go:340", #[⟨14, .guard⟩], some (14, false)⟩ (v := undef) rfl (Or.inr (Or.inr ⟨by rfl, rfl⟩)) ?_
     try simp only [Act.put, zS]
     refine zT 16 ⟨some 52, .call ⟨.value (.func 17), #[.tmp 51], #[34]⟩, 3, "law.go:340", #[⟨15, .data⟩, ⟨14, .chain⟩, ⟨14, .guard⟩], some (14, false)⟩ (v := undef) rfl (Or.inr (Or.inr ⟨by rfl, rfl⟩)) ?_
     try simp only [Act.put, zS]
     refine zT 17 ⟨some 53, .load 34 (.tmp 4), 34, "law.go:340", #[⟨14, .guard⟩], some (14, false)⟩ (v := undef) rfl (Or.inr (Or.inr ⟨by rfl, rfl⟩)) ?_
     try simp only [Act.put, zS]
     refine zT 18 ⟨some 54, .call ⟨.value (.func 17), #[.tmp 53], #[34]⟩, 3, "law.go:340", #[⟨17, .data⟩, ⟨16, .chain⟩, ⟨14, .guard⟩], some (14, false)⟩ (v := undef) rfl (Or.inr (Or.inr ⟨by rfl, rfl⟩)) ?_
     try simp only [Act.put, zS]
     refine zT 19 ⟨some 55, .buildSlice 35 2 #[(0, .tmp 52), (1, .tmp 54)], 35, "law.go:340", #[⟨16, .data⟩, ⟨18, .data⟩, ⟨14, .guard⟩], some (14, false)⟩ (v := undef) rfl (Or.inr (Or.inr ⟨by rfl, rfl⟩)) ?_
     try simp only [Act.put, zS]
     refine zT 20 ⟨some 56, .call ⟨.value (.func 16), #[.tmp 55], #[35]⟩, 3, "law.go:340", #[⟨19, .data⟩, ⟨18, .chain⟩, ⟨14, .guard⟩], some (14, false)⟩ (v := undef) rfl (Or.inr (Or.inr ⟨by rfl, rfl⟩)) ?_
     try simp only [Act.put, zS]
     refine zT 21 ⟨some 57, .binOp .neq 3 (.tmp 56) (.const (.int .i64 0)) 3, 4, "law.go:340", #[⟨20, .data⟩, ⟨14, .guard⟩], some (14, false)⟩ (v := undef) rfl (Or.inr (Or.inr ⟨by rfl, rfl⟩)) ?_
     try simp only [Act.put, zS]
     refine zT 22 ⟨some 58, .pick (.tmp 50) (.const (.bool true)) (.tmp 57), 4, "law.go:340", #[⟨14, .data⟩, ⟨21, .data⟩], none⟩ (v := ?_) rfl (Or.inl ⟨by rfl, ?_⟩) ?_
     rotate_left
     ·(intro w hE; have c30 := cellb c30 hE; have c31 := cellb c31 hE; have c40 := cellb c40 hE; have c41 := cellb c41 hE; (try dsimp only); go_simp); (try with_reducible rfl)
     try simp only [Act.put, zS]
     refine wpAnyE_done (by kernel_rfl) (fun wy1 hE => ?_) _
     have hbz1 := bthen hbz hE
     have c30 := cellb c30 hE
     have c31 := cellb c31 hE
     have c40 := cellb c40 hE
     have c41 := cellb c41 hE
     clear hE
     have hb := hbz1
     obtain ⟨W4, hW4⟩ : ∃ v, v = wy1 := ⟨_, rfl⟩
     rw [← hW4] at hb ⊢
     clear hW4
     rename_i W4
     clear c30 c31 c40 c41
     go_wp2_with fail
     refine (TA.out W4 (HP.out.carry (bthen K3.out hb)) (HH.out.carry (bthen K3.out hb))).mono ?_
     rintro e w2 ⟨rfl, hb2⟩
     go_wp2
     go_ret
     exact ⟨rfl, bthen K3.out (bthen hb hb2)⟩
   | true =>
     have hn := HL1.out (by trivial)
     have hm := HL2.out (by trivial)
     have HS1 := Lib.hid (HS1.out (by trivial))
     have HS2 := Lib.hid (HS2.out (by trivial))
     clear HL1 HL2
     have R1 := Lib.hid (fun W (h : Prs W (.slice a1 N p1) la) => CheckLogR_any ca a1 N p1 la W (by rw [← HN.out]; omega) h)
     have R2 := Lib.hid (fun W (h : Prs W (.slice a2 M p2) lb) => CheckLogR_any cb a2 M p2 lb W (by rw [← HM.out]; omega) h)
     have L1 := Lib.hid (fun W (h : Prs W (.slice a1 N p1) la) => logL_any ca a1 N p1 la W (by rw [← HN.out]; omega) h)
     have L2 := Lib.hid (fun W (h : Prs W (.slice a2 M p2) lb) => logL_any cb a2 M p2 lb W (by rw [← HM.out]; omega) h)
     have TP := Lib.hid (fun W (h : Prs W (.slice a1 N p1) la) => pulses_any (.slice a1 N p1) la W (by rw [← HN.out]; omega) h)
     obtain ⟨e1, he1⟩ : ∃ e, e = logE ca la := ⟨_, rfl⟩
     obtain ⟨e2, he2⟩ : ∃ e, e = logE cb lb := ⟨_, rfl⟩
     obtain ⟨E, hE⟩ : ∃ e, e = firstE [e1, e2] := ⟨_, rfl⟩
     have F1 := Lib.hid (fun u W (h : Ints W u [e1, e2]) => firstL7_any u [e1, e2] W (by simp) h)
     rw [← hE] at F1
     rw [← he1] at R1
     rw [← he2] at R2
     have HE1 := Lib.hid he1
     have HE2 := Lib.hid he2
     have HE := Lib.hid hE
     have hA := HA.out.carry K3.out
     have hB := HB.out.carry K3.out
     clear he1 he2 hE
     refine wp_region_E 99 (by kernel_rfl) ?_
     obtain ⟨wz, hwz⟩ : ∃ v, v = W3.drew := ⟨_, rfl⟩
     rw [← hwz]
     have hlz : Below W3.heap.size W3 wz := by rw [hwz]; exact (Below.refl _ _).drew
     have hbz := bthen (Below.refl _ _) hlz
     have c30 := cellb c30 hlz
     have c31 := cellb c31 hlz
     have c40 := cellb c40 hlz
     have c41 := cellb c41 hlz
     have hA := hA.carry hlz
     have hB := hB.carry hlz
     clear hwz hlz
     refine zC 0 ⟨some 36, .call ⟨.value (.func 5), #[], #[]⟩, 4, "law.go:340", #[], none⟩ (fun w hE => TA.out w (HP.out.carry (bthen K3.out (bthen hbz hE))) (HH.out.carry (bthen K3.out (bthen hbz hE)))) rfl (by rfl) (fun w hE => by (try dsimp only); go_simp) ?_
     try simp only [Act.put, zS]
     refine zT 1 ⟨some 37, .unOp .not 4 (.tmp 36), 4, "law.go:340", #[⟨0, .data⟩], none⟩ (v := ?_) rfl (Or.inl ⟨by rfl, ?_⟩) ?_
     rotate_left
     ·(intro w hE; have c30 := cellb c30 hE; have c31 := cellb c31 hE; have c40 := cellb c40 hE; have c41 := cellb c41 hE; (try dsimp only); go_simp); (try with_reducible rfl)
     try simp only [Act.put, zS]
     refine zT 2 ⟨some 38, .move (.tmp 37), 4, "law.go:340", #[⟨1, .data⟩, ⟨0, .chain⟩], none⟩ (v := ?_) rfl (Or.inl ⟨by rfl, ?_⟩) ?_
     rotate_left
     ·(intro w hE; have c30 := cellb c30 hE; have c31 := cellb c31 hE; have c40 := cellb c40 hE; have c41 := cellb c41 hE; (try dsimp only); go_simp); (try with_reducible rfl)
     try simp only [Act.put, zS]
     refine zT 3 ⟨some 39, .fieldAddr 34 (.tmp 3) 1, 0, "law.go:340", #[⟨2, .guard⟩], some (2, false)⟩ (v := ?_) rfl (Or.inl ⟨by rfl, ?_⟩) ?_
     rotate_left
     ·(intro w hE; have c30 := cellb c30 hE; have c31 := cellb c31 hE; have c40 := cellb c40 hE; have c41 := cellb c41 hE; (try dsimp only); go_simp); (try with_reducible rfl)
     try simp only [Act.put, zS]
     refine zT 4 ⟨some 40, .load 32 (.tmp 39), 32, "law.go:340", #[⟨3, .data⟩, ⟨2, .guard⟩], some (2, false)⟩ (v := ?_) rfl (Or.inl ⟨by rfl, ?_⟩) ?_
     rotate_left
     ·(intro w hE; have c30 := cellb c30 hE; have c31 := cellb c31 hE; have c40 := cellb c40 hE; have c41 := cellb c41 hE; (try dsimp only); go_simp); (try with_reducible rfl)
     try simp only [Act.put, zS]
     refine zC 5 ⟨some 41, .call ⟨.value (.func 15), #[.tmp 40], #[32]⟩, 4, "law.go:340", #[⟨4, .data⟩, ⟨2, .chain⟩, ⟨2, .guard⟩], some (2, false)⟩ (fun w hE => ofPure (T1.out w)) rfl (by rfl) (fun w hE => by (try dsimp only); go_simp) ?_
     try simp only [Act.put, zS]
     refine zT 6 ⟨some 42, .unOp .not 4 (.tmp 41), 4, "law.go:340", #[⟨5, .data⟩, ⟨2, .guard⟩], some (2, false)⟩ (v := ?_) rfl (Or.inl ⟨by rfl, ?_⟩) ?_
     rotate_left
     ·(intro w hE; have c30 := cellb c30 hE; have c31 := cellb c31 hE; have c40 := cellb c40 hE; have c41 := cellb c41 hE; (try dsimp only); go_simp); (try with_reducible rfl)
     try simp only [Act.put, zS]
     refine zT 7 ⟨some 43, .pick (.tmp 38) (.const (.bool true)) (.tmp 42), 4, "law.go:340", #[⟨2, .data⟩, ⟨6, .data⟩], none⟩ (v := ?_) rfl (Or.inl ⟨by rfl, ?_⟩) ?_
     rotate_left
     ·(intro w hE; have c30 := cellb c30 hE; have c31 := cellb c31 hE; have c40 := cellb c40 hE; have c41 := cellb c41 hE; (try dsimp only); go_simp); (try with_reducible rfl)
     try simp only [Act.put, zS]
     refine zT 8 ⟨some 44, .move (.tmp 43), 4, "law.go:340", #[⟨7, .data⟩, ⟨5, .chain⟩], none⟩ (v := ?_) rfl (Or.inl ⟨by rfl, ?_⟩) ?_
     rotate_left
     ·(intro w hE; have c30 := cellb c30 hE; have c31 := cellb c31 hE; have c40 := cellb c40 hE; have c41 := cellb c41 hE; (try dsimp only); go_simp); (try with_reducible rfl)
     try simp only [Act.put, zS]
     refine zT 9 ⟨some 45, .fieldAddr 34 (.tmp 4) 1, 0, "law.go:340", #[⟨8, .guard⟩], some (8, false)⟩ (v := ?_) rfl (Or.inl ⟨by rfl, ?_⟩) ?_
     rotate_left
     ·(intro w hE; have c30 := cellb c30 hE; have c31 := cellb c31 hE; have c40 := cellb c40 hE; have c41 := cellb c41 hE; (try dsimp only); go_simp); (try with_reducible rfl)
     try simp only [Act.put, zS]
     refine zT 10 ⟨some 46, .load 32 (.tmp 45), 32, "law.go:340", #[⟨9, .data⟩, ⟨8, .guard⟩], some (8, false)⟩ (v := ?_) rfl (Or.inl ⟨by rfl, ?_⟩) ?_
     rotate_left
     ·(intro w hE; have c30 := cellb c30 hE; have c31 := cellb c31 hE; have c40 := cellb c40 hE; have c41 := cellb c41 hE; (try dsimp only); go_simp); (try with_reducible rfl)
     try simp only [Act.put, zS]
     refine zC 11 ⟨some 47, .call ⟨.value (.func 15), #[.tmp 46], #[32]⟩, 4, "law.go:340", #[⟨10, .data⟩, ⟨8, .chain⟩, ⟨8, .guard⟩], some (8, false)⟩ (fun w hE => ofPure (T2.out w)) rfl (by rfl) (fun w hE => by (try dsimp only); go_simp) ?_
     try simp only [Act.put, zS]
     refine zT 12 ⟨some 48, .unOp .not 4 (.tmp 47), 4, "law.go:340", #[⟨11, .data⟩, ⟨8, .guard⟩], some (8, false)⟩ (v := ?_) rfl (Or.inl ⟨by rfl, ?_⟩) ?_
     rotate_left
     ·(intro w hE; have c30 := cellb c30 hE; have c31 := cellb c31 hE; have c40 := cellb c40 hE; have c41 := cellb c41 hE; (try dsimp only); go_simp); (try with_reducible rfl)
     try simp only [Act.put, zS]
     refine zT 13 ⟨some 49, .pick (.tmp 44) (.const (.bool true)) (.tmp 48), 4, "law.go:340", #[⟨8, .data⟩, ⟨12, .data⟩], none⟩ (v := ?_) rfl (Or.inl ⟨by rfl, ?_⟩) ?_
     rotate_left
     ·(intro w hE; have c30 := cellb c30 hE; have c31 := cellb c31 hE; have c40 := cellb c40 hE; have c41 := cellb c41 hE; (try dsimp only); go_simp); (try with_reducible rfl)
     try simp only [Act.put, zS]
     refine zT 14 ⟨some 50, .move (.tmp 49), 4, "law.go:340", #[⟨13, .data⟩, ⟨11, .chain⟩], none⟩ (v := ?_) rfl (Or.inl ⟨by rfl, ?_⟩) ?_
     rotate_left
     ·(intro w hE; have c30 := cellb c30 hE; have c31 := cellb c31 hE; have c40 := cellb c40 hE; have c41 := cellb c41 hE; (try dsimp only); go_simp); (try with_reducible rfl)
     try simp only [Act.put, zS]
     refine zT 15 ⟨some 51, .load 34 (.tmp 3), 34, "law.go:340", #[⟨14, .guard⟩], some (14, false)⟩ (v := ?_) rfl (Or.inl ⟨by rfl, ?_⟩) ?_
     rotate_left
     ·(intro w hE; have c30 := cellb c30 hE; have c31 := cellb c31 hE; have c40 := cellb c40 hE; have c41 := cellb c41 hE; (try dsimp only); go_simp); (try with_reducible rfl)
     try simp only [Act.put, zS]
     refine zT 17 ⟨some 53, .load 34 (.tmp 4), 34, "law.go:340", #[⟨14, .guard⟩], some (14, false)⟩ (v := ?_) rfl (Or.inl ⟨by rfl, ?_⟩) ?_
     rotate_left
     ·(intro w hE; have c30 := cellb c30 hE; have c31 := cellb c31 hE; have c40 := cellb c40 hE; have c41 := cellb c41 hE; (try dsimp only); go_simp); (try with_reducible rfl)
     try simp only [Act.put, zS]
     refine zC 16 ⟨some 52, .call ⟨.value (.func 17), #[.tmp 51], #[34]⟩, 3, "law.go:340", #[⟨15, .data⟩, ⟨14, .chain⟩, ⟨14, .guard⟩], some (14, false)⟩ (fun w hE => R1.out w (hA.carry hE)) rfl (by rfl) (fun w hE => by (try dsimp only); go_simp) ?_
     try simp only [Act.put, zS]
     refine zC 18 ⟨some 54, .call ⟨.value (.func 17), #[.tmp 53], #[34]⟩, 3, "law.go:340", #[⟨17, .data⟩, ⟨16, .chain⟩, ⟨14, .guard⟩], some (14, false)⟩ (fun w hE => R2.out w (hB.carry hE)) rfl (by rfl) (fun w hE => by (try dsimp only); go_simp) ?_
     try simp only [Act.put, zS]
     refine wpAnyE_one (i := 19) (o := ⟨some 55, .buildSlice 35 2 #[(0, .tmp 52), (1, .tmp 54)], 35, "law.go:340", #[⟨16, .data⟩, ⟨18, .data⟩, ⟨14, .guard⟩], some (14, false)⟩) (by kernel_rfl) rfl (fun wy1 hE K hK => ?_)
     have c30 := cellb c30 hE
     have c31 := cellb c31 hE
     have c40 := cellb c40 hE
     have c41 := cellb c41 hE
     have hA := hA.carry hE
     have hB := hB.carry hE
     have hbz1 := bthen hbz hE
     clear hE
     go_simp
     obtain ⟨wx1, hwz⟩ : ∃ v, v = wy1.alloc (Obj.cells #[.int .i64 e1, .int .i64 e2] 3) := ⟨_, rfl⟩
     rw [← hwz]
     have hl : Below wy1.heap.size wy1 wx1 := by rw [hwz]; exact below_new _ _
     have hcz1 := bthen hbz1 hl
     have iN : BlkI wx1 wy1.heap.size 3 [e1, e2] := by rw [hwz]; exact Blk.new _ _ _
     generalize wy1.heap.size = G at iN ⊢
     have c30 := cellb c30 hl
     have c31 := cellb c31 hl
     have c40 := cellb c40 hl
     have c41 := cellb c41 hl
     have hA := hA.carry hl
     have hB := hB.carry hl
     clear hwz
     refine hK _ _ (fun _ => hl) ?_
     clear hK K hl
     try simp only [Act.put, zS]
     refine zC 20 ⟨some 56, .call ⟨.value (.func 16), #[.tmp 55], #[35]⟩, 3, "law.go:340", #[⟨19, .data⟩, ⟨18, .chain⟩, ⟨14, .guard⟩], some (14, false)⟩ (fun w hE => ofPure (F1.out _ w (BlkI.ints (l := [e1, e2]) (Blk.carry iN hE) rfl))) rfl (by rfl) (fun w hE => by (try dsimp only); go_simp) ?_
     try simp only [Act.put, zS]
     refine zT 21 ⟨some 57, .binOp .neq 3 (.tmp 56) (.const (.int .i64 0)) 3, 4, "law.go:340", #[⟨20, .data⟩, ⟨14, .guard⟩], some (14, false)⟩ (v := ?_) rfl (Or.inl ⟨by rfl, ?_⟩) ?_
     rotate_left
     ·(intro w hE; have c30 := cellb c30 hE; have c31 := cellb c31 hE; have c40 := cellb c40 hE; have c41 := cellb c41 hE; (try dsimp only); go_simp); (try with_reducible rfl)
     try simp only [Act.put, zS]
     refine zT 22 ⟨some 58, .pick (.tmp 50) (.const (.bool true)) (.tmp 57), 4, "law.go:340", #[⟨14, .data⟩, ⟨21, .data⟩], none⟩ (v := ?_) rfl (Or.inl ⟨by rfl, ?_⟩) ?_
     rotate_left
     ·(intro w hE; have c30 := cellb c30 hE; have c31 := cellb c31 hE; have c40 := cellb c40 hE; have c41 := cellb c41 hE; (try dsimp only); go_simp); (try with_reducible rfl)
     try simp only [Act.put, zS]
     refine wpAnyE_done (by kernel_rfl) (fun wy2 hE => ?_) _
     have hbz2 := bthen hcz1 hE
     have c30 := cellb c30 hE
     have c31 := cellb c31 hE
     have c40 := cellb c40 hE
     have c41 := cellb c41 hE
     have hA := hA.carry hE
     have hB := hB.carry hE
     have iN := iN.carry hE
     clear hE
     have hb := hbz2
     obtain ⟨W4, hW4⟩ : ∃ v, v = wy2 := ⟨_, rfl⟩
     rw [← hW4] at hb ⊢
     clear hW4 iN
     rename_i W4
     clear c30 c31 c40 c41 hA hB R1 R2 T1 T2 F1
     by_cases hE0 : E = 0
     ·subst hE0
      clear TA HP HH
      have hee := HE.out.symm
      rw [firstE_cons0, firstE_cons0] at hee
      have HZ1 := Lib.hid (show logE ca la = 0 by rw [← HE1.out]; exact hee.1)
      have HZ2 := Lib.hid (show logE cb lb = 0 by rw [← HE2.out]; exact hee.2.1)
      have HK1 := Lib.hid (logE_ok HZ1.out)
      have HK2 := Lib.hid (logE_ok HZ2.out)
      have hN12 : N ≤ 12 := HS1.out (by have := HK1.out.2.len; have := HN.out; omega)
      have hM12 : M ≤ 12 := HS2.out (by have := HK2.out.2.len; have := HM.out; omega)
      obtain ⟨fr, hfr⟩ : ∃ z, z = x0 % 20 := ⟨_, rfl⟩
      obtain ⟨y1, hy1⟩ : ∃ z, z = x1 % 4 := ⟨_, rfl⟩
      obtain ⟨n, hn1⟩ : ∃ n : Nat, (n : Int) = 1 + y1 := ⟨(1 + y1).toNat, by omega⟩
      have hfrr : 0 ≤ fr ∧ fr ≤ 19 := by omega
      have hnr : 1 ≤ n ∧ n ≤ 4 := by omega
      have u0 : IntKind.i64.wrap x0 = x0 := IntWalk.i64_in _ (by have := HX0.out; omega)
      have u1 : IntKind.i64.wrap x1 = x1 := IntWalk.i64_in _ (by have := HX1.out; omega)
      have v0 : Int.tmod x0 20 = fr := by rw [hfr, Int.tmod_eq_emod_of_nonneg HX0.out.1]
      have v1 : Int.tmod x1 4 = y1 := by rw [hy1, Int.tmod_eq_emod_of_nonneg HX1.out.1]
      have v2 : x0 % 20 = fr := hfr.symm
      have v3 : x1 % 4 = y1 := hy1.symm
      have v4 : IntKind.i64.wrap (1 + y1) = (n : Int) := by rw [hn1]; exact IntWalk.i64_in _ (by omega)
      have c50 := (I5.out.carry hb).cell (j := 0) (v := .int .u8 x0) rfl
      have c51 := (I5.out.carry hb).cell (j := 1) (v := .int .u8 x1) rfl
      clear hfr hy1 hn1 hee HE
      go_upto_region 3 with fail
      go_cut [7, 8] from 60 to 68 (fun u7 u8 wn => u7 = .int .i64 fr ∧ ∃ G8, u8 = .pointer (some ⟨G8, 0, none⟩) ∧ Blk wn G8 3 [.int .i64 n] ∧ Below W4.heap.size W4 wn)
      case first =>
       refine wp_region_held_drew (S := (fun W => W.cell? ⟨B5, 0, none⟩ = some (.int .u8 x0) ∧ W.cell? ⟨B5, 1, none⟩ = some (.int .u8 x1))) (by kernel_rfl) ⟨cellb c50 (Below.refl _ _).drew, cellb c51 (Below.refl _ _).drew⟩ (fun hHeld0 => ?_)
       obtain ⟨wzd, hwz⟩ : ∃ v, v = W4.drew := ⟨_, rfl⟩
       rw [← hwz] at hHeld0 ⊢
       have hbzd : Below W4.heap.size W4 wzd := by rw [hwz]; exact (Below.refl _ _).drew
       have hlzd : Below W4.heap.size W4 wzd := by rw [hwz]; exact (Below.refl _ _).drew
       clear hwz hlzd
       refine wpAnyH_take (i := 0) (oi := ⟨some 60, .indexAddr 46 (.tmp 5) (.const (.int .i64 0)), 0, "law.go:343", #[], none⟩) (v := ?_) rfl (by kernel_rfl) (by kernel_rfl) (by kernel_rfl) (fun _ _ _ h => h) (Or.inl ⟨by rfl, ?_⟩) (by assumption) ?_
       rotate_left
       ·(intro w hSw; (try dsimp only at hSw); go_simp); (try with_reducible rfl)
       try simp only [Act.put, zS]
       refine wpAnyH_take (i := 1) (oi := ⟨some 61, .load 5 (.tmp 60), 5, "law.go:343", #[⟨0, .data⟩], none⟩) (v := ?_) rfl (by kernel_rfl) (by kernel_rfl) (by kernel_rfl) (fun _ _ _ h => h) (Or.inl ⟨by rfl, ?_⟩) (by assumption) ?_
       rotate_left
       ·(intro w hSw; (try dsimp only at hSw); go_simp); (try with_reducible rfl)
       try simp only [Act.put, zS]
       refine wpAnyH_take (i := 2) (oi := ⟨some 62, .convert 5 3 (.tmp 61), 3, "law.go:343", #[⟨1, .data⟩], none⟩) (v := ?_) rfl (by kernel_rfl) (by kernel_rfl) (by kernel_rfl) (fun _ _ _ h => h) (Or.inl ⟨by rfl, ?_⟩) (by assumption) ?_
       rotate_left
       ·(intro w hSw; (try dsimp only at hSw); go_simp); (try with_reducible rfl)
       try simp only [Act.put, zS]
       refine wpAnyH_take (i := 3) (oi := ⟨some 63, .binOp .rem 3 (.tmp 62) (.const (.int .i64 20)) 3, 3, "law.go:343", #[⟨2, .data⟩], none⟩) (v := ?_) rfl (by kernel_rfl) (by kernel_rfl) (by kernel_rfl) (fun _ _ _ h => h) (Or.inl ⟨by rfl, ?_⟩) (by assumption) ?_
       rotate_left
       ·(intro w hSw; (try dsimp only at hSw); go_simp); (try with_reducible rfl)
       try simp only [Act.put, zS]
       refine wpAnyH_take (i := 4) (oi := ⟨some 64, .indexAddr 46 (.tmp 5) (.const (.int .i64 1)), 0, "law.go:343", #[{ on := 10, ground := Ground.gcOnly Departure.lateStores }], none⟩) (v := ?_) rfl (by kernel_rfl) (by kernel_rfl) (by kernel_rfl) (fun _ _ _ h => h) (Or.inl ⟨by rfl, ?_⟩) (by assumption) ?_
       rotate_left
       ·(intro w hSw; (try dsimp only at hSw); go_simp); (try with_reducible rfl)
       try simp only [Act.put, zS]
       refine wpAnyH_take (i := 5) (oi := ⟨some 65, .load 5 (.tmp 64), 5, "law.go:343", #[⟨4, .data⟩, { on := 10, ground := Ground.gcOnly Departure.lateStores }], none⟩) (v := ?_) rfl (by kernel_rfl) (by kernel_rfl) (by kernel_rfl) (fun _ _ _ h => h) (Or.inl ⟨by rfl, ?_⟩) (by assumption) ?_
       rotate_left
       ·(intro w hSw; (try dsimp only at hSw); go_simp); (try with_reducible rfl)
       try simp only [Act.put, zS]
       refine wpAnyH_take (i := 6) (oi := ⟨some 66, .convert 5 3 (.tmp 65), 3, "law.go:343", #[⟨5, .data⟩, { on := 10, ground := Ground.gcOnly Departure.lateStores }], none⟩) (v := ?_) rfl (by kernel_rfl) (by kernel_rfl) (by kernel_rfl) (fun _ _ _ h => h) (Or.inl ⟨by rfl, ?_⟩) (by assumption) ?_
       rotate_left
       ·(intro w hSw; (try dsimp only at hSw); go_simp); (try with_reducible rfl)
       try simp only [Act.put, zS]
       refine wpAnyH_take (i := 7) (oi := ⟨some 67, .binOp .rem 3 (.tmp 66) (.const (.int .i64 4)) 3, 3, "law.go:343", #[⟨6, .data⟩, { on := 10, ground := Ground.gcOnly Departure.lateStores }], none⟩) (v := ?_) rfl (by kernel_rfl) (by kernel_rfl) (by kernel_rfl) (fun _ _ _ h => h) (Or.inl ⟨by rfl, ?_⟩) (by assumption) ?_
       rotate_left
       ·(intro w hSw; (try dsimp only at hSw); go_simp); (try with_reducible rfl)
       try simp only [Act.put, zS]
       refine wpAnyH_take (i := 8) (oi := ⟨some 68, .binOp .add 3 (.const (.int .i64 1)) (.tmp 67) 3, 3, "law.go:343", #[⟨7, .data⟩, { on := 10, ground := Ground.gcOnly Departure.lateStores }], none⟩) (v := ?_) rfl (by kernel_rfl) (by kernel_rfl) (by kernel_rfl) (fun _ _ _ h => h) (Or.inl ⟨by rfl, ?_⟩) (by assumption) ?_
       rotate_left
       ·(intro w hSw; (try dsimp only at hSw); go_simp); (try with_reducible rfl)
       try simp only [Act.put, zS]
       refine wpAnyH_ready (rs := [9]) (by kernel_rfl) (by simp) ?_
       refine (AllReadyH.cons (o := ⟨some 8, .alloc 3, 0, "law.go:343", #[], none⟩) rfl (fun K hK => ?_) AllReadyH.nil)
       go_simp
       obtain ⟨wz9, hwz⟩ : ∃ v, v = wzd.alloc (Obj.cells #[.int .i64 0] 3) := ⟨_, rfl⟩
       rw [← hwz]
       have hl : Below wzd.heap.size wzd wz9 := by rw [hwz]; exact below_new _ _
       have hbz9 := bthen hbzd hl
       have i8 : Blk wz9 wzd.heap.size 3 [.int .i64 0] := by rw [hwz]; exact Blk.new _ _ _
       have hG8 : W4.heap.size ≤ wzd.heap.size := (hbzd).size
       generalize wzd.heap.size = G8 at i8 hG8 ⊢
       clear hwz
       clear hl
       refine hK.out _ _ ⟨cellb c50 hbz9, cellb c51 hbz9⟩ (fun hHeld1 => ?_)
       clear hK K hHeld0
       try simp only [Act.put, zS]
       refine wpAnyH_take (i := 10) (oi := ⟨some 7, .assign (.tmp 63), 3, "law.go:343", #[⟨3, .data⟩, ⟨0, .phase⟩, ⟨1, .phase⟩, ⟨2, .phase⟩, ⟨3, .phase⟩, { on := 4, ground := Ground.textOnly Departure.lateStores }, { on := 5, ground := Ground.textOnly Departure.lateStores }, { on := 6, ground := Ground.textOnly Departure.lateStores }, { on := 7, ground := Ground.textOnly Departure.lateStores }, { on := 8, ground := Ground.textOnly Departure.lateStores }, ⟨9, .phase⟩], none⟩) (v := ?_) rfl (by kernel_rfl) (by kernel_rfl) (by kernel_rfl) (fun _ _ _ h => h) (Or.inl ⟨by rfl, ?_⟩) (by assumption) ?_
       rotate_left
       ·(intro w hSw; (try dsimp only at hSw); go_simp); (try with_reducible rfl)
       try simp only [Act.put, zS]
       refine wpAnyH_ready (rs := [11]) (by kernel_rfl) (by simp) ?_
       refine (AllReadyH.cons (o := ⟨none, .store 3 (.tmp 8) (.tmp 68), 0, "law.go:343", #[⟨9, .data⟩, ⟨8, .data⟩, ⟨10, .chain⟩, ⟨0, .phase⟩, ⟨1, .phase⟩, ⟨2, .phase⟩, ⟨3, .phase⟩, ⟨4, .phase⟩, ⟨5, .phase⟩, ⟨6, .phase⟩, ⟨7, .phase⟩, ⟨8, .phase⟩, ⟨9, .phase⟩, ⟨10, .phase⟩], none⟩) rfl (fun K hK => ?_) AllReadyH.nil)
       have fr0 := i8.frozen 0
       have g0 := i8.cell (j := 0) (v := .int .i64 0) rfl
       go_simp
       obtain ⟨wz11, hwz⟩ : ∃ v, v = (wz9.setCell ⟨G8, 0, none⟩ (.int .i64 n)) := ⟨_, rfl⟩
       rw [← hwz]
       have hbz11 : Below W4.heap.size W4 wz11 := by rw [hwz]; exact below_setC hbz9 G8 0 hG8 (.int .i64 n)
       have j8 := i8.set 0 (.int .i64 n)
       rw [← hwz] at j8
       clear hwz
       refine hK.out _ _ ⟨cellb c50 hbz11, cellb c51 hbz11⟩ (fun hHeld2 => ?_)
       clear hK K hHeld1
       try simp only [Act.put, zS]
       refine wpAnyH_done (by kernel_rfl) ?_ _
       clear hHeld2
       have hb2 := hbz11
       obtain ⟨W5, hW5⟩ : ∃ v, v = wz11 := ⟨_, rfl⟩
       rw [← hW5] at hb2 j8 ⊢
       clear hW5
       go_wp2_with fail
       go_meet
       exact ⟨rfl, _, rfl, j8, hb2⟩
      case rest =>
       obtain ⟨rfl, G8, rfl, i8, hb2⟩ := hcut
       obtain ⟨W5, hW5⟩ : ∃ x, x = wc := ⟨_, rfl⟩
       subst hW5
       replace hb := bthen hb hb2
       clear hb2 c50 c51
       have hch := ch_smooth (fr := fr) (n := n) HZ1.out HZ2.out (by omega) (by omega)
       obtain ⟨OV, hOV⟩ : ∃ o, o = overR la lb fr n := ⟨_, rfl⟩
       obtain ⟨CE, hCE⟩ : ∃ e, e = chE ca cb la lb fr n := ⟨_, rfl⟩
       obtain ⟨CT, hCT⟩ : ∃ e, e = chT ca cb la lb fr n := ⟨_, rfl⟩
       have TC := Lib.hid (fun x1 m1 q1 x2 m2 q2 W h1 h2 => ChangeOver_any ca cb fr n x1 x2 m1 q1 m2 q2 la lb W (by rw [← HN.out]; omega) (by rw [← HM.out]; omega) h1 h2)
       rw [← hOV, ← hCE, ← hCT] at hch
       rw [← hCE, ← hCT] at TC
       have HOV := Lib.hid hOV
       have HCH := Lib.hid hch
       have hce : CE = 0 ∨ CE = 7 := by
        cases hq : OV with
        | none => exact .inr (hch.1 hq).1
        | some y => exact .inl (hch.2 y hq).1
       clear hch hOV hCE hCT
       have c30 := (I3.out.carry hb).cell (j := 0) (v := .int .i64 ca) rfl
       have c31 := (I3.out.carry hb).cell (j := 1) (v := .slice a1 N p1) rfl
       have c40 := (I4.out.carry hb).cell (j := 0) (v := .int .i64 cb) rfl
       have c41 := (I4.out.carry hb).cell (j := 1) (v := .slice a2 M p2) rfl
       have c8 := i8.cell (j := 0) (v := .int .i64 n) rfl
       go_upto_region 4 with fail
       refine wp_region_held_drew (S := (fun W => W.cell? ⟨w.heap.size, 0, none⟩ = some (.int .i64 ca) ∧ W.cell? ⟨w.heap.size, 1, none⟩ = some (.slice a1 N p1) ∧ W.cell? ⟨B4, 0, none⟩ = some (.int .i64 cb) ∧ W.cell? ⟨B4, 1, none⟩ = some (.slice a2 M p2) ∧ W.cell? ⟨G8, 0, none⟩ = some (.int .i64 n))) (by kernel_rfl) ⟨cellb c30 (Below.refl _ _).drew, cellb c31 (Below.refl _ _).drew, cellb c40 (Below.refl _ _).drew, cellb c41 (Below.refl _ _).drew, cellb c8 (Below.refl _ _).drew⟩ (fun hHeld0 => ?_)
       obtain ⟨wzd, hwz⟩ : ∃ v, v = W5.drew := ⟨_, rfl⟩
       rw [← hwz] at hHeld0 ⊢
       have hbzd : Below W5.heap.size W5 wzd := by rw [hwz]; exact (Below.refl _ _).drew
       have hlzd : Below W5.heap.size W5 wzd := by rw [hwz]; exact (Below.refl _ _).drew
       clear hwz hlzd
       refine wpAnyH_take (i := 0) (oi := ⟨some 70, .load 34 (.tmp 3), 34, "law.go:344", #[], none⟩) (v := ?_) rfl (by kernel_rfl) (by kernel_rfl) (by kernel_rfl) (fun _ _ _ h => h) (Or.inl ⟨by rfl, ?_⟩) (by assumption) ?_
       rotate_left
       ·(intro w hSw; (try dsimp only at hSw); go_simp); (try with_reducible rfl)
       try simp only [Act.put, zS]
       refine wpAnyH_take (i := 2) (oi := ⟨some 72, .load 34 (.tmp 4), 34, "law.go:344", #[], none⟩) (v := ?_) rfl (by kernel_rfl) (by kernel_rfl) (by kernel_rfl) (fun _ _ _ h => h) (Or.inl ⟨by rfl, ?_⟩) (by assumption) ?_
       rotate_left
       ·(intro w hSw; (try dsimp only at hSw); go_simp); (try with_reducible rfl)
       try simp only [Act.put, zS]
       refine wpAnyH_take (i := 4) (oi := ⟨some 74, .move (.tmp 7), 3, "law.go:344", #[], none⟩) (v := ?_) rfl (by kernel_rfl) (by kernel_rfl) (by kernel_rfl) (fun _ _ _ h => h) (Or.inl ⟨by rfl, ?_⟩) (by assumption) ?_
       rotate_left
       ·(intro w hSw; (try dsimp only at hSw); go_simp); (try with_reducible rfl)
       try simp only [Act.put, zS]
       refine wpAnyH_take (i := 5) (oi := ⟨some 75, .load 3 (.tmp 8), 3, "law.go:344", #[], none⟩) (v := ?_) rfl (by kernel_rfl) (by kernel_rfl) (by kernel_rfl) (fun _ _ _ h => h) (Or.inl ⟨by rfl, ?_⟩) (by assumption) ?_
       rotate_left
       ·(intro w hSw; (try dsimp only at hSw); go_simp); (try with_reducible rfl)
       try simp only [Act.put, zS]
       refine wpAnyH_ready (rs := [1]) (by kernel_rfl) (by simp) ?_
       refine (AllReadyH.cons (o := ⟨some 71, .call ⟨.value (.func 19), #[.tmp 70], #[34]⟩, 53, "law.go:344", #[⟨0, .data⟩], none⟩) rfl (fun K hK => ?_) AllReadyH.nil)
       go_simp
       refine (L1.out wzd (HA.out.carry (bthen K3.out (bthen hb hbzd)))).mono ?_
       rintro e wz1 ⟨⟨x1, m1, q1, rfl, h1⟩, hl⟩
       (try go_wp2_with fail)
       have hbz1 := bthen hbzd hl
       clear hl
       refine hK.out _ _ ⟨cellb c30 hbz1, cellb c31 hbz1, cellb c40 hbz1, cellb c41 hbz1, cellb c8 hbz1⟩ (fun hHeld1 => ?_)
       clear hK K hHeld0
       try simp only [Act.put, zS]
       refine wpAnyH_ready (rs := [3]) (by kernel_rfl) (by simp) ?_
       refine (AllReadyH.cons (o := ⟨some 73, .call ⟨.value (.func 19), #[.tmp 72], #[34]⟩, 53, "law.go:344", #[⟨2, .data⟩, ⟨1, .chain⟩], none⟩) rfl (fun K hK => ?_) AllReadyH.nil)
       go_simp
       refine (L2.out wz1 (HB.out.carry (bthen K3.out (bthen hb hbz1)))).mono ?_
       rintro e wz3 ⟨⟨x2, m2, q2, rfl, h2⟩, hl⟩
       (try go_wp2_with fail)
       have hbz3 := bthen hbz1 hl
       have h1 := h1.carry hl
       clear hl
       refine hK.out _ _ ⟨cellb c30 hbz3, cellb c31 hbz3, cellb c40 hbz3, cellb c41 hbz3, cellb c8 hbz3⟩ (fun hHeld2 => ?_)
       clear hK K hHeld1
       try simp only [Act.put, zS]
       refine wpAnyH_ready (rs := [6]) (by kernel_rfl) (by simp) ?_
       refine (AllReadyH.cons (o := ⟨some 76, .call ⟨.value (.func 18), #[.tmp 71, .tmp 73, .tmp 74, .tmp 75], #[53, 53, 3, 3]⟩, 50, "law.go:344", #[⟨1, .data⟩, ⟨3, .data⟩, ⟨4, .data⟩, ⟨5, .data⟩, ⟨3, .chain⟩], none⟩) rfl (fun K hK => ?_) AllReadyH.nil)
       go_simp
       refine (TC.out x1 m1 q1 x2 m2 q2 wz3 h1 h2).mono ?_
       rintro e wz6 ⟨rfl, hl⟩
       (try go_wp2_with fail)
       have hbz6 := bthen hbz3 hl
       have h1 := h1.carry hl
       have h2 := h2.carry hl
       clear hl
       refine hK.out _ _ ⟨cellb c30 hbz6, cellb c31 hbz6, cellb c40 hbz6, cellb c41 hbz6, cellb c8 hbz6⟩ (fun hHeld3 => ?_)
       clear hK K hHeld2
       try simp only [Act.put, zS]
       refine wpAnyH_take (i := 7) (oi := ⟨some 69, .move (.tmp 76), 50, "law.go:344", #[⟨6, .data⟩], none⟩) (v := ?_) rfl (by kernel_rfl) (by kernel_rfl) (by kernel_rfl) (fun _ _ _ h => h) (Or.inl ⟨by rfl, ?_⟩) (by assumption) ?_
       rotate_left
       ·(intro w hSw; (try dsimp only at hSw); go_simp); (try with_reducible rfl)
       try simp only [Act.put, zS]
       refine wpAnyH_take (i := 8) (oi := ⟨some 77, .extract (.tmp 69) 0, 3, "law.go:344", #[⟨7, .data⟩], none⟩) (v := ?_) rfl (by kernel_rfl) (by kernel_rfl) (by kernel_rfl) (fun _ _ _ h => h) (Or.inl ⟨by rfl, ?_⟩) (by assumption) ?_
       rotate_left
       ·(intro w hSw; (try dsimp only at hSw); go_simp); (try with_reducible rfl)
       try simp only [Act.put, zS]
       refine wpAnyH_take (i := 9) (oi := ⟨some 78, .extract (.tmp 69) 1, 27, "law.go:344", #[⟨7, .data⟩, { on := 10, ground := Ground.gcOnly Departure.lateStores }], none⟩) (v := ?_) rfl (by kernel_rfl) (by kernel_rfl) (by kernel_rfl) (fun _ _ _ h => h) (Or.inl ⟨by rfl, ?_⟩) (by assumption) ?_
       rotate_left
       ·(intro w hSw; (try dsimp only at hSw); go_simp); (try with_reducible rfl)
       try simp only [Act.put, zS]
       refine wpAnyH_take (i := 10) (oi := ⟨some 9, .assign (.tmp 77), 3, "law.go:344", #[⟨8, .data⟩, ⟨6, .chain⟩, ⟨0, .phase⟩, ⟨1, .phase⟩, ⟨2, .phase⟩, ⟨3, .phase⟩, ⟨4, .phase⟩, ⟨5, .phase⟩, ⟨6, .phase⟩, ⟨7, .phase⟩, ⟨8, .phase⟩, { on := 9, ground := Ground.textOnly Departure.lateStores }], none⟩) (v := ?_) rfl (by kernel_rfl) (by kernel_rfl) (by kernel_rfl) (fun _ _ _ h => h) (Or.inl ⟨by rfl, ?_⟩) (by assumption) ?_
       rotate_left
       ·(intro w hSw; (try dsimp only at hSw); go_simp); (try with_reducible rfl)
       try simp only [Act.put, zS]
       refine wpAnyH_take (i := 11) (oi := ⟨some 10, .assign (.tmp 78), 27, "law.go:344", #[⟨9, .data⟩, ⟨10, .chain⟩, ⟨0, .phase⟩, ⟨1, .phase⟩, ⟨2, .phase⟩, ⟨3, .phase⟩, ⟨4, .phase⟩, ⟨5, .phase⟩, ⟨6, .phase⟩, ⟨7, .phase⟩, ⟨8, .phase⟩, ⟨9, .phase⟩, ⟨10, .phase⟩], none⟩) (v := ?_) rfl (by kernel_rfl) (by kernel_rfl) (by kernel_rfl) (fun _ _ _ h => h) (Or.inl ⟨by rfl, ?_⟩) (by assumption) ?_
       rotate_left
       ·(intro w hSw; (try dsimp only at hSw); go_simp); (try with_reducible rfl)
       try simp only [Act.put, zS]
       refine wpAnyH_done (by kernel_rfl) ?_ _
       clear hHeld3
       have hb2 := hbz6
       obtain ⟨W6, hW6⟩ : ∃ v, v = wz6 := ⟨_, rfl⟩
       rw [← hW6] at hb2 ⊢
       clear hW6
       rename_i W6
       replace hb := bthen hb hb2
       replace i8 := i8.carry hb2
       clear hb2 c30 c31 c40 c41 c8 TC
       go_upto_region 5 with fail
       go_cut [84] from 79 to 84 (fun u84 wn => u84 = .bool false ∧ wn = W6)
       case first =>
        rcases hce with h9 | h9
        ·subst h9
         go_wp2_with fail
         go_meet
         exact ⟨rfl, rfl⟩
        ·subst h9
         go_wp2_with fail
         go_meet
         exact ⟨rfl, rfl⟩
       case rest =>
        obtain ⟨rfl, rfl⟩ := hcut
        have TG := Lib.hid (fun t W (ht : 0 ≤ t ∧ t ≤ 100000) h8 h3 h4 h5 h6 => agree_any t la lb n a1 a2 N p1 M p2 G8 w.heap.size B4 W (by omega) ht (by rw [← HN.out]; omega) (by rw [← HM.out]; omega) h8 h3 h4 h5 h6)
        have HNO := Lib.hid (fun (p : P2) (hp : p ∈ la) (hf : fr ≤ p.1) h => over_no (lb := lb) (n := n) HK1.out.2.sorted hp hf h)
        have HB6 := Lib.hid hb
        have HI8 := Lib.hid i8
        have HCE := Lib.hid hce
        clear hb i8 hce
        have c31 := (I3.out.carry HB6.out).cell (j := 1) (v := .slice a1 N p1) rfl
        go_wp2_with fail
        clear c31
        have HCT := Lib.hid (fun (q : P2) (hp : q ∈ la) (hf : fr ≤ q.1) (h : CE = 0 → q.1 < CT) => HNO.out q hp hf (fun y hy => by
         have h2 := HCH.out.2 y (by rw [HOV.out]; exact hy)
         have := h h2.1
         omega))
        clear HNO
        go_loopw [89] (fun i wr => ∃ k : Nat, k ≤ N ∧ i = .int .i64 k ∧ Below wc.heap.size wc wr) (fun i _ => N - (intOf i).toNat)
        case atStart => exact ⟨0, by omega, rfl, Below.refl _ _⟩
        case round =>
         obtain ⟨k, hk, rfl, hbel⟩ := hrel
         by_cases hlt : k < N
         ·have hdk : (k : Int) < (N : Int) := by omega
          obtain ⟨x, hx⟩ : ∃ x, la[k]? = some x := ⟨_, List.getElem?_eq_getElem (by rw [← HN.out]; exact hlt)⟩
          have hA := HA.out.carry (bthen K3.out (bthen HB6.out hbel))
          obtain ⟨b, off, cc, he, hcs⟩ := hA.head (by rw [← HN.out]; omega)
          simp only [Value.slice.injEq] at he
          obtain ⟨rfl, -, rfl⟩ := he
          obtain ⟨e0, e1⟩ := rw2 (hcs k x hx) (show pV x = [.int .i64 x.1, .int .i64 x.2] from rfl)
          have hxr := (HK1.out.2.mem (List.mem_of_getElem? hx)).1
          have HCX := Lib.hid (HCT.out x (List.mem_of_getElem? hx))
          obtain ⟨q0, q1⟩ := x
          dsimp only at e0 e1 hxr HCX
          clear hcs hx hA
          go_upto_region 11 with fail
          obtain ⟨W13, hW13⟩ : ∃ v, v = World.alloc wr (Obj.cells #[.int .i64 q0, .int .i64 q1] 56) := ⟨_, rfl⟩
          have kW13 : Below wr.heap.size wr W13 := by rw [hW13]; exact below_new _ _
          have iW13 : Blk W13 (wr.heap.size) 56 [.int .i64 q0, .int .i64 q1] := by rw [hW13]; exact Blk.new _ _ _
          have sW13 : W13.heap.size = wr.heap.size + 1 := by rw [hW13]; simp
          rw [← hW13]
          clear hW13
          have d0 := iW13.cell (j := 0) (v := .int .i64 q0) rfl
          replace hbel := bthen hbel kW13
          clear kW13 sW13 iW13 e0 e1
          have KB := bthen HB6.out hbel
          have TGx := Lib.hid (TG.out q0 W13 hxr ((HI8.out.carry hbel).cell (j := 0) (v := .int .i64 n) rfl) ((I3.out.carry KB).cell (j := 1) (v := .slice (some ⟨b, off, none⟩) N p1) rfl) ((I4.out.carry KB).cell (j := 1) (v := .slice a2 M p2) rfl) (HA.out.carry (bthen K3.out KB)) (HB.out.carry (bthen K3.out KB)))
          obtain ⟨PB, hPB⟩ : ∃ z, z = possB la lb q0 n := ⟨_, rfl⟩
          rw [← hPB] at TGx HCX
          clear hPB KB
          by_cases hf : fr ≤ q0
          ·rcases HCE.out with h9 | h9
           ·subst h9
            by_cases hc : q0 < CT
            ·obtain rfl : PB = false := HCX.out hf (fun _ => hc)
             clear HCX
             go_wp2_with fail
             refine TGx.out.mono ?_
             rintro e w9 ⟨rfl, rfl⟩
             go_wp2
             go_roundw
             case rel => exact ⟨k + 1, by omega, by go_num, hbel⟩
             case measure => simp [intOf]; omega
            ·go_wp2
             go_roundw
             case rel => exact ⟨k + 1, by omega, by go_num, hbel⟩
             case measure => simp [intOf]; omega
           ·subst h9
            obtain rfl : PB = false := HCX.out hf (fun h => absurd h (by decide))
            clear HCX
            go_wp2_with fail
            refine TGx.out.mono ?_
            rintro e w9 ⟨rfl, rfl⟩
            go_wp2
            go_roundw
            case rel => exact ⟨k + 1, by omega, by go_num, hbel⟩
            case measure => simp [intOf]; omega
          ·go_wp2
           go_roundw
           case rel => exact ⟨k + 1, by omega, by go_num, hbel⟩
           case measure => simp [intOf]; omega
         ·have hdk : ¬ (k : Int) < (N : Int) := by omega
          clear HCT
          go_upto_if 115 with fail
          go_cut [14, 15, 17, 18, 19, 20, 21, 22, 23, 25, 27] from 116 to 229 (fun u14 u15 u17 u18 u19 u20 u21 u22 u23 u25 u27 wn => Below wc.heap.size wc wn)
          case first =>
           rcases HCE.out with h9 | h9
           ·subst h9
            obtain ⟨y, hy⟩ : ∃ y, OV = some y := by
             cases hq : OV with
             | none => exact absurd (HCH.out.1 hq).1 (by decide)
             | some y => exact ⟨y, rfl⟩
            have hct := (HCH.out.2 y hy).2
            obtain ⟨hyl, hyf, hyp⟩ := over_yes (la := la) (lb := lb) (fr := fr) (n := n) (y := y) HK1.out.2.sorted (by rw [← HOV.out]; exact hy)
            have hyr := (HK1.out.2.mem hyl).1
            rw [← hct] at hyf hyp hyr
            have hsw := swt_smooth (t := CT) HZ1.out HZ2.out hyr (by rw [← HN.out, ← HM.out]; omega)
            have hok := swt_ok HK1.out.2 HK2.out.2 CT (by rw [← HN.out, ← HM.out]; omega)
            have hhd := swt_head HK1.out.2.sorted HK2.out.2.sorted hyp
            have hat := fun (q : P2) (hq : q ∈ la) (h : q.1 < CT + n) => swt_at HK1.out.2.sorted HK2.out.2.sorted hyp hq h
            have TS := Lib.hid (fun x1 m1 q1 x2 m2 q2 W h1 h2 => Switched_any ca cb CT x1 x2 m1 q1 m2 q2 la lb W (by rw [← HN.out]; omega) (by rw [← HM.out]; omega) h1 h2)
            rw [hsw.1, hsw.2] at TS
            obtain ⟨SL, hSL⟩ : ∃ l, l = swtF la lb CT := ⟨_, rfl⟩
            rw [← hSL] at TS hok hhd hat
            obtain ⟨BS, hBS⟩ : ∃ l, l = bumpsL SL 0 := ⟨_, rfl⟩
            obtain ⟨BO, hBO⟩ : ∃ l, l = bumpsL la 0 := ⟨_, rfl⟩
            have HBA := Lib.hid (fun (m : Int) (hm : m < CT + n) (h : m ∈ BO) => (show m ∈ BS by
             rw [hBS]; rw [hBO] at h
             exact bumps_head HK1.out.2.sorted hok.sorted hhd.symm hm h))
            have HBB := Lib.hid (fun (m : Int) (hm : m < CT + n) (h : m ∈ BS) => (show m ∈ BO by
             rw [hBO]; rw [hBS] at h
             exact bumps_head hok.sorted HK1.out.2.sorted hhd hm h))
            have hlB := bumps_len SL 0
            have hlO := bumps_len la 0
            have hsl := hok.len
            have htr := trainE_of_ok hok
            have TCk := Lib.hid (fun u W (h : Prs W u SL) => CheckTrainR_any u SL W (by omega) h)
            rw [htr] at TCk
            have TB1 := Lib.hid (fun u W (h : Prs W u SL) => Bumps_any u SL 0 W (by omega) h)
            rw [(bumps_ok hok).1, (bumps_ok hok).2, ← hBS] at TB1
            have TB2 := Lib.hid (fun u W (h : Prs W u la) => Bumps_any u la 0 W (by rw [← HN.out]; omega) h)
            rw [(bumps_ok HK1.out.2).1, (bumps_ok HK1.out.2).2, ← hBO] at TB2
            rw [← hBS] at hlB
            rw [← hBO, ← HN.out] at hlO
            have TT := Lib.hid (fun u W (h : Prs W u SL) => told_any u SL W (by omega) h)
            have TPs := Lib.hid (fun u W (h : Prs W u SL) => pulses_any u SL W (by omega) h)
            have TAt := Lib.hid (fun u (q : Int) W (h : Prs W u SL) => AtR_any u SL q W (by omega) h)
            have HAT := Lib.hid hat
            have HLB := Lib.hid (show BS.length ≤ 256 by omega)
            have HLO := Lib.hid (show BO.length ≤ 12 by omega)
            have hnl : ¬ CT < fr := by omega
            have qn : IntKind.i64.wrap (CT + (n : Int)) = CT + (n : Int) := IntWalk.i64_in _ (by omega)
            have KB := bthen HB6.out hbel
            have TGx := Lib.hid (TG.out CT wr hyr ((HI8.out.carry hbel).cell (j := 0) (v := .int .i64 n) rfl) ((I3.out.carry KB).cell (j := 1) (v := .slice a1 N p1) rfl) ((I4.out.carry KB).cell (j := 1) (v := .slice a2 M p2) rfl) (HA.out.carry (bthen K3.out KB)) (HB.out.carry (bthen K3.out KB)))
            rw [hyp] at TGx
            clear hct hyl hyf hyp hyr hsw hok hhd hat hSL hBS hBO hlB hlO hsl htr hy TG
            go_wp2_with fail
            refine TGx.out.mono ?_
            rintro e w9 ⟨rfl, rfl⟩
            clear TGx
            have c30 := (I3.out.carry KB).cell (j := 0) (v := .int .i64 ca) rfl
            have c31 := (I3.out.carry KB).cell (j := 1) (v := .slice a1 N p1) rfl
            have c40 := (I4.out.carry KB).cell (j := 0) (v := .int .i64 cb) rfl
            have c41 := (I4.out.carry KB).cell (j := 1) (v := .slice a2 M p2) rfl
            go_upto_region 17 with fail
            refine wp_region_held_drew (S := (fun W => W.cell? ⟨w.heap.size, 0, none⟩ = some (.int .i64 ca) ∧ W.cell? ⟨w.heap.size, 1, none⟩ = some (.slice a1 N p1) ∧ W.cell? ⟨B4, 0, none⟩ = some (.int .i64 cb) ∧ W.cell? ⟨B4, 1, none⟩ = some (.slice a2 M p2))) (by kernel_rfl) ⟨cellb c30 (Below.refl _ _).drew, cellb c31 (Below.refl _ _).drew, cellb c40 (Below.refl _ _).drew, cellb c41 (Below.refl _ _).drew⟩ (fun hHeld0 => ?_)
            obtain ⟨wzd, hwz⟩ : ∃ v, v = wr.drew := ⟨_, rfl⟩
            rw [← hwz] at hHeld0 ⊢
            have hbzd : Below wr.heap.size wr wzd := by rw [hwz]; exact (Below.refl _ _).drew
            have hlzd : Below wr.heap.size wr wzd := by rw [hwz]; exact (Below.refl _ _).drew
            clear hwz hlzd
            refine wpAnyH_take (i := 0) (oi := ⟨some 126, .load 34 (.tmp 3), 34, "law.go:367", #[], none⟩) (v := ?_) rfl (by kernel_rfl) (by kernel_rfl) (by kernel_rfl) (fun _ _ _ h => h) (Or.inl ⟨by rfl, ?_⟩) (by assumption) ?_
            rotate_left
            ·(intro w hSw; (try dsimp only at hSw); go_simp); (try with_reducible rfl)
            try simp only [Act.put, zS]
            refine wpAnyH_take (i := 2) (oi := ⟨some 128, .load 34 (.tmp 4), 34, "law.go:367", #[], none⟩) (v := ?_) rfl (by kernel_rfl) (by kernel_rfl) (by kernel_rfl) (fun _ _ _ h => h) (Or.inl ⟨by rfl, ?_⟩) (by assumption) ?_
            rotate_left
            ·(intro w hSw; (try dsimp only at hSw); go_simp); (try with_reducible rfl)
            try simp only [Act.put, zS]
            refine wpAnyH_take (i := 4) (oi := ⟨some 130, .move (.tmp 9), 3, "law.go:367", #[], none⟩) (v := ?_) rfl (by kernel_rfl) (by kernel_rfl) (by kernel_rfl) (fun _ _ _ h => h) (Or.inl ⟨by rfl, ?_⟩) (by assumption) ?_
            rotate_left
            ·(intro w hSw; (try dsimp only at hSw); go_simp); (try with_reducible rfl)
            try simp only [Act.put, zS]
            refine wpAnyH_ready (rs := [1]) (by kernel_rfl) (by simp) ?_
            refine (AllReadyH.cons (o := ⟨some 127, .call ⟨.value (.func 19), #[.tmp 126], #[34]⟩, 53, "law.go:367", #[⟨0, .data⟩], none⟩) rfl (fun K hK => ?_) AllReadyH.nil)
            go_simp
            refine (L1.out wzd (HA.out.carry (bthen K3.out (bthen KB hbzd)))).mono ?_
            rintro e wz1 ⟨⟨x1, m1, q1, rfl, h1⟩, hl⟩
            (try go_wp2_with fail)
            have hbz1 := bthen hbzd hl
            clear hl
            refine hK.out _ _ ⟨cellb c30 hbz1, cellb c31 hbz1, cellb c40 hbz1, cellb c41 hbz1⟩ (fun hHeld1 => ?_)
            clear hK K hHeld0
            try simp only [Act.put, zS]
            refine wpAnyH_ready (rs := [3]) (by kernel_rfl) (by simp) ?_
            refine (AllReadyH.cons (o := ⟨some 129, .call ⟨.value (.func 19), #[.tmp 128], #[34]⟩, 53, "law.go:367", #[⟨2, .data⟩, ⟨1, .chain⟩], none⟩) rfl (fun K hK => ?_) AllReadyH.nil)
            go_simp
            refine (L2.out wz1 (HB.out.carry (bthen K3.out (bthen KB hbz1)))).mono ?_
            rintro e wz3 ⟨⟨x2, m2, q2, rfl, h2⟩, hl⟩
            (try go_wp2_with fail)
            have hbz3 := bthen hbz1 hl
            have h1 := h1.carry hl
            clear hl
            refine hK.out _ _ ⟨cellb c30 hbz3, cellb c31 hbz3, cellb c40 hbz3, cellb c41 hbz3⟩ (fun hHeld2 => ?_)
            clear hK K hHeld1
            try simp only [Act.put, zS]
            refine wpAnyH_ready (rs := [5]) (by kernel_rfl) (by simp) ?_
            refine (AllReadyH.cons (o := ⟨some 131, .call ⟨.value (.func 21), #[.tmp 127, .tmp 129, .tmp 130], #[53, 53, 3]⟩, 28, "law.go:367", #[⟨1, .data⟩, ⟨3, .data⟩, ⟨4, .data⟩, ⟨3, .chain⟩], none⟩) rfl (fun K hK => ?_) AllReadyH.nil)
            go_simp
            refine (TS.out x1 m1 q1 x2 m2 q2 wz3 h1 h2).mono ?_
            rintro e wz5 ⟨⟨us, rfl, h14⟩, hl⟩
            (try go_wp2_with fail)
            have hbz5 := bthen hbz3 hl
            have h1 := h1.carry hl
            have h2 := h2.carry hl
            clear hl
            refine hK.out _ _ ⟨cellb c30 hbz5, cellb c31 hbz5, cellb c40 hbz5, cellb c41 hbz5⟩ (fun hHeld3 => ?_)
            clear hK K hHeld2
            try simp only [Act.put, zS]
            refine wpAnyH_take (i := 6) (oi := ⟨some 125, .move (.tmp 131), 28, "law.go:367", #[⟨5, .data⟩], none⟩) (v := ?_) rfl (by kernel_rfl) (by kernel_rfl) (by kernel_rfl) (fun _ _ _ h => h) (Or.inl ⟨by rfl, ?_⟩) (by assumption) ?_
            rotate_left
            ·(intro w hSw; (try dsimp only at hSw); go_simp); (try with_reducible rfl)
            try simp only [Act.put, zS]
            refine wpAnyH_take (i := 7) (oi := ⟨some 132, .extract (.tmp 125) 0, 26, "law.go:367", #[⟨6, .data⟩], none⟩) (v := ?_) rfl (by kernel_rfl) (by kernel_rfl) (by kernel_rfl) (fun _ _ _ h => h) (Or.inl ⟨by rfl, ?_⟩) (by assumption) ?_
            rotate_left
            ·(intro w hSw; (try dsimp only at hSw); go_simp); (try with_reducible rfl)
            try simp only [Act.put, zS]
            refine wpAnyH_take (i := 8) (oi := ⟨some 133, .extract (.tmp 125) 1, 27, "law.go:367", #[⟨6, .data⟩, { on := 9, ground := Ground.gcOnly Departure.lateStores }], none⟩) (v := ?_) rfl (by kernel_rfl) (by kernel_rfl) (by kernel_rfl) (fun _ _ _ h => h) (Or.inl ⟨by rfl, ?_⟩) (by assumption) ?_
            rotate_left
            ·(intro w hSw; (try dsimp only at hSw); go_simp); (try with_reducible rfl)
            try simp only [Act.put, zS]
            refine wpAnyH_take (i := 9) (oi := ⟨some 14, .assign (.tmp 132), 26, "law.go:367", #[⟨7, .data⟩, ⟨5, .chain⟩, ⟨0, .phase⟩, ⟨1, .phase⟩, ⟨2, .phase⟩, ⟨3, .phase⟩, ⟨4, .phase⟩, ⟨5, .phase⟩, ⟨6, .phase⟩, ⟨7, .phase⟩, { on := 8, ground := Ground.textOnly Departure.lateStores }], none⟩) (v := ?_) rfl (by kernel_rfl) (by kernel_rfl) (by kernel_rfl) (fun _ _ _ h => h) (Or.inl ⟨by rfl, ?_⟩) (by assumption) ?_
            rotate_left
            ·(intro w hSw; (try dsimp only at hSw); go_simp); (try with_reducible rfl)
            try simp only [Act.put, zS]
            refine wpAnyH_take (i := 10) (oi := ⟨some 15, .assign (.tmp 133), 27, "law.go:367", #[⟨8, .data⟩, ⟨9, .chain⟩, ⟨0, .phase⟩, ⟨1, .phase⟩, ⟨2, .phase⟩, ⟨3, .phase⟩, ⟨4, .phase⟩, ⟨5, .phase⟩, ⟨6, .phase⟩, ⟨7, .phase⟩, ⟨8, .phase⟩, ⟨9, .phase⟩], none⟩) (v := ?_) rfl (by kernel_rfl) (by kernel_rfl) (by kernel_rfl) (fun _ _ _ h => h) (Or.inl ⟨by rfl, ?_⟩) (by assumption) ?_
            rotate_left
            ·(intro w hSw; (try dsimp only at hSw); go_simp); (try with_reducible rfl)
            try simp only [Act.put, zS]
            refine wpAnyH_done (by kernel_rfl) ?_ _
            clear hHeld3
            have hb2 := hbz5
            obtain ⟨W20, hW20⟩ : ∃ v, v = wz5 := ⟨_, rfl⟩
            rw [← hW20] at hb2 h14 ⊢
            clear hW20
            have hbw := bthen hbel hb2
            clear h1 h2 hb2 c30 c31 c40 c41 TS KB
            go_wp2_with fail
            refine (TT.out us W20 h14).mono ?_
            rintro e W21 ⟨⟨uo, rfl, ho⟩, hl⟩
            replace ho : Prs _ _ _ := ho.rw pV_len
            replace h14 := h14.carry hl
            replace hbw := bthen hbw hl
            clear hl
            go_wp2_with fail
            refine (TCk.out uo W21 ho).mono ?_
            rintro e W22 ⟨rfl, hl⟩
            replace h14 := h14.carry hl
            replace hbw := bthen hbw hl
            clear hl ho
            have H14 := Lib.hid h14
            have HB22 := Lib.hid hbw
            have c31 := (I3.out.carry (bthen HB6.out HB22.out)).cell (j := 1) (v := .slice a1 N p1) rfl
            clear h14 hbw
            go_wp2_with fail
            clear c31
            go_loopw [145] (fun i wx => ∃ k : Nat, k ≤ N ∧ i = .int .i64 k ∧ Below W22.heap.size W22 wx) (fun i _ => N - (intOf i).toNat)
            case atStart => exact ⟨0, by omega, rfl, Below.refl _ _⟩
            case round =>
             obtain ⟨k2, hk2, rfl, hbl⟩ := hrel
             by_cases hlt2 : k2 < N
             ·have hdk2 : (k2 : Int) < (N : Int) := by omega
              obtain ⟨x, hx⟩ : ∃ x, la[k2]? = some x := ⟨_, List.getElem?_eq_getElem (by rw [← HN.out]; exact hlt2)⟩
              have hA := HA.out.carry (bthen K3.out (bthen HB6.out (bthen HB22.out hbl)))
              obtain ⟨b, off, cc, he, hcs⟩ := hA.head (by rw [← HN.out]; omega)
              simp only [Value.slice.injEq] at he
              obtain ⟨rfl, -, rfl⟩ := he
              obtain ⟨e0, e1⟩ := rw2 (hcs k2 x hx) (show pV x = [.int .i64 x.1, .int .i64 x.2] from rfl)
              have HAX := Lib.hid (fun h => at_some (HAT.out x (List.mem_of_getElem? hx) h))
              obtain ⟨q0, q1⟩ := x
              dsimp only at e0 e1 HAX
              have TAx := Lib.hid (fun u W (h : Prs W u SL) => TAt.out u q0 W h)
              obtain ⟨AB, hAB⟩ : ∃ z, z = atB SL q0 := ⟨_, rfl⟩
              obtain ⟨AD, hAD⟩ : ∃ z, z = atD SL q0 := ⟨_, rfl⟩
              rw [← hAB, ← hAD] at TAx HAX
              clear hcs hx hA hAB hAD
              go_upto_region 23 with fail
              obtain ⟨W17, hW17⟩ : ∃ v, v = World.alloc wr (Obj.cells #[.int .i64 q0, .int .i64 q1] 56) := ⟨_, rfl⟩
              have kW17 : Below wr.heap.size wr W17 := by rw [hW17]; exact below_new _ _
              have iW17 : Blk W17 (wr.heap.size) 56 [.int .i64 q0, .int .i64 q1] := by rw [hW17]; exact Blk.new _ _ _
              have sW17 : W17.heap.size = wr.heap.size + 1 := by rw [hW17]; simp
              rw [← hW17]
              clear hW17
              have hbl2 := bthen hbl kW17
              generalize wr.heap.size = B17 at iW17 ⊢
              have d0 := iW17.cell (j := 0) (v := .int .i64 q0) rfl
              have HI17 := Lib.hid iW17
              have h14q := H14.out.carry hbl2
              clear kW17 sW17 iW17 e0 e1
              refine wp_region_held_drew (S := (fun W => W.cell? ⟨B17, 0, none⟩ = some (.int .i64 q0))) (by kernel_rfl) (cellb d0 (Below.refl _ _).drew) (fun hHeld0 => ?_)
              obtain ⟨wzd, hwz⟩ : ∃ v, v = W17.drew := ⟨_, rfl⟩
              rw [← hwz] at hHeld0 ⊢
              have hbzd : Below W17.heap.size W17 wzd := by rw [hwz]; exact (Below.refl _ _).drew
              have hlzd : Below W17.heap.size W17 wzd := by rw [hwz]; exact (Below.refl _ _).drew
              have h14q := h14q.carry hlzd
              clear hwz hlzd
              refine wpAnyH_take (i := 0) (oi := ⟨some 150, .move (.tmp 14), 26, "law.go:372", #[], none⟩) (v := ?_) rfl (by kernel_rfl) (by kernel_rfl) (by kernel_rfl) (fun _ _ _ h => h) (Or.inl ⟨by rfl, ?_⟩) (by assumption) ?_
              rotate_left
              ·(intro w hSw; (try dsimp only at hSw); go_simp); (try with_reducible rfl)
              try simp only [Act.put, zS]
              refine wpAnyH_take (i := 2) (oi := ⟨some 152, .fieldAddr 56 (.tmp 17) 0, 0, "law.go:372", #[], none⟩) (v := ?_) rfl (by kernel_rfl) (by kernel_rfl) (by kernel_rfl) (fun _ _ _ h => h) (Or.inl ⟨by rfl, ?_⟩) (by assumption) ?_
              rotate_left
              ·(intro w hSw; (try dsimp only at hSw); go_simp); (try with_reducible rfl)
              try simp only [Act.put, zS]
              refine wpAnyH_take (i := 3) (oi := ⟨some 153, .load 3 (.tmp 152), 3, "law.go:372", #[⟨2, .data⟩], none⟩) (v := ?_) rfl (by kernel_rfl) (by kernel_rfl) (by kernel_rfl) (fun _ _ _ h => h) (Or.inl ⟨by rfl, ?_⟩) (by assumption) ?_
              rotate_left
              ·(intro w hSw; (try dsimp only at hSw); go_simp); (try with_reducible rfl)
              try simp only [Act.put, zS]
              refine wpAnyH_ready (rs := [1]) (by kernel_rfl) (by simp) ?_
              refine (AllReadyH.cons (o := ⟨some 151, .call ⟨.value (.func 12), #[.tmp 150], #[26]⟩, 32, "law.go:372", #[⟨0, .data⟩], none⟩) rfl (fun K hK => ?_) AllReadyH.nil)
              go_simp
              refine (TT.out _ wzd h14q).mono ?_
              rintro e wz1 ⟨⟨ux, rfl, hux⟩, hl⟩
              replace hux : Prs _ _ SL := hux.rw pV_len
              (try go_wp2_with fail)
              have hbz1 := bthen hbzd hl
              have h14q := h14q.carry hl
              clear hl
              refine hK.out _ _ (cellb d0 hbz1) (fun hHeld1 => ?_)
              clear hK K hHeld0
              try simp only [Act.put, zS]
              refine wpAnyH_ready (rs := [4]) (by kernel_rfl) (by simp) ?_
              refine (AllReadyH.cons (o := ⟨some 154, .call ⟨.value (.func 14), #[.tmp 151, .tmp 153], #[32, 3]⟩, 44, "law.go:372", #[⟨1, .data⟩, ⟨3, .data⟩, ⟨1, .chain⟩], none⟩) rfl (fun K hK => ?_) AllReadyH.nil)
              go_simp
              refine (TAx.out _ wz1 hux).mono ?_
              rintro e wz4 ⟨rfl, hww⟩
              have hl : Below (World.heap wz1).size wz1 wz4 := by rw [hww]; exact Below.refl _ _
              clear hww
              (try go_wp2_with fail)
              have hbz4 := bthen hbz1 hl
              have h14q := h14q.carry hl
              have hux := hux.carry hl
              clear hl
              refine hK.out _ _ (cellb d0 hbz4) (fun hHeld2 => ?_)
              clear hK K hHeld1
              try simp only [Act.put, zS]
              refine wpAnyH_take (i := 5) (oi := ⟨some 149, .move (.tmp 154), 44, "law.go:372", #[⟨4, .data⟩], none⟩) (v := ?_) rfl (by kernel_rfl) (by kernel_rfl) (by kernel_rfl) (fun _ _ _ h => h) (Or.inl ⟨by rfl, ?_⟩) (by assumption) ?_
              rotate_left
              ·(intro w hSw; (try dsimp only at hSw); go_simp); (try with_reducible rfl)
              try simp only [Act.put, zS]
              refine wpAnyH_take (i := 6) (oi := ⟨some 155, .extract (.tmp 149) 0, 3, "law.go:372", #[⟨5, .data⟩], none⟩) (v := ?_) rfl (by kernel_rfl) (by kernel_rfl) (by kernel_rfl) (fun _ _ _ h => h) (Or.inl ⟨by rfl, ?_⟩) (by assumption) ?_
              rotate_left
              ·(intro w hSw; (try dsimp only at hSw); go_simp); (try with_reducible rfl)
              try simp only [Act.put, zS]
              refine wpAnyH_take (i := 7) (oi := ⟨some 156, .extract (.tmp 149) 1, 4, "law.go:372", #[⟨5, .data⟩, { on := 8, ground := Ground.gcOnly Departure.lateStores }], none⟩) (v := ?_) rfl (by kernel_rfl) (by kernel_rfl) (by kernel_rfl) (fun _ _ _ h => h) (Or.inl ⟨by rfl, ?_⟩) (by assumption) ?_
              rotate_left
              ·(intro w hSw; (try dsimp only at hSw); go_simp); (try with_reducible rfl)
              try simp only [Act.put, zS]
              refine wpAnyH_take (i := 8) (oi := ⟨some 18, .assign (.tmp 155), 3, "law.go:372", #[⟨6, .data⟩, ⟨4, .chain⟩, ⟨0, .phase⟩, ⟨1, .phase⟩, ⟨2, .phase⟩, ⟨3, .phase⟩, ⟨4, .phase⟩, ⟨5, .phase⟩, ⟨6, .phase⟩, { on := 7, ground := Ground.textOnly Departure.lateStores }], none⟩) (v := ?_) rfl (by kernel_rfl) (by kernel_rfl) (by kernel_rfl) (fun _ _ _ h => h) (Or.inl ⟨by rfl, ?_⟩) (by assumption) ?_
              rotate_left
              ·(intro w hSw; (try dsimp only at hSw); go_simp); (try with_reducible rfl)
              try simp only [Act.put, zS]
              refine wpAnyH_take (i := 9) (oi := ⟨some 19, .assign (.tmp 156), 4, "law.go:372", #[⟨7, .data⟩, ⟨8, .chain⟩, ⟨0, .phase⟩, ⟨1, .phase⟩, ⟨2, .phase⟩, ⟨3, .phase⟩, ⟨4, .phase⟩, ⟨5, .phase⟩, ⟨6, .phase⟩, ⟨7, .phase⟩, ⟨8, .phase⟩], none⟩) (v := ?_) rfl (by kernel_rfl) (by kernel_rfl) (by kernel_rfl) (fun _ _ _ h => h) (Or.inl ⟨by rfl, ?_⟩) (by assumption) ?_
              rotate_left
              ·(intro w hSw; (try dsimp only at hSw); go_simp); (try with_reducible rfl)
              try simp only [Act.put, zS]
              refine wpAnyH_done (by kernel_rfl) ?_ _
              clear hHeld2
              have hb2 := hbz4
              obtain ⟨W18, hW18⟩ : ∃ v, v = wz4 := ⟨_, rfl⟩
              rw [← hW18] at hb2 ⊢
              clear hW18
              have hbl3 := bthen hbl2 hb2
              have d0 := (HI17.out.carry hb2).cell (j := 0) (v := .int .i64 q0) rfl
              have d1 := (HI17.out.carry hb2).cell (j := 1) (v := .int .i64 q1) rfl
              have c8 := (HI8.out.carry (bthen HB22.out hbl3)).cell (j := 0) (v := .int .i64 n) rfl
              clear hb2 hux h14q
              by_cases hc : q0 < CT + (n : Int)
              ·obtain ⟨rfl, rfl⟩ := HAX.out hc
               clear HAX
               go_wp2
               go_roundw
               case rel => exact ⟨k2 + 1, by omega, by go_num, hbl3⟩
               case measure => simp [intOf]; omega
              ·go_wp2
               go_roundw
               case rel => exact ⟨k2 + 1, by omega, by go_num, hbl3⟩
               case measure => simp [intOf]; omega
             ·have hdk2 : ¬ (k2 : Int) < (N : Int) := by omega
              have h14 := H14.out.carry hbl
              have hbw := bthen HB22.out hbl
              go_wp2_with fail
              refine (TT.out us _ h14).mono ?_
              rintro e W23 ⟨⟨uo, rfl, ho⟩, hl⟩
              replace ho : Prs _ _ _ := ho.rw pV_len
              replace hbw := bthen hbw hl
              clear hl h14
              go_wp2_with fail
              refine (TPs.out uo W23 ho).mono ?_
              rintro e W24 ⟨⟨up, rfl, hpp⟩, hl⟩
              replace hpp : Prs _ _ _ := hpp.rw pV_len
              replace hbw := bthen hbw hl
              clear hl ho
              go_wp2_with fail
              refine (TB1.out up W24 hpp).mono ?_
              rintro e W25 ⟨⟨ub, rfl, hub⟩, hl⟩
              replace hbw := bthen hbw hl
              clear hl hpp
              have c31 := (I3.out.carry (bthen HB6.out hbw)).cell (j := 1) (v := .slice a1 N p1) rfl
              go_wp2_with fail
              refine (TP.out W25 (HA.out.carry (bthen K3.out (bthen HB6.out hbw)))).mono ?_
              rintro e W27 ⟨⟨up, rfl, hpp⟩, hl⟩
              replace hpp : Prs _ _ _ := hpp.rw pV_len
              replace hbw := bthen hbw hl
              replace hub := hub.carry hl
              clear hl c31
              go_wp2_with fail
              refine (TB2.out up W27 hpp).mono ?_
              rintro e W26 ⟨⟨uc, rfl, huc⟩, hl⟩
              replace hbw := bthen hbw hl
              replace hub := hub.carry hl
              clear hl hpp
              obtain ⟨bs, cs, he, _, _⟩ := id hub
              obtain ⟨MB, hMB⟩ : ∃ m, m = BS.length := ⟨_, rfl⟩
              rw [← hMB] at he
              subst he
              obtain ⟨bo, co, he, _, _⟩ := id huc
              obtain ⟨MO, hMO⟩ : ∃ m, m = BO.length := ⟨_, rfl⟩
              rw [← hMO] at he
              subst he
              have H20 := Lib.hid hub
              have H22 := Lib.hid huc
              have HMB := Lib.hid hMB
              have HMO := Lib.hid hMO
              have HB26 := Lib.hid hbw
              have I8W := Lib.hid (HI8.out.carry hbw)
              have hMB9 : MB ≤ 256 := by have := HLB.out; omega
              have hMO9 : MO ≤ 12 := by have := HLO.out; omega
              clear hub huc hMB hMO hbw
              go_wp2_with fail
              go_loop [196] (fun i => ∃ k : Nat, k ≤ MO ∧ i = .int .i64 k) (fun i => MO - (intOf i).toNat)
              case atStart => exact ⟨0, by omega, rfl⟩
              case round =>
               obtain ⟨k196, hk196, rfl⟩ := hrel
               by_cases hl196 : k196 < MO
               ·have hd196 : (k196 : Int) < (MO : Int) := by omega
                obtain ⟨bb, oo, cc, he, hcs⟩ := H22.out.head (by rw [← HMO.out]; omega)
                simp only [Value.slice.injEq] at he
                obtain ⟨rfl, -, rfl⟩ := he
                have c9 := hcs k196 (by rw [← HMO.out]; exact hl196)
                obtain ⟨m, hx⟩ : ∃ x, BO[k196]? = some x := ⟨_, List.getElem?_eq_getElem (by rw [← HMO.out]; exact hl196)⟩
                rw [hx, Option.getD_some] at c9
                have HM := Lib.hid (List.mem_of_getElem? hx)
                clear hcs hx
                have c8 := I8W.out.cell (j := 0) (v := .int .i64 n) rfl
                by_cases hc : m < CT + (n : Int)
                ·have THI := (fun m => HasInt_any (.slice bs MB cs) BS m W26 (by rw [← HMB.out]; omega) H20.out) m
                 rw [has_of (HBA.out m hc HM.out)] at THI
                 have THI := Lib.hid THI
                 go_wp2_with fail
                 refine THI.out.mono ?_
                 rintro e w9 ⟨rfl, rfl⟩
                 clear THI c9 c8
                 go_wp2
                 go_round
                 case rel => exact ⟨k196 + 1, by omega, by go_num⟩
                 case measure => simp [intOf]; omega
                ·go_wp2
                 go_round
                 case rel => exact ⟨k196 + 1, by omega, by go_num⟩
                 case measure => simp [intOf]; omega
               ·have hd196 : ¬ (k196 : Int) < (MO : Int) := by omega
                go_wp2_with fail
                go_loop [214] (fun i => ∃ k : Nat, k ≤ MB ∧ i = .int .i64 k) (fun i => MB - (intOf i).toNat)
                case atStart => exact ⟨0, by omega, rfl⟩
                case round =>
                 obtain ⟨k214, hk214, rfl⟩ := hrel
                 by_cases hl214 : k214 < MB
                 ·have hd214 : (k214 : Int) < (MB : Int) := by omega
                  obtain ⟨bb, oo, cc, he, hcs⟩ := H20.out.head (by rw [← HMB.out]; omega)
                  simp only [Value.slice.injEq] at he
                  obtain ⟨rfl, -, rfl⟩ := he
                  have c9 := hcs k214 (by rw [← HMB.out]; exact hl214)
                  obtain ⟨m, hx⟩ : ∃ x, BS[k214]? = some x := ⟨_, List.getElem?_eq_getElem (by rw [← HMB.out]; exact hl214)⟩
                  rw [hx, Option.getD_some] at c9
                  have HM := Lib.hid (List.mem_of_getElem? hx)
                  clear hcs hx
                  have c8 := I8W.out.cell (j := 0) (v := .int .i64 n) rfl
                  by_cases hc : m < CT + (n : Int)
                  ·have THI := (fun m => HasInt_any (.slice bo MO co) BO m W26 (by rw [← HMO.out]; omega) H22.out) m
                   rw [has_of (HBB.out m hc HM.out)] at THI
                   have THI := Lib.hid THI
                   go_wp2_with fail
                   refine THI.out.mono ?_
                   rintro e w9 ⟨rfl, rfl⟩
                   clear THI c9 c8
                   go_wp2
                   go_round
                   case rel => exact ⟨k214 + 1, by omega, by go_num⟩
                   case measure => simp [intOf]; omega
                  ·go_wp2
                   go_round
                   case rel => exact ⟨k214 + 1, by omega, by go_num⟩
                   case measure => simp [intOf]; omega
                 ·have hd214 : ¬ (k214 : Int) < (MB : Int) := by omega
                  go_wp2_with fail
                  go_meet
                  exact HB26.out
           ·subst h9
            go_wp2_with fail
            go_meet
            exact hbel
          case rest =>
           clear hbel
           have hbel := hcut
           clear hcut
           obtain ⟨W8, hW8⟩ : ∃ x, x = wc := ⟨_, rfl⟩
           subst hW8
           have c30 := (I3.out.carry (bthen HB6.out hbel)).cell (j := 0) (v := .int .i64 ca) rfl
           have c31 := (I3.out.carry (bthen HB6.out hbel)).cell (j := 1) (v := .slice a1 N p1) rfl
           obtain ⟨tc, htc⟩ : ∃ z, z = (ca + 1) % 256 := ⟨_, rfl⟩
           have w1 : IntKind.i64.wrap (ca + 1) = ca + 1 := IntWalk.i64_in _ (by have := HK1.out.1; omega)
           have y8 : Int.tmod (ca + 1) 256 = tc := by rw [htc, Int.tmod_eq_emod_of_nonneg (by have := HK1.out.1; omega)]
           have y9 : (ca + 1) % 256 = tc := htc.symm
           have HTC := Lib.hid (show 0 ≤ tc ∧ tc ≤ 255 by omega)
           have hAq := HA.out.carry (bthen K3.out (bthen HB6.out hbel))
           clear htc
           go_upto_region 43 with fail
           go_cut [28] from 230 to 238 (fun u28 wn => ∃ (Gt : Nat) (ua : Option Addr) (uc : Nat), u28 = .pointer (some ⟨Gt, 0, none⟩) ∧ Blk wn Gt 34 [.int .i64 tc, .slice ua la.length uc] ∧ Prs wn (.slice ua la.length uc) la ∧ Below W8.heap.size W8 wn)
           case first =>
            refine wp_region_held_drew (S := (fun W => W.cell? ⟨w.heap.size, 0, none⟩ = some (.int .i64 ca) ∧ W.cell? ⟨w.heap.size, 1, none⟩ = some (.slice a1 N p1))) (by kernel_rfl) ⟨cellb c30 (Below.refl _ _).drew, cellb c31 (Below.refl _ _).drew⟩ (fun hHeld0 => ?_)
            obtain ⟨wzd, hwz⟩ : ∃ v, v = W8.drew := ⟨_, rfl⟩
            rw [← hwz] at hHeld0 ⊢
            have hbzd : Below W8.heap.size W8 wzd := by rw [hwz]; exact (Below.refl _ _).drew
            have hlzd : Below W8.heap.size W8 wzd := by rw [hwz]; exact (Below.refl _ _).drew
            have hAq := hAq.carry hlzd
            clear hwz hlzd
            refine wpAnyH_take (i := 0) (oi := ⟨some 230, .fieldAddr 34 (.tmp 3) 0, 0, "law.go:392", #[], none⟩) (v := ?_) rfl (by kernel_rfl) (by kernel_rfl) (by kernel_rfl) (fun _ _ _ h => h) (Or.inl ⟨by rfl, ?_⟩) (by assumption) ?_
            rotate_left
            ·(intro w hSw; (try dsimp only at hSw); go_simp); (try with_reducible rfl)
            try simp only [Act.put, zS]
            refine wpAnyH_take (i := 1) (oi := ⟨some 231, .load 3 (.tmp 230), 3, "law.go:392", #[⟨0, .data⟩], none⟩) (v := ?_) rfl (by kernel_rfl) (by kernel_rfl) (by kernel_rfl) (fun _ _ _ h => h) (Or.inl ⟨by rfl, ?_⟩) (by assumption) ?_
            rotate_left
            ·(intro w hSw; (try dsimp only at hSw); go_simp); (try with_reducible rfl)
            try simp only [Act.put, zS]
            refine wpAnyH_take (i := 2) (oi := ⟨some 232, .binOp .add 3 (.tmp 231) (.const (.int .i64 1)) 3, 3, "law.go:392", #[⟨1, .data⟩], none⟩) (v := ?_) rfl (by kernel_rfl) (by kernel_rfl) (by kernel_rfl) (fun _ _ _ h => h) (Or.inl ⟨by rfl, ?_⟩) (by assumption) ?_
            rotate_left
            ·(intro w hSw; (try dsimp only at hSw); go_simp); (try with_reducible rfl)
            try simp only [Act.put, zS]
            refine wpAnyH_take (i := 3) (oi := ⟨some 233, .binOp .rem 3 (.tmp 232) (.const (.int .i64 256)) 3, 3, "law.go:392", #[⟨2, .data⟩], none⟩) (v := ?_) rfl (by kernel_rfl) (by kernel_rfl) (by kernel_rfl) (fun _ _ _ h => h) (Or.inl ⟨by rfl, ?_⟩) (by assumption) ?_
            rotate_left
            ·(intro w hSw; (try dsimp only at hSw); go_simp); (try with_reducible rfl)
            try simp only [Act.put, zS]
            refine wpAnyH_take (i := 5) (oi := ⟨some 235, .fieldAddr 34 (.tmp 3) 1, 0, "law.go:392", #[], none⟩) (v := ?_) rfl (by kernel_rfl) (by kernel_rfl) (by kernel_rfl) (fun _ _ _ h => h) (Or.inl ⟨by rfl, ?_⟩) (by assumption) ?_
            rotate_left
            ·(intro w hSw; (try dsimp only at hSw); go_simp); (try with_reducible rfl)
            try simp only [Act.put, zS]
            refine wpAnyH_take (i := 6) (oi := ⟨some 236, .load 32 (.tmp 235), 32, "law.go:392", #[⟨5, .data⟩], none⟩) (v := ?_) rfl (by kernel_rfl) (by kernel_rfl) (by kernel_rfl) (fun _ _ _ h => h) (Or.inl ⟨by rfl, ?_⟩) (by assumption) ?_
            rotate_left
            ·(intro w hSw; (try dsimp only at hSw); go_simp); (try with_reducible rfl)
            try simp only [Act.put, zS]
            refine wpAnyH_ready (rs := [4, 9]) (by kernel_rfl) (by simp) ?_
            refine (AllReadyH.cons (o := ⟨some 234, .buildSlice 32 0 #[], 32, "law.go:392", #[], none⟩) rfl (fun K hK => ?_) (AllReadyH.cons (o := ⟨some 28, .alloc 34, 0, "law.go:392", #[], none⟩) rfl (fun K hK => ?_) AllReadyH.nil))
            ·go_simp
             obtain ⟨wz4, hwz⟩ : ∃ v, v = wzd.alloc (Obj.cells #[] 56) := ⟨_, rfl⟩
             rw [← hwz]
             have hl : Below wzd.heap.size wzd wz4 := by rw [hwz]; exact below_new _ _
             have hbz4 := bthen hbzd hl
             obtain ⟨G4, hG4⟩ : ∃ G, G = wzd.heap.size := ⟨_, rfl⟩
             rw [← hG4]
             clear hG4
             clear hwz
             have hAq := hAq.carry hl
             clear hl
             refine hK.out _ _ ⟨cellb c30 hbz4, cellb c31 hbz4⟩ (fun hHeld1 => ?_)
             clear hK K hHeld0
             try simp only [Act.put, zS]
             refine wpAnyH_ready (rs := [7, 9]) (by kernel_rfl) (by simp) ?_
             refine (AllReadyH.cons (o := ⟨some 237, .call ⟨.builtin .append, #[.tmp 234, .tmp 236], #[32, 32]⟩, 32, "law.go:392", #[⟨4, .data⟩, ⟨6, .data⟩], none⟩) rfl (fun K hK => ?_) (AllReadyH.cons (o := ⟨some 28, .alloc 34, 0, "law.go:392", #[], none⟩) rfl (fun K hK => ?_) AllReadyH.nil))
             ·refine wp_copy_train (.tmp 234) (.tmp 236) rfl G4 0 rfl _ la rfl hAq (by rw [← HN.out]; omega) ?_
              intro u wz7 hcu hl
              obtain ⟨ua, uc, rfl, -⟩ := hcu.1.slice
              have hbz7 := bthen hbz4 hl
              have hAq := hAq.carry hl
              clear hl
              refine hK.out _ _ ⟨cellb c30 hbz7, cellb c31 hbz7⟩ (fun hHeld2 => ?_)
              clear hK K hHeld1
              try simp only [Act.put, zS]
              refine wpAnyH_take (i := 8) (oi := ⟨some 238, .build 34 #[(0, .tmp 233), (1, .tmp 237)], 34, "law.go:392", #[⟨3, .data⟩, ⟨7, .data⟩], none⟩) (v := ?_) rfl (by kernel_rfl) (by kernel_rfl) (by kernel_rfl) (fun _ _ _ h => h) (Or.inl ⟨by rfl, ?_⟩) (by assumption) ?_
              rotate_left
              ·(intro w hSw; (try dsimp only at hSw); go_simp); (try with_reducible rfl)
              try simp only [Act.put, zS]
              refine wpAnyH_ready (rs := [9]) (by kernel_rfl) (by simp) ?_
              refine (AllReadyH.cons (o := ⟨some 28, .alloc 34, 0, "law.go:392", #[], none⟩) rfl (fun K hK => ?_) AllReadyH.nil)
              go_simp
              obtain ⟨wz9, hwz⟩ : ∃ v, v = wz7.alloc (Obj.cells #[.int .i64 0, .slice none 0 0] 34) := ⟨_, rfl⟩
              rw [← hwz]
              have hl : Below wz7.heap.size wz7 wz9 := by rw [hwz]; exact below_new _ _
              have hbz9 := bthen hbz7 hl
              have i28 : Blk wz9 wz7.heap.size 34 [.int .i64 0, .slice none 0 0] := by rw [hwz]; exact Blk.new _ _ _
              have hG28 : W8.heap.size ≤ wz7.heap.size := (hbz7).size
              generalize wz7.heap.size = G28 at i28 hG28 ⊢
              clear hwz
              have hAq := hAq.carry hl
              have hcu := hcu.carry hl
              clear hl
              refine hK.out _ _ ⟨cellb c30 hbz9, cellb c31 hbz9⟩ (fun hHeld3 => ?_)
              clear hK K hHeld2
              try simp only [Act.put, zS]
              refine wpAnyH_ready (rs := [10]) (by kernel_rfl) (by simp) ?_
              refine (AllReadyH.cons (o := ⟨none, .store 34 (.tmp 28) (.tmp 238), 0, "law.go:392", #[⟨9, .data⟩, ⟨8, .data⟩, ⟨7, .chain⟩, ⟨0, .phase⟩, ⟨1, .phase⟩, ⟨2, .phase⟩, ⟨3, .phase⟩, ⟨4, .phase⟩, ⟨5, .phase⟩, ⟨6, .phase⟩, ⟨7, .phase⟩, ⟨8, .phase⟩, ⟨9, .phase⟩], none⟩) rfl (fun K hK => ?_) AllReadyH.nil)
              have fr0 := i28.frozen 0
              have fr1 := i28.frozen 1
              have g0 := i28.cell (j := 0) (v := .int .i64 0) rfl
              have g1 := i28.cell (j := 1) (v := .slice none 0 0) rfl
              go_simp
              obtain ⟨wz10, hwz⟩ : ∃ v, v = ((wz9.setCell ⟨G28, 0, none⟩ (.int .i64 tc)).setCell ⟨G28, 1, none⟩ (.slice ua la.length uc)) := ⟨_, rfl⟩
              rw [← hwz]
              have hbz10 : Below W8.heap.size W8 wz10 := by rw [hwz]; exact below_setC (below_setC hbz9 G28 0 hG28 (.int .i64 tc)) G28 1 hG28 (.slice ua la.length uc)
              have j28 := (i28.set 0 (.int .i64 tc)).set 1 (.slice ua la.length uc)
              have jcu := (hcu.other i28 0 (.int .i64 tc)).other (i28.set 0 (.int .i64 tc)) 1 (.slice ua la.length uc)
              rw [← hwz] at j28 jcu
              clear hwz
              refine hK.out _ _ ⟨cellb c30 hbz10, cellb c31 hbz10⟩ (fun hHeld4 => ?_)
              clear hK K hHeld3
              try simp only [Act.put, zS]
              refine wpAnyH_done (by kernel_rfl) ?_ _
              clear hHeld4
              have hb2 := hbz10
              obtain ⟨W9, hW9⟩ : ∃ v, v = wz10 := ⟨_, rfl⟩
              rw [← hW9] at hb2 j28 jcu ⊢
              clear hW9
              go_wp2_with fail
              go_meet
              exact ⟨_, _, _, rfl, j28, jcu.1, hb2⟩
             ·go_simp
              obtain ⟨wz9, hwz⟩ : ∃ v, v = wz4.alloc (Obj.cells #[.int .i64 0, .slice none 0 0] 34) := ⟨_, rfl⟩
              rw [← hwz]
              have hl : Below wz4.heap.size wz4 wz9 := by rw [hwz]; exact below_new _ _
              have hbz9 := bthen hbz4 hl
              have i28 : Blk wz9 wz4.heap.size 34 [.int .i64 0, .slice none 0 0] := by rw [hwz]; exact Blk.new _ _ _
              have hG28 : W8.heap.size ≤ wz4.heap.size := (hbz4).size
              generalize wz4.heap.size = G28 at i28 hG28 ⊢
              clear hwz
              have hAq := hAq.carry hl
              clear hl
              refine hK.out _ _ ⟨cellb c30 hbz9, cellb c31 hbz9⟩ (fun hHeld2 => ?_)
              clear hK K hHeld1
              try simp only [Act.put, zS]
              refine wpAnyH_ready (rs := [7]) (by kernel_rfl) (by simp) ?_
              refine (AllReadyH.cons (o := ⟨some 237, .call ⟨.builtin .append, #[.tmp 234, .tmp 236], #[32, 32]⟩, 32, "law.go:392", #[⟨4, .data⟩, ⟨6, .data⟩], none⟩) rfl (fun K hK => ?_) AllReadyH.nil)
              refine wp_copy_train (.tmp 234) (.tmp 236) rfl G4 0 rfl _ la rfl hAq (by rw [← HN.out]; omega) ?_
              intro u wz7 hcu hl
              obtain ⟨ua, uc, rfl, -⟩ := hcu.1.slice
              have hbz7 := bthen hbz9 hl
              have hAq := hAq.carry hl
              have i28 := i28.carry hl
              clear hl
              refine hK.out _ _ ⟨cellb c30 hbz7, cellb c31 hbz7⟩ (fun hHeld3 => ?_)
              clear hK K hHeld2
              try simp only [Act.put, zS]
              refine wpAnyH_take (i := 8) (oi := ⟨some 238, .build 34 #[(0, .tmp 233), (1, .tmp 237)], 34, "law.go:392", #[⟨3, .data⟩, ⟨7, .data⟩], none⟩) (v := ?_) rfl (by kernel_rfl) (by kernel_rfl) (by kernel_rfl) (fun _ _ _ h => h) (Or.inl ⟨by rfl, ?_⟩) (by assumption) ?_
              rotate_left
              ·(intro w hSw; (try dsimp only at hSw); go_simp); (try with_reducible rfl)
              try simp only [Act.put, zS]
              refine wpAnyH_ready (rs := [10]) (by kernel_rfl) (by simp) ?_
              refine (AllReadyH.cons (o := ⟨none, .store 34 (.tmp 28) (.tmp 238), 0, "law.go:392", #[⟨9, .data⟩, ⟨8, .data⟩, ⟨7, .chain⟩, ⟨0, .phase⟩, ⟨1, .phase⟩, ⟨2, .phase⟩, ⟨3, .phase⟩, ⟨4, .phase⟩, ⟨5, .phase⟩, ⟨6, .phase⟩, ⟨7, .phase⟩, ⟨8, .phase⟩, ⟨9, .phase⟩], none⟩) rfl (fun K hK => ?_) AllReadyH.nil)
              have fr0 := i28.frozen 0
              have fr1 := i28.frozen 1
              have g0 := i28.cell (j := 0) (v := .int .i64 0) rfl
              have g1 := i28.cell (j := 1) (v := .slice none 0 0) rfl
              go_simp
              obtain ⟨wz10, hwz⟩ : ∃ v, v = ((wz7.setCell ⟨G28, 0, none⟩ (.int .i64 tc)).setCell ⟨G28, 1, none⟩ (.slice ua la.length uc)) := ⟨_, rfl⟩
              rw [← hwz]
              have hbz10 : Below W8.heap.size W8 wz10 := by rw [hwz]; exact below_setC (below_setC hbz7 G28 0 hG28 (.int .i64 tc)) G28 1 hG28 (.slice ua la.length uc)
              have j28 := (i28.set 0 (.int .i64 tc)).set 1 (.slice ua la.length uc)
              have jcu := (hcu.other i28 0 (.int .i64 tc)).other (i28.set 0 (.int .i64 tc)) 1 (.slice ua la.length uc)
              rw [← hwz] at j28 jcu
              clear hwz
              refine hK.out _ _ ⟨cellb c30 hbz10, cellb c31 hbz10⟩ (fun hHeld4 => ?_)
              clear hK K hHeld3
              try simp only [Act.put, zS]
              refine wpAnyH_done (by kernel_rfl) ?_ _
              clear hHeld4
              have hb2 := hbz10
              obtain ⟨W9, hW9⟩ : ∃ v, v = wz10 := ⟨_, rfl⟩
              rw [← hW9] at hb2 j28 jcu ⊢
              clear hW9
              go_wp2_with fail
              go_meet
              exact ⟨_, _, _, rfl, j28, jcu.1, hb2⟩
            ·go_simp
             obtain ⟨wz9, hwz⟩ : ∃ v, v = wzd.alloc (Obj.cells #[.int .i64 0, .slice none 0 0] 34) := ⟨_, rfl⟩
             rw [← hwz]
             have hl : Below wzd.heap.size wzd wz9 := by rw [hwz]; exact below_new _ _
             have hbz9 := bthen hbzd hl
             have i28 : Blk wz9 wzd.heap.size 34 [.int .i64 0, .slice none 0 0] := by rw [hwz]; exact Blk.new _ _ _
             have hG28 : W8.heap.size ≤ wzd.heap.size := (hbzd).size
             generalize wzd.heap.size = G28 at i28 hG28 ⊢
             clear hwz
             have hAq := hAq.carry hl
             clear hl
             refine hK.out _ _ ⟨cellb c30 hbz9, cellb c31 hbz9⟩ (fun hHeld1 => ?_)
             clear hK K hHeld0
             try simp only [Act.put, zS]
             refine wpAnyH_ready (rs := [4]) (by kernel_rfl) (by simp) ?_
             refine (AllReadyH.cons (o := ⟨some 234, .buildSlice 32 0 #[], 32, "law.go:392", #[], none⟩) rfl (fun K hK => ?_) AllReadyH.nil)
             go_simp
             obtain ⟨wz4, hwz⟩ : ∃ v, v = wz9.alloc (Obj.cells #[] 56) := ⟨_, rfl⟩
             rw [← hwz]
             have hl : Below wz9.heap.size wz9 wz4 := by rw [hwz]; exact below_new _ _
             have hbz4 := bthen hbz9 hl
             obtain ⟨G4, hG4⟩ : ∃ G, G = wz9.heap.size := ⟨_, rfl⟩
             rw [← hG4]
             clear hG4
             clear hwz
             have hAq := hAq.carry hl
             have i28 := i28.carry hl
             clear hl
             refine hK.out _ _ ⟨cellb c30 hbz4, cellb c31 hbz4⟩ (fun hHeld2 => ?_)
             clear hK K hHeld1
             try simp only [Act.put, zS]
             refine wpAnyH_ready (rs := [7]) (by kernel_rfl) (by simp) ?_
             refine (AllReadyH.cons (o := ⟨some 237, .call ⟨.builtin .append, #[.tmp 234, .tmp 236], #[32, 32]⟩, 32, "law.go:392", #[⟨4, .data⟩, ⟨6, .data⟩], none⟩) rfl (fun K hK => ?_) AllReadyH.nil)
             refine wp_copy_train (.tmp 234) (.tmp 236) rfl G4 0 rfl _ la rfl hAq (by rw [← HN.out]; omega) ?_
             intro u wz7 hcu hl
             obtain ⟨ua, uc, rfl, -⟩ := hcu.1.slice
             have hbz7 := bthen hbz4 hl
             have hAq := hAq.carry hl
             have i28 := i28.carry hl
             clear hl
             refine hK.out _ _ ⟨cellb c30 hbz7, cellb c31 hbz7⟩ (fun hHeld3 => ?_)
             clear hK K hHeld2
             try simp only [Act.put, zS]
             refine wpAnyH_take (i := 8) (oi := ⟨some 238, .build 34 #[(0, .tmp 233), (1, .tmp 237)], 34, "law.go:392", #[⟨3, .data⟩, ⟨7, .data⟩], none⟩) (v := ?_) rfl (by kernel_rfl) (by kernel_rfl) (by kernel_rfl) (fun _ _ _ h => h) (Or.inl ⟨by rfl, ?_⟩) (by assumption) ?_
             rotate_left
             ·(intro w hSw; (try dsimp only at hSw); go_simp); (try with_reducible rfl)
             try simp only [Act.put, zS]
             refine wpAnyH_ready (rs := [10]) (by kernel_rfl) (by simp) ?_
             refine (AllReadyH.cons (o := ⟨none, .store 34 (.tmp 28) (.tmp 238), 0, "law.go:392", #[⟨9, .data⟩, ⟨8, .data⟩, ⟨7, .chain⟩, ⟨0, .phase⟩, ⟨1, .phase⟩, ⟨2, .phase⟩, ⟨3, .phase⟩, ⟨4, .phase⟩, ⟨5, .phase⟩, ⟨6, .phase⟩, ⟨7, .phase⟩, ⟨8, .phase⟩, ⟨9, .phase⟩], none⟩) rfl (fun K hK => ?_) AllReadyH.nil)
             have fr0 := i28.frozen 0
             have fr1 := i28.frozen 1
             have g0 := i28.cell (j := 0) (v := .int .i64 0) rfl
             have g1 := i28.cell (j := 1) (v := .slice none 0 0) rfl
             go_simp
             obtain ⟨wz10, hwz⟩ : ∃ v, v = ((wz7.setCell ⟨G28, 0, none⟩ (.int .i64 tc)).setCell ⟨G28, 1, none⟩ (.slice ua la.length uc)) := ⟨_, rfl⟩
             rw [← hwz]
             have hbz10 : Below W8.heap.size W8 wz10 := by rw [hwz]; exact below_setC (below_setC hbz7 G28 0 hG28 (.int .i64 tc)) G28 1 hG28 (.slice ua la.length uc)
             have j28 := (i28.set 0 (.int .i64 tc)).set 1 (.slice ua la.length uc)
             have jcu := (hcu.other i28 0 (.int .i64 tc)).other (i28.set 0 (.int .i64 tc)) 1 (.slice ua la.length uc)
             rw [← hwz] at j28 jcu
             clear hwz
             refine hK.out _ _ ⟨cellb c30 hbz10, cellb c31 hbz10⟩ (fun hHeld4 => ?_)
             clear hK K hHeld3
             try simp only [Act.put, zS]
             refine wpAnyH_done (by kernel_rfl) ?_ _
             clear hHeld4
             have hb2 := hbz10
             obtain ⟨W9, hW9⟩ : ∃ v, v = wz10 := ⟨_, rfl⟩
             rw [← hW9] at hb2 j28 jcu ⊢
             clear hW9
             go_wp2_with fail
             go_meet
             exact ⟨_, _, _, rfl, j28, jcu.1, hb2⟩
           case rest =>
            obtain ⟨Gt, ua, uc, rfl, i28, hT, hb2⟩ := hcut
            obtain ⟨W9, hW9⟩ : ∃ x, x = wc := ⟨_, rfl⟩
            subst hW9
            replace hbel := bthen hbel hb2
            clear hb2 c30 c31 hAq
            have KB := bthen HB6.out hbel
            have HI28 := Lib.hid i28
            have HTW := Lib.hid hT
            have c30 := (I3.out.carry KB).cell (j := 0) (v := .int .i64 ca) rfl
            have c31 := (I3.out.carry KB).cell (j := 1) (v := .slice a1 N p1) rfl
            have t0 := i28.cell (j := 0) (v := .int .i64 tc) rfl
            have t1 := i28.cell (j := 1) (v := .slice ua la.length uc) rfl
            have LT := Lib.hid (fun W (h : Prs W (.slice ua la.length uc) la) => logL_any tc ua la.length uc la W (by rw [← HN.out]; omega) h)
            have HZT := Lib.hid (logE_of HTC.out HK1.out.2)
            have hsw := twin_swt (fr := fr) HZ1.out HZT.out (by omega) (by rw [← HN.out]; omega)
            have hdf := twin_dif HZ1.out HZT.out
            have hsf := self_smooth HZ1.out
            have TS := Lib.hid (fun x1 m1 q1 x2 m2 q2 W h1 h2 => Switched_any ca tc fr x1 x2 m1 q1 m2 q2 la la W (by rw [← HN.out]; omega) (by rw [← HN.out]; omega) h1 h2)
            have TD := Lib.hid (fun x1 m1 q1 x2 m2 q2 W h1 h2 => Differ_any ca tc x1 x2 m1 q1 m2 q2 la la W (by rw [← HN.out]; omega) (by rw [← HN.out]; omega) h1 h2)
            have TC := Lib.hid (fun x1 m1 q1 x2 m2 q2 W h1 h2 => ChangeOver_any ca ca 0 1 x1 x2 m1 q1 m2 q2 la la W (by rw [← HN.out]; omega) (by rw [← HN.out]; omega) h1 h2)
            rw [hsw.1, hsw.2] at TS
            rw [hdf.1, hdf.2] at TD
            obtain ⟨VE, hVE⟩ : ∃ e, e = chE ca ca la la 0 1 := ⟨_, rfl⟩
            obtain ⟨VT, hVT⟩ : ∃ e, e = chT ca ca la la 0 1 := ⟨_, rfl⟩
            rw [← hVE, ← hVT] at TC hsf
            have HSF := Lib.hid hsf
            clear hsw hdf hsf hVE hVT i28 hT
            go_upto_region 44 with fail
            refine wp_region_held_drew (S := (fun W => W.cell? ⟨w.heap.size, 0, none⟩ = some (.int .i64 ca) ∧ W.cell? ⟨w.heap.size, 1, none⟩ = some (.slice a1 N p1) ∧ W.cell? ⟨Gt, 0, none⟩ = some (.int .i64 tc) ∧ W.cell? ⟨Gt, 1, none⟩ = some (.slice ua la.length uc))) (by kernel_rfl) ⟨cellb c30 (Below.refl _ _).drew, cellb c31 (Below.refl _ _).drew, cellb t0 (Below.refl _ _).drew, cellb t1 (Below.refl _ _).drew⟩ (fun hHeld0 => ?_)
            obtain ⟨wzd, hwz⟩ : ∃ v, v = W9.drew := ⟨_, rfl⟩
            rw [← hwz] at hHeld0 ⊢
            have hbzd : Below W9.heap.size W9 wzd := by rw [hwz]; exact (Below.refl _ _).drew
            have hlzd : Below W9.heap.size W9 wzd := by rw [hwz]; exact (Below.refl _ _).drew
            clear hwz hlzd
            refine wpAnyH_take (i := 0) (oi := ⟨some 240, .load 34 (.tmp 3), 34, "law.go:393", #[], none⟩) (v := ?_) rfl (by kernel_rfl) (by kernel_rfl) (by kernel_rfl) (fun _ _ _ h => h) (Or.inl ⟨by rfl, ?_⟩) (by assumption) ?_
            rotate_left
            ·(intro w hSw; (try dsimp only at hSw); go_simp); (try with_reducible rfl)
            try simp only [Act.put, zS]
            refine wpAnyH_take (i := 2) (oi := ⟨some 242, .load 34 (.tmp 28), 34, "law.go:393", #[], none⟩) (v := ?_) rfl (by kernel_rfl) (by kernel_rfl) (by kernel_rfl) (fun _ _ _ h => h) (Or.inl ⟨by rfl, ?_⟩) (by assumption) ?_
            rotate_left
            ·(intro w hSw; (try dsimp only at hSw); go_simp); (try with_reducible rfl)
            try simp only [Act.put, zS]
            refine wpAnyH_take (i := 4) (oi := ⟨some 244, .move (.tmp 7), 3, "law.go:393", #[], none⟩) (v := ?_) rfl (by kernel_rfl) (by kernel_rfl) (by kernel_rfl) (fun _ _ _ h => h) (Or.inl ⟨by rfl, ?_⟩) (by assumption) ?_
            rotate_left
            ·(intro w hSw; (try dsimp only at hSw); go_simp); (try with_reducible rfl)
            try simp only [Act.put, zS]
            refine wpAnyH_ready (rs := [1]) (by kernel_rfl) (by simp) ?_
            refine (AllReadyH.cons (o := ⟨some 241, .call ⟨.value (.func 19), #[.tmp 240], #[34]⟩, 53, "law.go:393", #[⟨0, .data⟩], none⟩) rfl (fun K hK => ?_) AllReadyH.nil)
            go_simp
            refine (L1.out wzd (HA.out.carry (bthen K3.out (bthen KB hbzd)))).mono ?_
            rintro e wz1 ⟨⟨x1, m1, q1, rfl, h1⟩, hl⟩
            (try go_wp2_with fail)
            have hbz1 := bthen hbzd hl
            clear hl
            refine hK.out _ _ ⟨cellb c30 hbz1, cellb c31 hbz1, cellb t0 hbz1, cellb t1 hbz1⟩ (fun hHeld1 => ?_)
            clear hK K hHeld0
            try simp only [Act.put, zS]
            refine wpAnyH_ready (rs := [3]) (by kernel_rfl) (by simp) ?_
            refine (AllReadyH.cons (o := ⟨some 243, .call ⟨.value (.func 19), #[.tmp 242], #[34]⟩, 53, "law.go:393", #[⟨2, .data⟩, ⟨1, .chain⟩], none⟩) rfl (fun K hK => ?_) AllReadyH.nil)
            go_simp
            refine (LT.out wz1 (HTW.out.carry hbz1)).mono ?_
            rintro e wz3 ⟨⟨x2, m2, q2, rfl, h2⟩, hl⟩
            (try go_wp2_with fail)
            have hbz3 := bthen hbz1 hl
            have h1 := h1.carry hl
            clear hl
            refine hK.out _ _ ⟨cellb c30 hbz3, cellb c31 hbz3, cellb t0 hbz3, cellb t1 hbz3⟩ (fun hHeld2 => ?_)
            clear hK K hHeld1
            try simp only [Act.put, zS]
            refine wpAnyH_ready (rs := [5]) (by kernel_rfl) (by simp) ?_
            refine (AllReadyH.cons (o := ⟨some 245, .call ⟨.value (.func 21), #[.tmp 241, .tmp 243, .tmp 244], #[53, 53, 3]⟩, 28, "law.go:393", #[⟨1, .data⟩, ⟨3, .data⟩, ⟨4, .data⟩, ⟨3, .chain⟩], none⟩) rfl (fun K hK => ?_) AllReadyH.nil)
            go_simp
            refine (TS.out x1 m1 q1 x2 m2 q2 wz3 h1 h2).mono ?_
            rintro e wz5 ⟨⟨u29, rfl, h29⟩, hl⟩
            (try go_wp2_with fail)
            have hbz5 := bthen hbz3 hl
            have h1 := h1.carry hl
            have h2 := h2.carry hl
            clear hl
            refine hK.out _ _ ⟨cellb c30 hbz5, cellb c31 hbz5, cellb t0 hbz5, cellb t1 hbz5⟩ (fun hHeld3 => ?_)
            clear hK K hHeld2
            try simp only [Act.put, zS]
            refine wpAnyH_take (i := 6) (oi := ⟨some 239, .move (.tmp 245), 28, "law.go:393", #[⟨5, .data⟩], none⟩) (v := ?_) rfl (by kernel_rfl) (by kernel_rfl) (by kernel_rfl) (fun _ _ _ h => h) (Or.inl ⟨by rfl, ?_⟩) (by assumption) ?_
            rotate_left
            ·(intro w hSw; (try dsimp only at hSw); go_simp); (try with_reducible rfl)
            try simp only [Act.put, zS]
            refine wpAnyH_take (i := 7) (oi := ⟨some 246, .extract (.tmp 239) 0, 26, "law.go:393", #[⟨6, .data⟩], none⟩) (v := ?_) rfl (by kernel_rfl) (by kernel_rfl) (by kernel_rfl) (fun _ _ _ h => h) (Or.inl ⟨by rfl, ?_⟩) (by assumption) ?_
            rotate_left
            ·(intro w hSw; (try dsimp only at hSw); go_simp); (try with_reducible rfl)
            try simp only [Act.put, zS]
            refine wpAnyH_take (i := 8) (oi := ⟨some 247, .extract (.tmp 239) 1, 27, "law.go:393", #[⟨6, .data⟩, { on := 9, ground := Ground.gcOnly Departure.lateStores }], none⟩) (v := ?_) rfl (by kernel_rfl) (by kernel_rfl) (by kernel_rfl) (fun _ _ _ h => h) (Or.inl ⟨by rfl, ?_⟩) (by assumption) ?_
            rotate_left
            ·(intro w hSw; (try dsimp only at hSw); go_simp); (try with_reducible rfl)
            try simp only [Act.put, zS]
            refine wpAnyH_take (i := 9) (oi := ⟨some 29, .assign (.tmp 246), 26, "law.go:393", #[⟨7, .data⟩, ⟨5, .chain⟩, ⟨0, .phase⟩, ⟨1, .phase⟩, ⟨2, .phase⟩, ⟨3, .phase⟩, ⟨4, .phase⟩, ⟨5, .phase⟩, ⟨6, .phase⟩, ⟨7, .phase⟩, { on := 8, ground := Ground.textOnly Departure.lateStores }], none⟩) (v := ?_) rfl (by kernel_rfl) (by kernel_rfl) (by kernel_rfl) (fun _ _ _ h => h) (Or.inl ⟨by rfl, ?_⟩) (by assumption) ?_
            rotate_left
            ·(intro w hSw; (try dsimp only at hSw); go_simp); (try with_reducible rfl)
            try simp only [Act.put, zS]
            refine wpAnyH_take (i := 10) (oi := ⟨some 30, .assign (.tmp 247), 27, "law.go:393", #[⟨8, .data⟩, ⟨9, .chain⟩, ⟨0, .phase⟩, ⟨1, .phase⟩, ⟨2, .phase⟩, ⟨3, .phase⟩, ⟨4, .phase⟩, ⟨5, .phase⟩, ⟨6, .phase⟩, ⟨7, .phase⟩, ⟨8, .phase⟩, ⟨9, .phase⟩], none⟩) (v := ?_) rfl (by kernel_rfl) (by kernel_rfl) (by kernel_rfl) (fun _ _ _ h => h) (Or.inl ⟨by rfl, ?_⟩) (by assumption) ?_
            rotate_left
            ·(intro w hSw; (try dsimp only at hSw); go_simp); (try with_reducible rfl)
            try simp only [Act.put, zS]
            refine wpAnyH_done (by kernel_rfl) ?_ _
            clear hHeld3
            have hb2 := hbz5
            obtain ⟨W10, hW10⟩ : ∃ v, v = wz5 := ⟨_, rfl⟩
            rw [← hW10] at hb2 h29 ⊢
            clear hW10
            have H29 := Lib.hid h29
            have HB10 := Lib.hid hb2
            clear h1 h2 h29 c30 c31 t0 t1 LT TS
            have c30 := (I3.out.carry (bthen KB HB10.out)).cell (j := 0) (v := .int .i64 ca) rfl
            have c31 := (I3.out.carry (bthen KB HB10.out)).cell (j := 1) (v := .slice a1 N p1) rfl
            have t0 := (HI28.out.carry HB10.out).cell (j := 0) (v := .int .i64 tc) rfl
            have t1 := (HI28.out.carry HB10.out).cell (j := 1) (v := .slice ua la.length uc) rfl
            have LT := Lib.hid (fun W (h : Prs W (.slice ua la.length uc) la) => logL_any tc ua la.length uc la W (by rw [← HN.out]; omega) h)
            clear hb2
            go_upto_region 45 with fail
            refine wp_region_held_drew (S := (fun W => W.cell? ⟨w.heap.size, 0, none⟩ = some (.int .i64 ca) ∧ W.cell? ⟨w.heap.size, 1, none⟩ = some (.slice a1 N p1) ∧ W.cell? ⟨Gt, 0, none⟩ = some (.int .i64 tc) ∧ W.cell? ⟨Gt, 1, none⟩ = some (.slice ua la.length uc))) (by kernel_rfl) ⟨cellb c30 (Below.refl _ _).drew, cellb c31 (Below.refl _ _).drew, cellb t0 (Below.refl _ _).drew, cellb t1 (Below.refl _ _).drew⟩ (fun hHeld0 => ?_)
            obtain ⟨wzd, hwz⟩ : ∃ v, v = W10.drew := ⟨_, rfl⟩
            rw [← hwz] at hHeld0 ⊢
            have hbzd : Below W10.heap.size W10 wzd := by rw [hwz]; exact (Below.refl _ _).drew
            have hlzd : Below W10.heap.size W10 wzd := by rw [hwz]; exact (Below.refl _ _).drew
            clear hwz hlzd
            refine wpAnyH_take (i := 0) (oi := ⟨some 249, .load 34 (.tmp 3), 34, "law.go:394", #[], none⟩) (v := ?_) rfl (by kernel_rfl) (by kernel_rfl) (by kernel_rfl) (fun _ _ _ h => h) (Or.inl ⟨by rfl, ?_⟩) (by assumption) ?_
            rotate_left
            ·(intro w hSw; (try dsimp only at hSw); go_simp); (try with_reducible rfl)
            try simp only [Act.put, zS]
            refine wpAnyH_take (i := 2) (oi := ⟨some 251, .load 34 (.tmp 28), 34, "law.go:394", #[], none⟩) (v := ?_) rfl (by kernel_rfl) (by kernel_rfl) (by kernel_rfl) (fun _ _ _ h => h) (Or.inl ⟨by rfl, ?_⟩) (by assumption) ?_
            rotate_left
            ·(intro w hSw; (try dsimp only at hSw); go_simp); (try with_reducible rfl)
            try simp only [Act.put, zS]
            refine wpAnyH_ready (rs := [1]) (by kernel_rfl) (by simp) ?_
            refine (AllReadyH.cons (o := ⟨some 250, .call ⟨.value (.func 19), #[.tmp 249], #[34]⟩, 53, "law.go:394", #[⟨0, .data⟩], none⟩) rfl (fun K hK => ?_) AllReadyH.nil)
            go_simp
            refine (L1.out wzd (HA.out.carry (bthen K3.out (bthen (bthen KB HB10.out) hbzd)))).mono ?_
            rintro e wz1 ⟨⟨x1, m1, q1, rfl, h1⟩, hl⟩
            (try go_wp2_with fail)
            have hbz1 := bthen hbzd hl
            clear hl
            refine hK.out _ _ ⟨cellb c30 hbz1, cellb c31 hbz1, cellb t0 hbz1, cellb t1 hbz1⟩ (fun hHeld1 => ?_)
            clear hK K hHeld0
            try simp only [Act.put, zS]
            refine wpAnyH_ready (rs := [3]) (by kernel_rfl) (by simp) ?_
            refine (AllReadyH.cons (o := ⟨some 252, .call ⟨.value (.func 19), #[.tmp 251], #[34]⟩, 53, "law.go:394", #[⟨2, .data⟩, ⟨1, .chain⟩], none⟩) rfl (fun K hK => ?_) AllReadyH.nil)
            go_simp
            refine (LT.out wz1 (HTW.out.carry (bthen HB10.out hbz1))).mono ?_
            rintro e wz3 ⟨⟨x2, m2, q2, rfl, h2⟩, hl⟩
            (try go_wp2_with fail)
            have hbz3 := bthen hbz1 hl
            have h1 := h1.carry hl
            clear hl
            refine hK.out _ _ ⟨cellb c30 hbz3, cellb c31 hbz3, cellb t0 hbz3, cellb t1 hbz3⟩ (fun hHeld2 => ?_)
            clear hK K hHeld1
            try simp only [Act.put, zS]
            refine wpAnyH_ready (rs := [4]) (by kernel_rfl) (by simp) ?_
            refine (AllReadyH.cons (o := ⟨some 253, .call ⟨.value (.func 26), #[.tmp 250, .tmp 252], #[53, 53]⟩, 62, "law.go:394", #[⟨1, .data⟩, ⟨3, .data⟩, ⟨3, .chain⟩], none⟩) rfl (fun K hK => ?_) AllReadyH.nil)
            go_simp
            refine (TD.out x1 m1 q1 x2 m2 q2 wz3 h1 h2).mono ?_
            rintro e wz4 ⟨rfl, hl⟩
            (try go_wp2_with fail)
            have hbz4 := bthen hbz3 hl
            have h1 := h1.carry hl
            have h2 := h2.carry hl
            clear hl
            refine hK.out _ _ ⟨cellb c30 hbz4, cellb c31 hbz4, cellb t0 hbz4, cellb t1 hbz4⟩ (fun hHeld3 => ?_)
            clear hK K hHeld2
            try simp only [Act.put, zS]
            refine wpAnyH_take (i := 5) (oi := ⟨some 248, .move (.tmp 253), 62, "law.go:394", #[⟨4, .data⟩], none⟩) (v := ?_) rfl (by kernel_rfl) (by kernel_rfl) (by kernel_rfl) (fun _ _ _ h => h) (Or.inl ⟨by rfl, ?_⟩) (by assumption) ?_
            rotate_left
            ·(intro w hSw; (try dsimp only at hSw); go_simp); (try with_reducible rfl)
            try simp only [Act.put, zS]
            refine wpAnyH_take (i := 6) (oi := ⟨some 254, .extract (.tmp 248) 0, 3, "law.go:394", #[⟨5, .data⟩], none⟩) (v := ?_) rfl (by kernel_rfl) (by kernel_rfl) (by kernel_rfl) (fun _ _ _ h => h) (Or.inl ⟨by rfl, ?_⟩) (by assumption) ?_
            rotate_left
            ·(intro w hSw; (try dsimp only at hSw); go_simp); (try with_reducible rfl)
            try simp only [Act.put, zS]
            refine wpAnyH_take (i := 7) (oi := ⟨some 255, .extract (.tmp 248) 1, 4, "law.go:394", #[⟨5, .data⟩, { on := 9, ground := Ground.gcOnly Departure.lateStores }], none⟩) (v := ?_) rfl (by kernel_rfl) (by kernel_rfl) (by kernel_rfl) (fun _ _ _ h => h) (Or.inl ⟨by rfl, ?_⟩) (by assumption) ?_
            rotate_left
            ·(intro w hSw; (try dsimp only at hSw); go_simp); (try with_reducible rfl)
            try simp only [Act.put, zS]
            refine wpAnyH_take (i := 8) (oi := ⟨some 256, .extract (.tmp 248) 2, 27, "law.go:394", #[⟨5, .data⟩, { on := 10, ground := Ground.gcOnly Departure.lateStores }], none⟩) (v := ?_) rfl (by kernel_rfl) (by kernel_rfl) (by kernel_rfl) (fun _ _ _ h => h) (Or.inl ⟨by rfl, ?_⟩) (by assumption) ?_
            rotate_left
            ·(intro w hSw; (try dsimp only at hSw); go_simp); (try with_reducible rfl)
            try simp only [Act.put, zS]
            refine wpAnyH_take (i := 9) (oi := ⟨some 31, .assign (.tmp 254), 3, "law.go:394", #[⟨6, .data⟩, ⟨4, .chain⟩, ⟨0, .phase⟩, ⟨1, .phase⟩, ⟨2, .phase⟩, ⟨3, .phase⟩, ⟨4, .phase⟩, ⟨5, .phase⟩, ⟨6, .phase⟩, { on := 7, ground := Ground.textOnly Departure.lateStores }, { on := 8, ground := Ground.textOnly Departure.lateStores }], none⟩) (v := ?_) rfl (by kernel_rfl) (by kernel_rfl) (by kernel_rfl) (fun _ _ _ h => h) (Or.inl ⟨by rfl, ?_⟩) (by assumption) ?_
            rotate_left
            ·(intro w hSw; (try dsimp only at hSw); go_simp); (try with_reducible rfl)
            try simp only [Act.put, zS]
            refine wpAnyH_take (i := 10) (oi := ⟨some 32, .assign (.tmp 255), 4, "law.go:394", #[⟨7, .data⟩, ⟨9, .chain⟩, ⟨0, .phase⟩, ⟨1, .phase⟩, ⟨2, .phase⟩, ⟨3, .phase⟩, ⟨4, .phase⟩, ⟨5, .phase⟩, ⟨6, .phase⟩, ⟨7, .phase⟩, { on := 8, ground := Ground.textOnly Departure.lateStores }, ⟨9, .phase⟩], none⟩) (v := ?_) rfl (by kernel_rfl) (by kernel_rfl) (by kernel_rfl) (fun _ _ _ h => h) (Or.inl ⟨by rfl, ?_⟩) (by assumption) ?_
            rotate_left
            ·(intro w hSw; (try dsimp only at hSw); go_simp); (try with_reducible rfl)
            try simp only [Act.put, zS]
            refine wpAnyH_take (i := 11) (oi := ⟨some 33, .assign (.tmp 256), 27, "law.go:394", #[⟨8, .data⟩, ⟨10, .chain⟩, ⟨0, .phase⟩, ⟨1, .phase⟩, ⟨2, .phase⟩, ⟨3, .phase⟩, ⟨4, .phase⟩, ⟨5, .phase⟩, ⟨6, .phase⟩, ⟨7, .phase⟩, ⟨8, .phase⟩, ⟨9, .phase⟩, ⟨10, .phase⟩], none⟩) (v := ?_) rfl (by kernel_rfl) (by kernel_rfl) (by kernel_rfl) (fun _ _ _ h => h) (Or.inl ⟨by rfl, ?_⟩) (by assumption) ?_
            rotate_left
            ·(intro w hSw; (try dsimp only at hSw); go_simp); (try with_reducible rfl)
            try simp only [Act.put, zS]
            refine wpAnyH_done (by kernel_rfl) ?_ _
            clear hHeld3
            have hb2 := hbz4
            obtain ⟨W11, hW11⟩ : ∃ v, v = wz4 := ⟨_, rfl⟩
            rw [← hW11] at hb2 ⊢
            clear hW11
            have HB11 := Lib.hid (bthen HB10.out hb2)
            have h29q := H29.out.carry hb2
            clear hb2 h1 h2 c30 c31 t0 t1 LT TD
            have hAq := HA.out.carry (bthen K3.out (bthen KB HB11.out))
            have c31 := (I3.out.carry (bthen KB HB11.out)).cell (j := 1) (v := .slice a1 N p1) rfl
            go_upto_region 46 with fail
            refine wp_region_held_drew (S := (fun W => W.cell? ⟨w.heap.size, 1, none⟩ = some (.slice a1 N p1))) (by kernel_rfl) (cellb c31 (Below.refl _ _).drew) (fun hHeld0 => ?_)
            obtain ⟨wzd, hwz⟩ : ∃ v, v = W11.drew := ⟨_, rfl⟩
            rw [← hwz] at hHeld0 ⊢
            have hbzd : Below W11.heap.size W11 wzd := by rw [hwz]; exact (Below.refl _ _).drew
            have hlzd : Below W11.heap.size W11 wzd := by rw [hwz]; exact (Below.refl _ _).drew
            have h29q := h29q.carry hlzd
            have hAq := hAq.carry hlzd
            clear hwz hlzd
            refine wpAnyH_take (i := 0) (oi := ⟨some 257, .move (.tmp 30), 27, "law.go:395", #[], none⟩) (v := ?_) rfl (by kernel_rfl) (by kernel_rfl) (by kernel_rfl) (fun _ _ _ h => h) (Or.inl ⟨by rfl, ?_⟩) (by assumption) ?_
            rotate_left
            ·(intro w hSw; (try dsimp only at hSw); go_simp); (try with_reducible rfl)
            try simp only [Act.put, zS]
            refine wpAnyH_take (i := 1) (oi := ⟨some 258, .binOp .neq 27 (.tmp 257) (.const (.int .i64 0)) 27, 4, "law.go:395", #[⟨0, .data⟩], none⟩) (v := ?_) rfl (by kernel_rfl) (by kernel_rfl) (by kernel_rfl) (fun _ _ _ h => h) (Or.inl ⟨by rfl, ?_⟩) (by assumption) ?_
            rotate_left
            ·(intro w hSw; (try dsimp only at hSw); go_simp); (try with_reducible rfl)
            try simp only [Act.put, zS]
            refine wpAnyH_take (i := 2) (oi := ⟨some 259, .move (.tmp 258), 4, "law.go:395", #[⟨1, .data⟩], none⟩) (v := ?_) rfl (by kernel_rfl) (by kernel_rfl) (by kernel_rfl) (fun _ _ _ h => h) (Or.inl ⟨by rfl, ?_⟩) (by assumption) ?_
            rotate_left
            ·(intro w hSw; (try dsimp only at hSw); go_simp); (try with_reducible rfl)
            try simp only [Act.put, zS]
            refine wpAnyH_take (i := 3) (oi := ⟨some 260, .move (.tmp 33), 27, "law.go:395", #[⟨2, .guard⟩], some (2, false)⟩) (v := ?_) rfl (by kernel_rfl) (by kernel_rfl) (by kernel_rfl) (fun _ _ _ h => h) (Or.inl ⟨by rfl, ?_⟩) (by assumption) ?_
            rotate_left
            ·(intro w hSw; (try dsimp only at hSw); go_simp); (try with_reducible rfl)
            try simp only [Act.put, zS]
            refine wpAnyH_take (i := 4) (oi := ⟨some 261, .binOp .neq 27 (.tmp 260) (.const (.int .i64 0)) 27, 4, "law.go:395", #[⟨3, .data⟩, ⟨2, .guard⟩], some (2, false)⟩) (v := ?_) rfl (by kernel_rfl) (by kernel_rfl) (by kernel_rfl) (fun _ _ _ h => h) (Or.inl ⟨by rfl, ?_⟩) (by assumption) ?_
            rotate_left
            ·(intro w hSw; (try dsimp only at hSw); go_simp); (try with_reducible rfl)
            try simp only [Act.put, zS]
            refine wpAnyH_take (i := 5) (oi := ⟨some 262, .pick (.tmp 259) (.const (.bool true)) (.tmp 261), 4, "law.go:395", #[⟨2, .data⟩, ⟨4, .data⟩], none⟩) (v := ?_) rfl (by kernel_rfl) (by kernel_rfl) (by kernel_rfl) (fun _ _ _ h => h) (Or.inl ⟨by rfl, ?_⟩) (by assumption) ?_
            rotate_left
            ·(intro w hSw; (try dsimp only at hSw); go_simp); (try with_reducible rfl)
            try simp only [Act.put, zS]
            refine wpAnyH_take (i := 6) (oi := ⟨some 263, .move (.tmp 262), 4, "law.go:395", #[⟨5, .data⟩, ⟨2, .chain⟩], none⟩) (v := ?_) rfl (by kernel_rfl) (by kernel_rfl) (by kernel_rfl) (fun _ _ _ h => h) (Or.inl ⟨by rfl, ?_⟩) (by assumption) ?_
            rotate_left
            ·(intro w hSw; (try dsimp only at hSw); go_simp); (try with_reducible rfl)
            try simp only [Act.put, zS]
            refine wpAnyH_take (i := 7) (oi := ⟨some 264, .move (.tmp 32), 4, "law.go:395", #[⟨6, .guard⟩], some (6, false)⟩) (v := ?_) rfl (by kernel_rfl) (by kernel_rfl) (by kernel_rfl) (fun _ _ _ h => h) (Or.inl ⟨by rfl, ?_⟩) (by assumption) ?_
            rotate_left
            ·(intro w hSw; (try dsimp only at hSw); go_simp); (try with_reducible rfl)
            try simp only [Act.put, zS]
            refine wpAnyH_take (i := 8) (oi := ⟨some 265, .pick (.tmp 263) (.const (.bool true)) (.tmp 264), 4, "law.go:395", #[⟨6, .data⟩, ⟨7, .data⟩], none⟩) (v := ?_) rfl (by kernel_rfl) (by kernel_rfl) (by kernel_rfl) (fun _ _ _ h => h) (Or.inl ⟨by rfl, ?_⟩) (by assumption) ?_
            rotate_left
            ·(intro w hSw; (try dsimp only at hSw); go_simp); (try with_reducible rfl)
            try simp only [Act.put, zS]
            refine wpAnyH_take (i := 9) (oi := ⟨some 266, .move (.tmp 265), 4, "law.go:395", #[⟨8, .data⟩, ⟨6, .chain⟩], none⟩) (v := ?_) rfl (by kernel_rfl) (by kernel_rfl) (by kernel_rfl) (fun _ _ _ h => h) (Or.inl ⟨by rfl, ?_⟩) (by assumption) ?_
            rotate_left
            ·(intro w hSw; (try dsimp only at hSw); go_simp); (try with_reducible rfl)
            try simp only [Act.put, zS]
            refine wpAnyH_take (i := 10) (oi := ⟨some 267, .move (.tmp 29), 26, "law.go:395", #[⟨9, .guard⟩], some (9, false)⟩) (v := ?_) rfl (by kernel_rfl) (by kernel_rfl) (by kernel_rfl) (fun _ _ _ h => h) (Or.inl ⟨by rfl, ?_⟩) (by assumption) ?_
            rotate_left
            ·(intro w hSw; (try dsimp only at hSw); go_simp); (try with_reducible rfl)
            try simp only [Act.put, zS]
            refine wpAnyH_take (i := 12) (oi := ⟨some 269, .fieldAddr 34 (.tmp 3) 1, 0, "law.go:395", #[⟨9, .guard⟩], some (9, false)⟩) (v := ?_) rfl (by kernel_rfl) (by kernel_rfl) (by kernel_rfl) (fun _ _ _ h => h) (Or.inl ⟨by rfl, ?_⟩) (by assumption) ?_
            rotate_left
            ·(intro w hSw; (try dsimp only at hSw); go_simp); (try with_reducible rfl)
            try simp only [Act.put, zS]
            refine wpAnyH_take (i := 13) (oi := ⟨some 270, .load 32 (.tmp 269), 32, "law.go:395", #[⟨12, .data⟩, ⟨9, .guard⟩], some (9, false)⟩) (v := ?_) rfl (by kernel_rfl) (by kernel_rfl) (by kernel_rfl) (fun _ _ _ h => h) (Or.inl ⟨by rfl, ?_⟩) (by assumption) ?_
            rotate_left
            ·(intro w hSw; (try dsimp only at hSw); go_simp); (try with_reducible rfl)
            try simp only [Act.put, zS]
            refine wpAnyH_ready (rs := [11]) (by kernel_rfl) (by simp) ?_
            refine (AllReadyH.cons (o := ⟨some 268, .call ⟨.value (.func 12), #[.tmp 267], #[26]⟩, 32, "law.go:395", #[⟨10, .data⟩, ⟨9, .chain⟩, ⟨9, .guard⟩], some (9, false)⟩) rfl (fun K hK => ?_) AllReadyH.nil)
            go_simp
            refine (told_any _ la wzd (by rw [← HN.out]; omega) h29q).mono ?_
            rintro e wz11 ⟨⟨uo, rfl, ho⟩, hl⟩
            replace ho : Prs _ _ la := ho.rw pV_len
            (try go_wp2_with fail)
            have hbz11 := bthen hbzd hl
            have h29q := h29q.carry hl
            have hAq := hAq.carry hl
            clear hl
            refine hK.out _ _ (cellb c31 hbz11) (fun hHeld1 => ?_)
            clear hK K hHeld0
            try simp only [Act.put, zS]
            refine wpAnyH_ready (rs := [14]) (by kernel_rfl) (by simp) ?_
            refine (AllReadyH.cons (o := ⟨some 271, .call ⟨.value (.func 11), #[.tmp 268, .tmp 270], #[32, 32]⟩, 4, "law.go:395", #[⟨11, .data⟩, ⟨13, .data⟩, ⟨11, .chain⟩, ⟨9, .guard⟩], some (9, false)⟩) rfl (fun K hK => ?_) AllReadyH.nil)
            go_simp
            refine (same_train _ _ la wz11 ho hAq (by rw [← HN.out]; omega)).mono ?_
            rintro e wz14 ⟨rfl, hl⟩
            (try go_wp2_with fail)
            have hbz14 := bthen hbz11 hl
            have h29q := h29q.carry hl
            have hAq := hAq.carry hl
            have ho := ho.carry hl
            clear hl
            refine hK.out _ _ (cellb c31 hbz14) (fun hHeld2 => ?_)
            clear hK K hHeld1
            try simp only [Act.put, zS]
            refine wpAnyH_take (i := 15) (oi := ⟨some 272, .unOp .not 4 (.tmp 271), 4, "law.go:395", #[⟨14, .data⟩, ⟨9, .guard⟩], some (9, false)⟩) (v := ?_) rfl (by kernel_rfl) (by kernel_rfl) (by kernel_rfl) (fun _ _ _ h => h) (Or.inl ⟨by rfl, ?_⟩) (by assumption) ?_
            rotate_left
            ·(intro w hSw; (try dsimp only at hSw); go_simp); (try with_reducible rfl)
            try simp only [Act.put, zS]
            refine wpAnyH_take (i := 16) (oi := ⟨some 273, .pick (.tmp 266) (.const (.bool true)) (.tmp 272), 4, "law.go:395", #[⟨9, .data⟩, ⟨15, .data⟩], none⟩) (v := ?_) rfl (by kernel_rfl) (by kernel_rfl) (by kernel_rfl) (fun _ _ _ h => h) (Or.inl ⟨by rfl, ?_⟩) (by assumption) ?_
            rotate_left
            ·(intro w hSw; (try dsimp only at hSw); go_simp); (try with_reducible rfl)
            try simp only [Act.put, zS]
            refine wpAnyH_done (by kernel_rfl) ?_ _
            clear hHeld2
            have hb2 := hbz14
            obtain ⟨W12, hW12⟩ : ∃ v, v = wz14 := ⟨_, rfl⟩
            rw [← hW12] at hb2 ⊢
            clear hW12
            have HB12 := Lib.hid (bthen HB11.out hb2)
            clear hb2 c31 ho h29q hAq
            have c30 := (I3.out.carry (bthen KB HB12.out)).cell (j := 0) (v := .int .i64 ca) rfl
            have c31 := (I3.out.carry (bthen KB HB12.out)).cell (j := 1) (v := .slice a1 N p1) rfl
            go_upto_region 48 with fail
            refine wp_region_held_drew (S := (fun W => W.cell? ⟨w.heap.size, 0, none⟩ = some (.int .i64 ca) ∧ W.cell? ⟨w.heap.size, 1, none⟩ = some (.slice a1 N p1))) (by kernel_rfl) ⟨cellb c30 (Below.refl _ _).drew, cellb c31 (Below.refl _ _).drew⟩ (fun hHeld0 => ?_)
            obtain ⟨wzd, hwz⟩ : ∃ v, v = W12.drew := ⟨_, rfl⟩
            rw [← hwz] at hHeld0 ⊢
            have hbzd : Below W12.heap.size W12 wzd := by rw [hwz]; exact (Below.refl _ _).drew
            have hlzd : Below W12.heap.size W12 wzd := by rw [hwz]; exact (Below.refl _ _).drew
            clear hwz hlzd
            refine wpAnyH_take (i := 0) (oi := ⟨some 275, .load 34 (.tmp 3), 34, "law.go:398", #[], none⟩) (v := ?_) rfl (by kernel_rfl) (by kernel_rfl) (by kernel_rfl) (fun _ _ _ h => h) (Or.inl ⟨by rfl, ?_⟩) (by assumption) ?_
            rotate_left
            ·(intro w hSw; (try dsimp only at hSw); go_simp); (try with_reducible rfl)
            try simp only [Act.put, zS]
            refine wpAnyH_take (i := 2) (oi := ⟨some 277, .load 34 (.tmp 3), 34, "law.go:398", #[], none⟩) (v := ?_) rfl (by kernel_rfl) (by kernel_rfl) (by kernel_rfl) (fun _ _ _ h => h) (Or.inl ⟨by rfl, ?_⟩) (by assumption) ?_
            rotate_left
            ·(intro w hSw; (try dsimp only at hSw); go_simp); (try with_reducible rfl)
            try simp only [Act.put, zS]
            refine wpAnyH_ready (rs := [1]) (by kernel_rfl) (by simp) ?_
            refine (AllReadyH.cons (o := ⟨some 276, .call ⟨.value (.func 19), #[.tmp 275], #[34]⟩, 53, "law.go:398", #[⟨0, .data⟩], none⟩) rfl (fun K hK => ?_) AllReadyH.nil)
            go_simp
            refine (L1.out wzd (HA.out.carry (bthen K3.out (bthen (bthen KB HB12.out) hbzd)))).mono ?_
            rintro e wz1 ⟨⟨x1, m1, q1, rfl, h1⟩, hl⟩
            (try go_wp2_with fail)
            have hbz1 := bthen hbzd hl
            clear hl
            refine hK.out _ _ ⟨cellb c30 hbz1, cellb c31 hbz1⟩ (fun hHeld1 => ?_)
            clear hK K hHeld0
            try simp only [Act.put, zS]
            refine wpAnyH_ready (rs := [3]) (by kernel_rfl) (by simp) ?_
            refine (AllReadyH.cons (o := ⟨some 278, .call ⟨.value (.func 19), #[.tmp 277], #[34]⟩, 53, "law.go:398", #[⟨2, .data⟩, ⟨1, .chain⟩], none⟩) rfl (fun K hK => ?_) AllReadyH.nil)
            go_simp
            refine (L1.out wz1 (HA.out.carry (bthen K3.out (bthen (bthen KB HB12.out) hbz1)))).mono ?_
            rintro e wz3 ⟨⟨x2, m2, q2, rfl, h2⟩, hl⟩
            (try go_wp2_with fail)
            have hbz3 := bthen hbz1 hl
            have h1 := h1.carry hl
            clear hl
            refine hK.out _ _ ⟨cellb c30 hbz3, cellb c31 hbz3⟩ (fun hHeld2 => ?_)
            clear hK K hHeld1
            try simp only [Act.put, zS]
            refine wpAnyH_ready (rs := [4]) (by kernel_rfl) (by simp) ?_
            refine (AllReadyH.cons (o := ⟨some 279, .call ⟨.value (.func 18), #[.tmp 276, .tmp 278, .const (.int .i64 0), .const (.int .i64 1)], #[53, 53, 3, 3]⟩, 50, "law.go:398", #[⟨1, .data⟩, ⟨3, .data⟩, ⟨3, .chain⟩], none⟩) rfl (fun K hK => ?_) AllReadyH.nil)
            go_simp
            refine (TC.out x1 m1 q1 x2 m2 q2 wz3 h1 h2).mono ?_
            rintro e wz4 ⟨rfl, hl⟩
            (try go_wp2_with fail)
            have hbz4 := bthen hbz3 hl
            have h1 := h1.carry hl
            have h2 := h2.carry hl
            clear hl
            refine hK.out _ _ ⟨cellb c30 hbz4, cellb c31 hbz4⟩ (fun hHeld3 => ?_)
            clear hK K hHeld2
            try simp only [Act.put, zS]
            refine wpAnyH_take (i := 5) (oi := ⟨some 274, .move (.tmp 279), 50, "law.go:398", #[⟨4, .data⟩], none⟩) (v := ?_) rfl (by kernel_rfl) (by kernel_rfl) (by kernel_rfl) (fun _ _ _ h => h) (Or.inl ⟨by rfl, ?_⟩) (by assumption) ?_
            rotate_left
            ·(intro w hSw; (try dsimp only at hSw); go_simp); (try with_reducible rfl)
            try simp only [Act.put, zS]
            refine wpAnyH_take (i := 6) (oi := ⟨some 280, .extract (.tmp 274) 0, 3, "law.go:398", #[⟨5, .data⟩], none⟩) (v := ?_) rfl (by kernel_rfl) (by kernel_rfl) (by kernel_rfl) (fun _ _ _ h => h) (Or.inl ⟨by rfl, ?_⟩) (by assumption) ?_
            rotate_left
            ·(intro w hSw; (try dsimp only at hSw); go_simp); (try with_reducible rfl)
            try simp only [Act.put, zS]
            refine wpAnyH_take (i := 7) (oi := ⟨some 281, .extract (.tmp 274) 1, 27, "law.go:398", #[⟨5, .data⟩, { on := 8, ground := Ground.gcOnly Departure.lateStores }], none⟩) (v := ?_) rfl (by kernel_rfl) (by kernel_rfl) (by kernel_rfl) (fun _ _ _ h => h) (Or.inl ⟨by rfl, ?_⟩) (by assumption) ?_
            rotate_left
            ·(intro w hSw; (try dsimp only at hSw); go_simp); (try with_reducible rfl)
            try simp only [Act.put, zS]
            refine wpAnyH_take (i := 8) (oi := ⟨some 34, .assign (.tmp 280), 3, "law.go:398", #[⟨6, .data⟩, ⟨4, .chain⟩, ⟨0, .phase⟩, ⟨1, .phase⟩, ⟨2, .phase⟩, ⟨3, .phase⟩, ⟨4, .phase⟩, ⟨5, .phase⟩, ⟨6, .phase⟩, { on := 7, ground := Ground.textOnly Departure.lateStores }], none⟩) (v := ?_) rfl (by kernel_rfl) (by kernel_rfl) (by kernel_rfl) (fun _ _ _ h => h) (Or.inl ⟨by rfl, ?_⟩) (by assumption) ?_
            rotate_left
            ·(intro w hSw; (try dsimp only at hSw); go_simp); (try with_reducible rfl)
            try simp only [Act.put, zS]
            refine wpAnyH_take (i := 9) (oi := ⟨some 35, .assign (.tmp 281), 27, "law.go:398", #[⟨7, .data⟩, ⟨8, .chain⟩, ⟨0, .phase⟩, ⟨1, .phase⟩, ⟨2, .phase⟩, ⟨3, .phase⟩, ⟨4, .phase⟩, ⟨5, .phase⟩, ⟨6, .phase⟩, ⟨7, .phase⟩, ⟨8, .phase⟩], none⟩) (v := ?_) rfl (by kernel_rfl) (by kernel_rfl) (by kernel_rfl) (fun _ _ _ h => h) (Or.inl ⟨by rfl, ?_⟩) (by assumption) ?_
            rotate_left
            ·(intro w hSw; (try dsimp only at hSw); go_simp); (try with_reducible rfl)
            try simp only [Act.put, zS]
            refine wpAnyH_done (by kernel_rfl) ?_ _
            clear hHeld3
            have hb2 := hbz4
            obtain ⟨W13, hW13⟩ : ∃ v, v = wz4 := ⟨_, rfl⟩
            rw [← hW13] at hb2 ⊢
            clear hW13
            have HB13 := Lib.hid (bthen HB12.out hb2)
            clear hb2 h1 h2 c30 c31 TC
            have KZ := bthen KB HB13.out
            have c31 := (I3.out.carry KZ).cell (j := 1) (v := .slice a1 N p1) rfl
            rcases Nat.eq_zero_or_pos N with h0 | h0
            ·subst h0
             obtain rfl : VE = 7 := HSF.out.1 (List.length_eq_zero_iff.1 HN.out.symm)
             go_wp2
             go_ret
             exact ⟨rfl, bthen K3.out KZ⟩
            ·obtain ⟨x, hx⟩ : ∃ x, la[0]? = some x := ⟨_, List.getElem?_eq_getElem (by rw [← HN.out]; exact h0)⟩
             obtain ⟨rfl, hvt⟩ := HSF.out.2 x hx
             have hA := HA.out.carry (bthen K3.out KZ)
             obtain ⟨b, off, cc, he, hcs⟩ := hA.head (by rw [← HN.out]; omega)
             simp only [Value.slice.injEq] at he
             obtain ⟨rfl, -, rfl⟩ := he
             obtain ⟨e0, -⟩ := rw2 (hcs 0 x hx) (show pV x = [.int .i64 x.1, .int .i64 x.2] from rfl)
             rw [← hvt] at e0
             have e0 : W13.cell? ⟨b, off, none⟩ = some (.int .i64 VT) := by simpa using e0
             have hne : ¬ N = 0 := by omega
             have hni : ¬ (N : Int) = 0 := by omega
             have hnb : ((N : Int) == 0) = false := by rw [beq_eq_false_iff_ne]; exact hni
             clear hcs hx hA hvt
             go_wp2
             go_ret
             exact ⟨by simp, bthen K3.out KZ⟩
     ·have z : (E != 0) = true := by rw [bne_iff_ne]; exact hE0
      clear hE0
      go_wp2_with fail
      refine (TA.out W4 (HP.out.carry (bthen K3.out hb)) (HH.out.carry (bthen K3.out hb))).mono ?_
      rintro e w2 ⟨rfl, hb2⟩
      go_wp2
      go_ret
      exact ⟨rfl, bthen K3.out (bthen hb hb2)⟩
end Go.Proofs.YtgpdalgfbfboaaaGreatDoor

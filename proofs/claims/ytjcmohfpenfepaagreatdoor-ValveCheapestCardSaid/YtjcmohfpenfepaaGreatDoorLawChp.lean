/- The law ValveCheapest. -/
import Derived.Test.YtjcmohfpenfepaaGreatDoorVlF
import Derived.Test.YtjcmohfpenfepaaGreatDoorOrdJ
import Derived.Test.YtjcmohfpenfepaaGreatDoorVcN
namespace Go.Proofs.YtjcmohfpenfepaaGreatDoor
set_option linter.unusedSimpArgs false
set_option linter.unusedVariables false
open Go.RowKit
/-- a told result in the form of a join. -/
theorem toldJ {P : Program} {f : FuncId} {args : Array Value} {w : World} {S R : Value → World → Prop} (h : Calls P f args w fun r w' => (∃ u, r = .returned u ∧ S u w') ∧ Below w.heap.size w w') (hc : ∀ u w', S u w' → R u w') :
 Calls P f args w (fun e w'' => ∃ v, e = .returned v ∧ R v w'' ∧ Ext w w'') :=
 h.mono fun _ _ ⟨⟨u, hu, hs⟩, hb⟩ => ⟨u, hu, hc _ _ hs, hb⟩
theorem toldG {P : Program} {f : FuncId} {args : Array Value} {w : World} {g : Value → Value} {S : Value → World → Prop} (h : Calls P f args w fun r w' => (∃ u, r = .returned (g u) ∧ S u w') ∧ Below w.heap.size w w') :
 Calls P f args w (fun e w'' => ∃ v, e = .returned v ∧ (∃ u, v = g u ∧ S u w'') ∧ Ext w w'') :=
 h.mono fun _ _ ⟨⟨u, hu, hs⟩, hb⟩ => ⟨_, hu, ⟨u, rfl, hs⟩, hb⟩
theorem ints_other {w : World} {B : Nat} {T : TypeId} {v : Value} {l : List Int} {a : Option Addr} {n c : Nat} (h : Ints w v l) (hB : Blk w B T [.slice a n c]) (j : Nat) (x : Value) : Ints (w.setCell ⟨B, j, none⟩ x) v l := by
 obtain ⟨a', cap, hv, hc, h⟩ := h
 refine ⟨a', cap, hv, hc, fun h0 => ?_⟩
 obtain ⟨b, off, e, hcs⟩ := h h0
 refine ⟨b, off, e, fun k hk => ?_⟩
 have hne : b ≠ B := by
  intro e
  subst e
  have h1 := hcs k hk
  simp only [World.cell?, show w.heap[b]? = _ from hB] at h1
  have h2 : ([Value.slice a n c] : List Value)[off + k]? = some (.int .i64 (l[k]?.getD 0)) := by simpa using h1
  rcases Nat.eq_zero_or_pos (off + k) with e0 | e0
  ·rw [e0] at h2; simp at h2
  ·rw [List.getElem?_eq_none (by simp; omega)] at h2; cases h2
 rw [World.cell?_setCell_other _ _ _ _ (by simp; try omega)]
 exact hcs k hk
/-- cells of a row of the call's own, one of them set. -/
theorem cells_set {w : World} {g : Nat} {l : List Int} (h : Cells w g l) (j : Nat) (hj : j < l.length) (x : Int) (cap : Nat) (hc : l.length ≤ cap) : Ints (w.setCell ⟨g, j, none⟩ (.int .i64 x)) (.slice (some ⟨g, 0, none⟩) l.length cap) (l.set j x) := by
 refine ⟨some ⟨g, 0, none⟩, cap, by rw [List.length_set], by rw [List.length_set]; exact hc, fun h0 => ⟨g, 0, rfl, fun k hk => ?_⟩⟩
 rw [Nat.zero_add]
 exact (h.set j hj x k hk).1
/-- what the law asks of the best plan. -/
structure Best (ms : List Mo) (os : List I3) (y : List Int) : Prop where
 ok : PlOk ms os y
 err : planE ms os = 0
 row : planR ms os = y
 cost : planC ms os = costL os y
 least : ∀ x, PlOk ms os x → costL os y ≤ costL os x
theorem hours {ms : List Mo} (h : modsE ms = 0) : ∀ m ∈ ms, 1 ≤ m.2.2.2 ∧ m.2.2.2 ≤ 100 := fun m hm => ((modsE_ok h).2 m hm).2.2.2
theorem best_of {ms : List Mo} {os : List I3} (hb : bothE ms os = 0) {y : List Int} (h : planO ms os = some y) : Best ms os y := by
 obtain ⟨h1, h2⟩ := plan_some (hours (bothE_ok hb).1) h
 refine ⟨h1, ?_, ?_, ?_, h2⟩
 ·unfold planE; rw [if_pos hb, h]; rfl
 ·unfold planR; rw [if_pos hb, h]; rfl
 ·unfold planC; rw [if_pos hb, h]; rfl
theorem best_no {ms : List Mo} {os : List I3} (hb : bothE ms os = 0) (h : planO ms os = none) : planE ms os = 18 ∧ ∀ x, plnE ms os x ≠ 0 := by
 refine ⟨?_, fun x hx => plan_none (hours (bothE_ok hb).1) h x (plnE_iff.1 hx)⟩
 unfold planE; rw [if_pos hb, h]; rfl
/-- fewer outages make no plan cheaper; fewer modules none dearer. -/
theorem fewer_outages {ms : List Mo} {os : List I3} (hb : bothE ms os = 0) {y : List Int} (h : Best ms os y) (n : Nat) (hn : n ≤ os.length) : planE ms (os.take n) = 0 → planC ms os ≤ planC ms (os.take n) := by
 intro he
 have hb2 := bothE_of (bothE_ok hb).1 (outE_take (bothE_ok hb).2 n)
 cases hq : planO ms (os.take n) with
 | none => have := (best_no hb2 hq).1; omega
 | some z =>
   have hz := best_of hb2 hq
   have hm := hours (bothE_ok hb).1
   have h1 := plOk_more hn hm (fun o ho => ((outE_ok (bothE_ok hb).2).2 o ho).2.1.1) hz.ok
   have h2 : costL (os.take n) z = costL os z := cost_fewer hn (fun x hx => by
    obtain ⟨i, hi⟩ := List.getElem?_of_mem hx
    have := (hz.ok.rng i x hi).1
    rw [List.length_take] at this
    omega)
   rw [h.cost, hz.cost, h2]
   exact h.least z h1
theorem fewer_modules {ms : List Mo} {os : List I3} (hb : bothE ms os = 0) {y : List Int} (h : Best ms os y) (n : Nat) (hn : n ≤ ms.length) : planE (ms.take n) os = 0 ∧ planC (ms.take n) os ≤ planC ms os := by
 have hm := hours (bothE_ok hb).1
 have hb2 := bothE_of (modsE_take (bothE_ok hb).1 n) (bothE_ok hb).2
 have h1 := plOk_less hn hm h.ok
 obtain ⟨z, hz⟩ := plan_is (hours (bothE_ok hb2).1) h1
 have hB := best_of hb2 hz
 refine ⟨hB.err, ?_⟩
 rw [hB.cost, h.cost]
 exact Int.le_trans (hB.least _ h1) (costK_sub (fun o ho => ((outE_ok (bothE_ok hb).2).2 o ho).2.2) (fun x hx => List.mem_of_mem_take hx) _)
theorem delE_ok {ds : List P2} (h : delE ds = 0) : ds.length ≤ 64 ∧ eachE delG ds = 0 := by
 unfold delE at h
 split at h
 ·cases h
 ·exact ⟨by omega, h⟩
theorem spares_best {ms : List Mo} {os : List I3} {ds : List P2} (hb : bothE ms os = 0) (hd : delE ds = 0) {y : List Int} (h : PlOk ms os y) :
 sprE ms os y ds = 0 ∧ sprR ms os y ds = sprK os y ds os.length ∧ (0 ≤ sprK os y ds os.length ∧ sprK os y ds os.length ≤ ms.length) ∧ enB os y ds (sprK os y ds os.length) = true ∧
 (0 < sprK os y ds os.length → enB os y ds (sprK os y ds os.length - 1) = false) := by
 obtain ⟨h1, h2⟩ := delE_ok hd
 have e2 : sprE2 ms os y ds = 0 := by
  unfold sprE2
  rw [plnE_iff.2 h, show decide (64 < (ds.length : Int)) = false by rw [decide_eq_false_iff_not]; omega]; rfl
 have e : sprE ms os y ds = 0 := by unfold sprE; rw [if_pos hb, if_pos e2]; exact h2
 have hr := spr_most os h.pos ds (fun d hd => (delG_ok h2 d hd).2) h1 os.length
 rw [h.len] at hr
 refine ⟨e, by unfold sprR; rw [if_pos e], hr, enB_true (fun k hk => spr_enough os h.pos ds hk), fun h0 => ?_⟩
 obtain ⟨k, hk, hl⟩ := spr_fewer os h.pos ds h0
 exact enB_false hk hl
theorem sumK_take (l : List Int) (k : Nat) : sumK l (k + 1) = sumK l k + l[k]?.getD 0 := rfl
set_option maxRecDepth 100000 in
set_option maxHeartbeats 32000000 in
theorem chp_law (TA : ∀ W, Pows W → Heads W → Calls Tryz.prog 6 #[] W fun e w' => e = .returned (.bool true) ∧ Below W.heap.size W w')
 (v0 v1 vp vq vd : Value) (ms : List Mo) (os : List I3) (pl : List Int) (ds : List P2) (w : World) (hp : Pows w) (hh : Heads w) (hv0 : Rw 4 mV w v0 ms) (hv1 : Rw 3 iV w v1 os) (hvp : Ints w vp pl) (hvq : ∃ a n c, vq = .slice a n c) (hvd : Prs w vd ds)
 (hml : ms.length ≤ maxLen) :
 Calls Tryz.prog 5 #[v0, v1, .agg #[vp, vq, vd]] w fun e w' => e = .returned (.bool true) ∧ Below w.heap.size w w' := by
 have TA := Lib.hid TA
 obtain ⟨qa, NQ, qc, rfl⟩ := hvq
 obtain ⟨a1, p1, hve, hvc1⟩ := hv0.slice
 obtain ⟨NM, hNM⟩ : ∃ N, N = ms.length := ⟨_, rfl⟩
 rw [← hNM] at hve hvc1 hml
 subst hve
 obtain ⟨a2, p2, hve, hvc2⟩ := hv1.slice
 obtain ⟨NO, hNO⟩ : ∃ N, N = os.length := ⟨_, rfl⟩
 rw [← hNO] at hve hvc2
 subst hve
 obtain ⟨pa, pc, hve, -⟩ := id hvp
 obtain ⟨NP, hNP⟩ : ∃ N, N = pl.length := ⟨_, rfl⟩
 rw [← hNP] at hve
 subst hve
 obtain ⟨da, dc, hve, -⟩ := hvd.slice
 obtain ⟨ND, hND⟩ : ∃ N, N = ds.length := ⟨_, rfl⟩
 rw [← hND] at hve
 subst hve
 have HNM0 := Lib.hid hNM
 have T1 := Lib.hid (fun W (h : Rw 4 mV W (.slice a1 NM p1) ms) => ShortModules_any (.slice a1 NM p1) ms W (by rw [← HNM0.out]; exact hml) h)
 have T2 := Lib.hid (fun W => ShortOutages_any a2 NO p2 W)
 have T3 := Lib.hid (fun W => ShortDeliveries_any da ND dc W)
 have HP := Lib.hid hp
 have HH := Lib.hid hh
 have HA := Lib.hid hv0
 have HO := Lib.hid hv1
 have HPl := Lib.hid hvp
 have HD := Lib.hid hvd
 have HNM := Lib.hid hNM
 have HNO := Lib.hid hNO
 have HNP := Lib.hid hNP
 have HND := Lib.hid hND
 have HC1 := Lib.hid hvc1
 have HC2 := Lib.hid hvc2
 have HS1 := Lib.hid (fun h : shortM ms = true => shortM_ok h)
 have HS3 := Lib.hid (fun h : shortD ND = true => (show ND ≤ 65 by unfold shortD at h; simp at h; omega))
 obtain ⟨s1, hs1⟩ : ∃ b, b = shortM ms := ⟨_, rfl⟩
 obtain ⟨s2, hs2⟩ : ∃ b, b = shortO NO := ⟨_, rfl⟩
 obtain ⟨s3, hs3⟩ : ∃ b, b = shortD ND := ⟨_, rfl⟩
 rw [← hs1] at T1 HS1
 rw [← hs2] at T2
 rw [← hs3] at T3 HS3
 have hv0' := hv0
 clear hml HNM0 hp hh hv0 hv1 hvp hvd hNM hNO hNP hND hs1 hs2 hs3 hvc1 hvc2 hv0'
 go_enter Tryz.func5, Tryz.ntmps5
 go_upto_region 1 with fail
 obtain ⟨W1, hW1⟩ : ∃ v, v = World.alloc w (Obj.cells #[.slice a2 NO p2] 49) := ⟨_, rfl⟩
 have kW1 : Below w.heap.size w W1 := by rw [hW1]; exact below_new _ _
 have iW1 : Blk W1 (w.heap.size) 49 [.slice a2 NO p2] := by rw [hW1]; exact Blk.new _ _ _
 have sW1 : W1.heap.size = w.heap.size + 1 := by rw [hW1]; simp
 rw [← hW1]
 clear hW1
 obtain ⟨W2, hW2⟩ : ∃ v, v = World.alloc W1 (Obj.cells #[.slice pa NP pc, .slice qa NQ qc, .slice da ND dc] 52) := ⟨_, rfl⟩
 have kW2 : Below W1.heap.size W1 W2 := by rw [hW2]; exact below_new _ _
 have iW2 : Blk W2 (w.heap.size + 1) 52 [.slice pa NP pc, .slice qa NQ qc, .slice da ND dc] := by rw [hW2, ← sW1]; exact Blk.new _ _ _
 have sW2 : W2.heap.size = w.heap.size + 1 + 1 := by rw [hW2]; simp [sW1]
 rw [← hW2]
 clear hW2
 have i4 := iW1.carry kW2
 have i5 := iW2
 have k2 := bthen kW1 kW2
 clear iW1 iW2 kW1 kW2 sW1 sW2
 obtain ⟨B4, hB4⟩ : ∃ b, b = w.heap.size := ⟨_, rfl⟩
 obtain ⟨B5, hB5⟩ : ∃ b, b = w.heap.size + 1 := ⟨_, rfl⟩
 rw [← hB5] at i5 ⊢
 rw [← hB4] at i4 ⊢
 have I4 := Lib.hid i4
 have I5 := Lib.hid i5
 have K2 := Lib.hid k2
 have c4 := i4.cell (j := 0) (v := .slice a2 NO p2) rfl
 have c50 := i5.cell (j := 0) (v := .slice pa NP pc) rfl
 have c52 := i5.cell (j := 2) (v := .slice da ND dc) rfl
 have hA := HA.out.carry K2.out
 have hO := HO.out.carry K2.out
 have hD := HD.out.carry K2.out
 have hPl := HPl.out.carry K2.out
 have HB4 := Lib.hid hB4
 clear i4 i5 k2 hB4 hB5
 cases s1 with
 | false =>
   refine wp_region_E 99 (by kernel_rfl) ?_
   obtain ⟨wz, hwz⟩ : ∃ v, v = W2.drew := ⟨_, rfl⟩
   rw [← hwz]
   have hlz : Below W2.heap.size W2 wz := by rw [hwz]; exact (Below.refl _ _).drew
   have hbz := bthen (Below.refl _ _) hlz
   have c4 := cellb c4 hlz
   have c50 := cellb c50 hlz
   have c52 := cellb c52 hlz
   have hA := hA.carry hlz
   have hO := hO.carry hlz
   have hD := hD.carry hlz
   clear hwz hlz
   refine zB 0 ⟨some 33, .call ⟨.value (.func 6), #[], #[]⟩, 4, "law.go:530", #[], none⟩ (fun w hE => TA.out w (HP.out.carry (bthen K2.out (bthen hbz hE))) (HH.out.carry (bthen K2.out (bthen hbz hE)))) rfl ?_
   simp only [Act.put, zS]
   refine zV 1 ⟨some 34, .unOp .not 4 (.tmp 33), 4, "law.go:530", #[⟨0, .data⟩], none⟩ rfl ?_
   simp only [Act.put, zS]
   refine zV 2 ⟨some 35, .move (.tmp 34), 4, "law.go:530", #[⟨1, .data⟩, ⟨0, .chain⟩], none⟩ rfl ?_
   simp only [Act.put, zS]
   refine zV 3 ⟨some 36, .move (.tmp 0), 48, "law.go:530", #[⟨2, .guard⟩], some (2, false)⟩ rfl ?_
   simp only [Act.put, zS]
   refine zB 4 ⟨some 37, .call ⟨.value (.func 19), #[.tmp 36], #[48]⟩, 4, "law.go:530", #[⟨3, .data⟩, ⟨2, .chain⟩, ⟨2, .guard⟩], some (2, false)⟩ (fun w hE => ofPure (T1.out w (hA.carry hE))) rfl ?_
   simp only [Act.put, zS]
   refine zV 5 ⟨some 38, .unOp .not 4 (.tmp 37), 4, "law.go:530", #[⟨4, .data⟩, ⟨2, .guard⟩], some (2, false)⟩ rfl ?_
   simp only [Act.put, zS]
   refine zV 6 ⟨some 39, .pick (.tmp 35) (.const (.bool true)) (.tmp 38), 4, "law.go:530", #[⟨2, .data⟩, ⟨5, .data⟩], none⟩ rfl ?_
   simp only [Act.put, zS]
   refine zV 7 ⟨some 40, .move (.tmp 39), 4, "law.go:530", #[⟨6, .data⟩, ⟨4, .chain⟩], none⟩ rfl ?_
   simp only [Act.put, zS]
   refine zK 8 ⟨some 41, .load 49 (.tmp 4), 49, "law.go:530", #[⟨7, .guard⟩], some (7, false)⟩ rfl ?_
   simp only [Act.put, zS]
   refine zK 9 ⟨some 42, .call ⟨.value (.func 20), #[.tmp 41], #[49]⟩, 4, "law.go:530", #[⟨8, .data⟩, ⟨7, .chain⟩, ⟨7, .guard⟩], some (7, false)⟩ rfl ?_
   simp only [Act.put, zS]
   refine zK 10 ⟨some 43, .unOp .not 4 (.tmp 42), 4, "law.go:530", #[⟨9, .data⟩, ⟨7, .guard⟩], some (7, false)⟩ rfl ?_
   simp only [Act.put, zS]
   refine zV 11 ⟨some 44, .pick (.tmp 40) (.const (.bool true)) (.tmp 43), 4, "law.go:530", #[⟨7, .data⟩, ⟨10, .data⟩], none⟩ rfl ?_
   simp only [Act.put, zS]
   refine zV 12 ⟨some 45, .move (.tmp 44), 4, "law.go:530", #[⟨11, .data⟩, ⟨9, .chain⟩], none⟩ rfl ?_
   simp only [Act.put, zS]
   refine zK 13 ⟨some 46, .fieldAddr 52 (.tmp 5) 2, 0, "law.go:530", #[⟨12, .guard⟩], some (12, false)⟩ rfl ?_
   simp only [Act.put, zS]
   refine zK 14 ⟨some 47, .load 50 (.tmp 46), 50, "law.go:530", #[⟨13, .data⟩, ⟨12, .guard⟩], some (12, false)⟩ rfl ?_
   simp only [Act.put, zS]
   refine zK 15 ⟨some 48, .call ⟨.value (.func 21), #[.tmp 47], #[50]⟩, 4, "law.go:530", #[⟨14, .data⟩, ⟨12, .chain⟩, ⟨12, .guard⟩], some (12, false)⟩ rfl ?_
   simp only [Act.put, zS]
   refine zK 16 ⟨some 49, .unOp .not 4 (.tmp 48), 4, "law.go:530", #[⟨15, .data⟩, ⟨12, .guard⟩], some (12, false)⟩ rfl ?_
   simp only [Act.put, zS]
   refine zV 17 ⟨some 50, .pick (.tmp 45) (.const (.bool true)) (.tmp 49), 4, "law.go:530", #[⟨12, .data⟩, ⟨16, .data⟩], none⟩ rfl ?_
   simp only [Act.put, zS]
   refine zV 18 ⟨some 51, .move (.tmp 50), 4, "law.go:530", #[⟨17, .data⟩, ⟨15, .chain⟩], none⟩ rfl ?_
   simp only [Act.put, zS]
   refine zK 19 ⟨some 52, .move (.tmp 0), 48, "law.go:530", #[⟨18, .guard⟩], some (18, false)⟩ rfl ?_
   simp only [Act.put, zS]
   refine zK 20 ⟨some 53, .call ⟨.builtin .len, #[.tmp 52], #[48]⟩, 3, "law.go:530", #[⟨19, .data⟩, ⟨18, .guard⟩], some (18, false)⟩ rfl ?_
   simp only [Act.put, zS]
   refine zK 21 ⟨some 54, .binOp .gtr 3 (.tmp 53) (.const (.int .i64 4)) 3, 4, "law.go:530", #[⟨20, .data⟩, ⟨18, .guard⟩], some (18, false)⟩ rfl ?_
   simp only [Act.put, zS]
   refine zV 22 ⟨some 55, .pick (.tmp 51) (.const (.bool true)) (.tmp 54), 4, "law.go:530", #[⟨18, .data⟩, ⟨21, .data⟩], none⟩ rfl ?_
   simp only [Act.put, zS]
   refine zV 23 ⟨some 56, .move (.tmp 55), 4, "law.go:530", #[⟨22, .data⟩, ⟨18, .chain⟩], none⟩ rfl ?_
   simp only [Act.put, zS]
   refine zK 24 ⟨some 57, .load 49 (.tmp 4), 49, "law.go:530", #[⟨23, .guard⟩], some (23, false)⟩ rfl ?_
   simp only [Act.put, zS]
   refine zK 25 ⟨some 58, .call ⟨.builtin .len, #[.tmp 57], #[49]⟩, 3, "law.go:530", #[⟨24, .data⟩, ⟨23, .guard⟩], some (23, false)⟩ rfl ?_
   simp only [Act.put, zS]
   refine zK 26 ⟨some 59, .binOp .gtr 3 (.tmp 58) (.const (.int .i64 4)) 3, 4, "law.go:530", #[⟨25, .data⟩, ⟨23, .guard⟩], some (23, false)⟩ rfl ?_
   simp only [Act.put, zS]
   refine zV 27 ⟨some 60, .pick (.tmp 56) (.const (.bool true)) (.tmp 59), 4, "law.go:530", #[⟨23, .data⟩, ⟨26, .data⟩], none⟩ rfl ?_
   simp only [Act.put, zS]
   refine zV 28 ⟨some 61, .move (.tmp 60), 4, "law.go:530", #[⟨27, .data⟩, ⟨23, .chain⟩], none⟩ rfl ?_
   simp only [Act.put, zS]
   refine zK 29 ⟨some 62, .fieldAddr 52 (.tmp 5) 0, 0, "law.go:530", #[⟨28, .guard⟩], some (28, false)⟩ rfl ?_
   simp only [Act.put, zS]
   refine zK 30 ⟨some 63, .load 41 (.tmp 62), 41, "law.go:530", #[⟨29, .data⟩, ⟨28, .guard⟩], some (28, false)⟩ rfl ?_
   simp only [Act.put, zS]
   refine zK 31 ⟨some 64, .call ⟨.builtin .len, #[.tmp 63], #[41]⟩, 3, "law.go:530", #[⟨30, .data⟩, ⟨28, .guard⟩], some (28, false)⟩ rfl ?_
   simp only [Act.put, zS]
   refine zK 32 ⟨some 65, .binOp .gtr 3 (.tmp 64) (.const (.int .i64 10)) 3, 4, "law.go:530", #[⟨31, .data⟩, ⟨28, .guard⟩], some (28, false)⟩ rfl ?_
   simp only [Act.put, zS]
   refine zV 33 ⟨some 66, .pick (.tmp 61) (.const (.bool true)) (.tmp 65), 4, "law.go:530", #[⟨28, .data⟩, ⟨32, .data⟩], none⟩ rfl ?_
   simp only [Act.put, zS]
   refine zV 34 ⟨some 67, .move (.tmp 66), 4, "law.go:530", #[⟨33, .data⟩, ⟨28, .chain⟩], none⟩ rfl ?_
   simp only [Act.put, zS]
   refine zK 35 ⟨some 68, .move (.tmp 0), 48, "law.go:530", #[⟨34, .guard⟩], some (34, false)⟩ rfl ?_
   simp only [Act.put, zS]
   refine zK 36 ⟨some 69, .load 49 (.tmp 4), 49, "law.go:530", #[⟨34, .guard⟩], some (34, false)⟩ rfl ?_
   simp only [Act.put, zS]
   refine zK 37 ⟨some 70, .call ⟨.value (.func 31), #[.tmp 68, .tmp 69], #[48, 49]⟩, 3, "law.go:530", #[⟨35, .data⟩, ⟨36, .data⟩, ⟨34, .chain⟩, ⟨34, .guard⟩], some (34, false)⟩ rfl ?_
   simp only [Act.put, zS]
   refine zK 38 ⟨some 71, .fieldAddr 52 (.tmp 5) 2, 0, "law.go:530", #[⟨34, .guard⟩], some (34, false)⟩ rfl ?_
   simp only [Act.put, zS]
   refine zK 39 ⟨some 72, .load 50 (.tmp 71), 50, "law.go:530", #[⟨38, .data⟩, ⟨34, .guard⟩], some (34, false)⟩ rfl ?_
   simp only [Act.put, zS]
   refine zK 40 ⟨some 73, .call ⟨.value (.func 37), #[.tmp 72], #[50]⟩, 3, "law.go:530", #[⟨39, .data⟩, ⟨37, .chain⟩, ⟨34, .guard⟩], some (34, false)⟩ rfl ?_
   simp only [Act.put, zS]
   refine zK 41 ⟨some 74, .buildSlice 41 2 #[(0, .tmp 70), (1, .tmp 73)], 41, "law.go:530", #[⟨37, .data⟩, ⟨40, .data⟩, ⟨34, .guard⟩], some (34, false)⟩ rfl ?_
   simp only [Act.put, zS]
   refine zK 42 ⟨some 75, .call ⟨.value (.func 36), #[.tmp 74], #[41]⟩, 3, "law.go:530", #[⟨41, .data⟩, ⟨40, .chain⟩, ⟨34, .guard⟩], some (34, false)⟩ rfl ?_
   simp only [Act.put, zS]
   refine zK 43 ⟨some 76, .binOp .neq 3 (.tmp 75) (.const (.int .i64 0)) 3, 4, "law.go:530", #[⟨42, .data⟩, ⟨34, .guard⟩], some (34, false)⟩ rfl ?_
   simp only [Act.put, zS]
   refine zV 44 ⟨some 77, .pick (.tmp 67) (.const (.bool true)) (.tmp 76), 4, "law.go:530", #[⟨34, .data⟩, ⟨43, .data⟩], none⟩ rfl ?_
   simp only [Act.put, zS]
   refine wpAnyE_done (by kernel_rfl) (fun wy1 hE => ?_) _
   have hbz1 := bthen hbz hE
   have c4 := cellb c4 hE
   have c50 := cellb c50 hE
   have c52 := cellb c52 hE
   have hA := hA.carry hE
   have hO := hO.carry hE
   have hD := hD.carry hE
   clear hE
   have hb := hbz1
   obtain ⟨W4, hW4⟩ : ∃ v, v = wy1 := ⟨_, rfl⟩
   rw [← hW4] at hb ⊢
   clear hW4
   rename_i W4
   clear c4 c50 c52 hA hO hD hPl
   go_wp2_with fail
   refine (TA.out W4 (HP.out.carry (bthen K2.out hb)) (HH.out.carry (bthen K2.out hb))).mono ?_
   rintro e w2 ⟨rfl, hb2⟩
   go_wp2
   go_ret
   exact ⟨rfl, bthen K2.out (bthen hb hb2)⟩
 | true =>
   cases s2 with
   | false =>
     refine wp_region_E 99 (by kernel_rfl) ?_
     obtain ⟨wz, hwz⟩ : ∃ v, v = W2.drew := ⟨_, rfl⟩
     rw [← hwz]
     have hlz : Below W2.heap.size W2 wz := by rw [hwz]; exact (Below.refl _ _).drew
     have hbz := bthen (Below.refl _ _) hlz
     have c4 := cellb c4 hlz
     have c50 := cellb c50 hlz
     have c52 := cellb c52 hlz
     have hA := hA.carry hlz
     have hO := hO.carry hlz
     have hD := hD.carry hlz
     clear hwz hlz
     refine zB 0 ⟨some 33, .call ⟨.value (.func 6), #[], #[]⟩, 4, "law.go:530", #[], none⟩ (fun w hE => TA.out w (HP.out.carry (bthen K2.out (bthen hbz hE))) (HH.out.carry (bthen K2.out (bthen hbz hE)))) rfl ?_
     simp only [Act.put, zS]
     refine zV 1 ⟨some 34, .unOp .not 4 (.tmp 33), 4, "law.go:530", #[⟨0, .data⟩], none⟩ rfl ?_
     simp only [Act.put, zS]
     refine zV 2 ⟨some 35, .move (.tmp 34), 4, "law.go:530", #[⟨1, .data⟩, ⟨0, .chain⟩], none⟩ rfl ?_
     simp only [Act.put, zS]
     refine zV 3 ⟨some 36, .move (.tmp 0), 48, "law.go:530", #[⟨2, .guard⟩], some (2, false)⟩ rfl ?_
     simp only [Act.put, zS]
     refine zB 4 ⟨some 37, .call ⟨.value (.func 19), #[.tmp 36], #[48]⟩, 4, "law.go:530", #[⟨3, .data⟩, ⟨2, .chain⟩, ⟨2, .guard⟩], some (2, false)⟩ (fun w hE => ofPure (T1.out w (hA.carry hE))) rfl ?_
     simp only [Act.put, zS]
     refine zV 5 ⟨some 38, .unOp .not 4 (.tmp 37), 4, "law.go:530", #[⟨4, .data⟩, ⟨2, .guard⟩], some (2, false)⟩ rfl ?_
     simp only [Act.put, zS]
     refine zV 6 ⟨some 39, .pick (.tmp 35) (.const (.bool true)) (.tmp 38), 4, "law.go:530", #[⟨2, .data⟩, ⟨5, .data⟩], none⟩ rfl ?_
     simp only [Act.put, zS]
     refine zV 7 ⟨some 40, .move (.tmp 39), 4, "law.go:530", #[⟨6, .data⟩, ⟨4, .chain⟩], none⟩ rfl ?_
     simp only [Act.put, zS]
     refine zV 8 ⟨some 41, .load 49 (.tmp 4), 49, "law.go:530", #[⟨7, .guard⟩], some (7, false)⟩ rfl ?_ (hv := fun w hE => by have c4 := cellb c4 hE; have c50 := cellb c50 hE; have c52 := cellb c52 hE; (try dsimp only); go_simp; try rfl)
     simp only [Act.put, zS]
     refine zB 9 ⟨some 42, .call ⟨.value (.func 20), #[.tmp 41], #[49]⟩, 4, "law.go:530", #[⟨8, .data⟩, ⟨7, .chain⟩, ⟨7, .guard⟩], some (7, false)⟩ (fun w hE => ofPure (T2.out w)) rfl ?_
     simp only [Act.put, zS]
     refine zV 10 ⟨some 43, .unOp .not 4 (.tmp 42), 4, "law.go:530", #[⟨9, .data⟩, ⟨7, .guard⟩], some (7, false)⟩ rfl ?_
     simp only [Act.put, zS]
     refine zV 11 ⟨some 44, .pick (.tmp 40) (.const (.bool true)) (.tmp 43), 4, "law.go:530", #[⟨7, .data⟩, ⟨10, .data⟩], none⟩ rfl ?_
     simp only [Act.put, zS]
     refine zV 12 ⟨some 45, .move (.tmp 44), 4, "law.go:530", #[⟨11, .data⟩, ⟨9, .chain⟩], none⟩ rfl ?_
     simp only [Act.put, zS]
     refine zK 13 ⟨some 46, .fieldAddr 52 (.tmp 5) 2, 0, "law.go:530", #[⟨12, .guard⟩], some (12, false)⟩ rfl ?_
     simp only [Act.put, zS]
     refine zK 14 ⟨some 47, .load 50 (.tmp 46), 50, "law.go:530", #[⟨13, .data⟩, ⟨12, .guard⟩], some (12, false)⟩ rfl ?_
     simp only [Act.put, zS]
     refine zK 15 ⟨some 48, .call ⟨.value (.func 21), #[.tmp 47], #[50]⟩, 4, "law.go:530", #[⟨14, .data⟩, ⟨12, .chain⟩, ⟨12, .guard⟩], some (12, false)⟩ rfl ?_
     simp only [Act.put, zS]
     refine zK 16 ⟨some 49, .unOp .not 4 (.tmp 48), 4, "law.go:530", #[⟨15, .data⟩, ⟨12, .guard⟩], some (12, false)⟩ rfl ?_
     simp only [Act.put, zS]
     refine zV 17 ⟨some 50, .pick (.tmp 45) (.const (.bool true)) (.tmp 49), 4, "law.go:530", #[⟨12, .data⟩, ⟨16, .data⟩], none⟩ rfl ?_
     simp only [Act.put, zS]
     refine zV 18 ⟨some 51, .move (.tmp 50), 4, "law.go:530", #[⟨17, .data⟩, ⟨15, .chain⟩], none⟩ rfl ?_
     simp only [Act.put, zS]
     refine zK 19 ⟨some 52, .move (.tmp 0), 48, "law.go:530", #[⟨18, .guard⟩], some (18, false)⟩ rfl ?_
     simp only [Act.put, zS]
     refine zK 20 ⟨some 53, .call ⟨.builtin .len, #[.tmp 52], #[48]⟩, 3, "law.go:530", #[⟨19, .data⟩, ⟨18, .guard⟩], some (18, false)⟩ rfl ?_
     simp only [Act.put, zS]
     refine zK 21 ⟨some 54, .binOp .gtr 3 (.tmp 53) (.const (.int .i64 4)) 3, 4, "law.go:530", #[⟨20, .data⟩, ⟨18, .guard⟩], some (18, false)⟩ rfl ?_
     simp only [Act.put, zS]
     refine zV 22 ⟨some 55, .pick (.tmp 51) (.const (.bool true)) (.tmp 54), 4, "law.go:530", #[⟨18, .data⟩, ⟨21, .data⟩], none⟩ rfl ?_
     simp only [Act.put, zS]
     refine zV 23 ⟨some 56, .move (.tmp 55), 4, "law.go:530", #[⟨22, .data⟩, ⟨18, .chain⟩], none⟩ rfl ?_
     simp only [Act.put, zS]
     refine zK 24 ⟨some 57, .load 49 (.tmp 4), 49, "law.go:530", #[⟨23, .guard⟩], some (23, false)⟩ rfl ?_
     simp only [Act.put, zS]
     refine zK 25 ⟨some 58, .call ⟨.builtin .len, #[.tmp 57], #[49]⟩, 3, "law.go:530", #[⟨24, .data⟩, ⟨23, .guard⟩], some (23, false)⟩ rfl ?_
     simp only [Act.put, zS]
     refine zK 26 ⟨some 59, .binOp .gtr 3 (.tmp 58) (.const (.int .i64 4)) 3, 4, "law.go:530", #[⟨25, .data⟩, ⟨23, .guard⟩], some (23, false)⟩ rfl ?_
     simp only [Act.put, zS]
     refine zV 27 ⟨some 60, .pick (.tmp 56) (.const (.bool true)) (.tmp 59), 4, "law.go:530", #[⟨23, .data⟩, ⟨26, .data⟩], none⟩ rfl ?_
     simp only [Act.put, zS]
     refine zV 28 ⟨some 61, .move (.tmp 60), 4, "law.go:530", #[⟨27, .data⟩, ⟨23, .chain⟩], none⟩ rfl ?_
     simp only [Act.put, zS]
     refine zK 29 ⟨some 62, .fieldAddr 52 (.tmp 5) 0, 0, "law.go:530", #[⟨28, .guard⟩], some (28, false)⟩ rfl ?_
     simp only [Act.put, zS]
     refine zK 30 ⟨some 63, .load 41 (.tmp 62), 41, "law.go:530", #[⟨29, .data⟩, ⟨28, .guard⟩], some (28, false)⟩ rfl ?_
     simp only [Act.put, zS]
     refine zK 31 ⟨some 64, .call ⟨.builtin .len, #[.tmp 63], #[41]⟩, 3, "law.go:530", #[⟨30, .data⟩, ⟨28, .guard⟩], some (28, false)⟩ rfl ?_
     simp only [Act.put, zS]
     refine zK 32 ⟨some 65, .binOp .gtr 3 (.tmp 64) (.const (.int .i64 10)) 3, 4, "law.go:530", #[⟨31, .data⟩, ⟨28, .guard⟩], some (28, false)⟩ rfl ?_
     simp only [Act.put, zS]
     refine zV 33 ⟨some 66, .pick (.tmp 61) (.const (.bool true)) (.tmp 65), 4, "law.go:530", #[⟨28, .data⟩, ⟨32, .data⟩], none⟩ rfl ?_
     simp only [Act.put, zS]
     refine zV 34 ⟨some 67, .move (.tmp 66), 4, "law.go:530", #[⟨33, .data⟩, ⟨28, .chain⟩], none⟩ rfl ?_
     simp only [Act.put, zS]
     refine zK 35 ⟨some 68, .move (.tmp 0), 48, "law.go:530", #[⟨34, .guard⟩], some (34, false)⟩ rfl ?_
     simp only [Act.put, zS]
     refine zK 36 ⟨some 69, .load 49 (.tmp 4), 49, "law.go:530", #[⟨34, .guard⟩], some (34, false)⟩ rfl ?_
     simp only [Act.put, zS]
     refine zK 37 ⟨some 70, .call ⟨.value (.func 31), #[.tmp 68, .tmp 69], #[48, 49]⟩, 3, "law.go:530", #[⟨35, .data⟩, ⟨36, .data⟩, ⟨34, .chain⟩, ⟨34, .guard⟩], some (34, false)⟩ rfl ?_
     simp only [Act.put, zS]
     refine zK 38 ⟨some 71, .fieldAddr 52 (.tmp 5) 2, 0, "law.go:530", #[⟨34, .guard⟩], some (34, false)⟩ rfl ?_
     simp only [Act.put, zS]
     refine zK 39 ⟨some 72, .load 50 (.tmp 71), 50, "law.go:530", #[⟨38, .data⟩, ⟨34, .guard⟩], some (34, false)⟩ rfl ?_
     simp only [Act.put, zS]
     refine zK 40 ⟨some 73, .call ⟨.value (.func 37), #[.tmp 72], #[50]⟩, 3, "law.go:530", #[⟨39, .data⟩, ⟨37, .chain⟩, ⟨34, .guard⟩], some (34, false)⟩ rfl ?_
     simp only [Act.put, zS]
     refine zK 41 ⟨some 74, .buildSlice 41 2 #[(0, .tmp 70), (1, .tmp 73)], 41, "law.go:530", #[⟨37, .data⟩, ⟨40, .data⟩, ⟨34, .guard⟩], some (34, false)⟩ rfl ?_
     simp only [Act.put, zS]
     refine zK 42 ⟨some 75, .call ⟨.value (.func 36), #[.tmp 74], #[41]⟩, 3, "law.go:530", #[⟨41, .data⟩, ⟨40, .chain⟩, ⟨34, .guard⟩], some (34, false)⟩ rfl ?_
     simp only [Act.put, zS]
     refine zK 43 ⟨some 76, .binOp .neq 3 (.tmp 75) (.const (.int .i64 0)) 3, 4, "law.go:530", #[⟨42, .data⟩, ⟨34, .guard⟩], some (34, false)⟩ rfl ?_
     simp only [Act.put, zS]
     refine zV 44 ⟨some 77, .pick (.tmp 67) (.const (.bool true)) (.tmp 76), 4, "law.go:530", #[⟨34, .data⟩, ⟨43, .data⟩], none⟩ rfl ?_
     simp only [Act.put, zS]
     refine wpAnyE_done (by kernel_rfl) (fun wy1 hE => ?_) _
     have hbz1 := bthen hbz hE
     have c4 := cellb c4 hE
     have c50 := cellb c50 hE
     have c52 := cellb c52 hE
     have hA := hA.carry hE
     have hO := hO.carry hE
     have hD := hD.carry hE
     clear hE
     have hb := hbz1
     obtain ⟨W4, hW4⟩ : ∃ v, v = wy1 := ⟨_, rfl⟩
     rw [← hW4] at hb ⊢
     clear hW4
     rename_i W4
     clear c4 c50 c52 hA hO hD hPl
     go_wp2_with fail
     refine (TA.out W4 (HP.out.carry (bthen K2.out hb)) (HH.out.carry (bthen K2.out hb))).mono ?_
     rintro e w2 ⟨rfl, hb2⟩
     go_wp2
     go_ret
     exact ⟨rfl, bthen K2.out (bthen hb hb2)⟩
   | true =>
     cases s3 with
     | false =>
       refine wp_region_E 99 (by kernel_rfl) ?_
       obtain ⟨wz, hwz⟩ : ∃ v, v = W2.drew := ⟨_, rfl⟩
       rw [← hwz]
       have hlz : Below W2.heap.size W2 wz := by rw [hwz]; exact (Below.refl _ _).drew
       have hbz := bthen (Below.refl _ _) hlz
       have c4 := cellb c4 hlz
       have c50 := cellb c50 hlz
       have c52 := cellb c52 hlz
       have hA := hA.carry hlz
       have hO := hO.carry hlz
       have hD := hD.carry hlz
       clear hwz hlz
       refine zB 0 ⟨some 33, .call ⟨.value (.func 6), #[], #[]⟩, 4, "law.go:530", #[], none⟩ (fun w hE => TA.out w (HP.out.carry (bthen K2.out (bthen hbz hE))) (HH.out.carry (bthen K2.out (bthen hbz hE)))) rfl ?_
       simp only [Act.put, zS]
       refine zV 1 ⟨some 34, .unOp .not 4 (.tmp 33), 4, "law.go:530", #[⟨0, .data⟩], none⟩ rfl ?_
       simp only [Act.put, zS]
       refine zV 2 ⟨some 35, .move (.tmp 34), 4, "law.go:530", #[⟨1, .data⟩, ⟨0, .chain⟩], none⟩ rfl ?_
       simp only [Act.put, zS]
       refine zV 3 ⟨some 36, .move (.tmp 0), 48, "law.go:530", #[⟨2, .guard⟩], some (2, false)⟩ rfl ?_
       simp only [Act.put, zS]
       refine zB 4 ⟨some 37, .call ⟨.value (.func 19), #[.tmp 36], #[48]⟩, 4, "law.go:530", #[⟨3, .data⟩, ⟨2, .chain⟩, ⟨2, .guard⟩], some (2, false)⟩ (fun w hE => ofPure (T1.out w (hA.carry hE))) rfl ?_
       simp only [Act.put, zS]
       refine zV 5 ⟨some 38, .unOp .not 4 (.tmp 37), 4, "law.go:530", #[⟨4, .data⟩, ⟨2, .guard⟩], some (2, false)⟩ rfl ?_
       simp only [Act.put, zS]
       refine zV 6 ⟨some 39, .pick (.tmp 35) (.const (.bool true)) (.tmp 38), 4, "law.go:530", #[⟨2, .data⟩, ⟨5, .data⟩], none⟩ rfl ?_
       simp only [Act.put, zS]
       refine zV 7 ⟨some 40, .move (.tmp 39), 4, "law.go:530", #[⟨6, .data⟩, ⟨4, .chain⟩], none⟩ rfl ?_
       simp only [Act.put, zS]
       refine zV 8 ⟨some 41, .load 49 (.tmp 4), 49, "law.go:530", #[⟨7, .guard⟩], some (7, false)⟩ rfl ?_ (hv := fun w hE => by have c4 := cellb c4 hE; have c50 := cellb c50 hE; have c52 := cellb c52 hE; (try dsimp only); go_simp; try rfl)
       simp only [Act.put, zS]
       refine zB 9 ⟨some 42, .call ⟨.value (.func 20), #[.tmp 41], #[49]⟩, 4, "law.go:530", #[⟨8, .data⟩, ⟨7, .chain⟩, ⟨7, .guard⟩], some (7, false)⟩ (fun w hE => ofPure (T2.out w)) rfl ?_
       simp only [Act.put, zS]
       refine zV 10 ⟨some 43, .unOp .not 4 (.tmp 42), 4, "law.go:530", #[⟨9, .data⟩, ⟨7, .guard⟩], some (7, false)⟩ rfl ?_
       simp only [Act.put, zS]
       refine zV 11 ⟨some 44, .pick (.tmp 40) (.const (.bool true)) (.tmp 43), 4, "law.go:530", #[⟨7, .data⟩, ⟨10, .data⟩], none⟩ rfl ?_
       simp only [Act.put, zS]
       refine zV 12 ⟨some 45, .move (.tmp 44), 4, "law.go:530", #[⟨11, .data⟩, ⟨9, .chain⟩], none⟩ rfl ?_
       simp only [Act.put, zS]
       refine zV 13 ⟨some 46, .fieldAddr 52 (.tmp 5) 2, 0, "law.go:530", #[⟨12, .guard⟩], some (12, false)⟩ rfl ?_
       simp only [Act.put, zS]
       refine zV 14 ⟨some 47, .load 50 (.tmp 46), 50, "law.go:530", #[⟨13, .data⟩, ⟨12, .guard⟩], some (12, false)⟩ rfl ?_ (hv := fun w hE => by have c4 := cellb c4 hE; have c50 := cellb c50 hE; have c52 := cellb c52 hE; (try dsimp only); go_simp; try rfl)
       simp only [Act.put, zS]
       refine zB 15 ⟨some 48, .call ⟨.value (.func 21), #[.tmp 47], #[50]⟩, 4, "law.go:530", #[⟨14, .data⟩, ⟨12, .chain⟩, ⟨12, .guard⟩], some (12, false)⟩ (fun w hE => ofPure (T3.out w)) rfl ?_
       simp only [Act.put, zS]
       refine zV 16 ⟨some 49, .unOp .not 4 (.tmp 48), 4, "law.go:530", #[⟨15, .data⟩, ⟨12, .guard⟩], some (12, false)⟩ rfl ?_
       simp only [Act.put, zS]
       refine zV 17 ⟨some 50, .pick (.tmp 45) (.const (.bool true)) (.tmp 49), 4, "law.go:530", #[⟨12, .data⟩, ⟨16, .data⟩], none⟩ rfl ?_
       simp only [Act.put, zS]
       refine zV 18 ⟨some 51, .move (.tmp 50), 4, "law.go:530", #[⟨17, .data⟩, ⟨15, .chain⟩], none⟩ rfl ?_
       simp only [Act.put, zS]
       refine zK 19 ⟨some 52, .move (.tmp 0), 48, "law.go:530", #[⟨18, .guard⟩], some (18, false)⟩ rfl ?_
       simp only [Act.put, zS]
       refine zK 20 ⟨some 53, .call ⟨.builtin .len, #[.tmp 52], #[48]⟩, 3, "law.go:530", #[⟨19, .data⟩, ⟨18, .guard⟩], some (18, false)⟩ rfl ?_
       simp only [Act.put, zS]
       refine zK 21 ⟨some 54, .binOp .gtr 3 (.tmp 53) (.const (.int .i64 4)) 3, 4, "law.go:530", #[⟨20, .data⟩, ⟨18, .guard⟩], some (18, false)⟩ rfl ?_
       simp only [Act.put, zS]
       refine zV 22 ⟨some 55, .pick (.tmp 51) (.const (.bool true)) (.tmp 54), 4, "law.go:530", #[⟨18, .data⟩, ⟨21, .data⟩], none⟩ rfl ?_
       simp only [Act.put, zS]
       refine zV 23 ⟨some 56, .move (.tmp 55), 4, "law.go:530", #[⟨22, .data⟩, ⟨18, .chain⟩], none⟩ rfl ?_
       simp only [Act.put, zS]
       refine zK 24 ⟨some 57, .load 49 (.tmp 4), 49, "law.go:530", #[⟨23, .guard⟩], some (23, false)⟩ rfl ?_
       simp only [Act.put, zS]
       refine zK 25 ⟨some 58, .call ⟨.builtin .len, #[.tmp 57], #[49]⟩, 3, "law.go:530", #[⟨24, .data⟩, ⟨23, .guard⟩], some (23, false)⟩ rfl ?_
       simp only [Act.put, zS]
       refine zK 26 ⟨some 59, .binOp .gtr 3 (.tmp 58) (.const (.int .i64 4)) 3, 4, "law.go:530", #[⟨25, .data⟩, ⟨23, .guard⟩], some (23, false)⟩ rfl ?_
       simp only [Act.put, zS]
       refine zV 27 ⟨some 60, .pick (.tmp 56) (.const (.bool true)) (.tmp 59), 4, "law.go:530", #[⟨23, .data⟩, ⟨26, .data⟩], none⟩ rfl ?_
       simp only [Act.put, zS]
       refine zV 28 ⟨some 61, .move (.tmp 60), 4, "law.go:530", #[⟨27, .data⟩, ⟨23, .chain⟩], none⟩ rfl ?_
       simp only [Act.put, zS]
       refine zK 29 ⟨some 62, .fieldAddr 52 (.tmp 5) 0, 0, "law.go:530", #[⟨28, .guard⟩], some (28, false)⟩ rfl ?_
       simp only [Act.put, zS]
       refine zK 30 ⟨some 63, .load 41 (.tmp 62), 41, "law.go:530", #[⟨29, .data⟩, ⟨28, .guard⟩], some (28, false)⟩ rfl ?_
       simp only [Act.put, zS]
       refine zK 31 ⟨some 64, .call ⟨.builtin .len, #[.tmp 63], #[41]⟩, 3, "law.go:530", #[⟨30, .data⟩, ⟨28, .guard⟩], some (28, false)⟩ rfl ?_
       simp only [Act.put, zS]
       refine zK 32 ⟨some 65, .binOp .gtr 3 (.tmp 64) (.const (.int .i64 10)) 3, 4, "law.go:530", #[⟨31, .data⟩, ⟨28, .guard⟩], some (28, false)⟩ rfl ?_
       simp only [Act.put, zS]
       refine zV 33 ⟨some 66, .pick (.tmp 61) (.const (.bool true)) (.tmp 65), 4, "law.go:530", #[⟨28, .data⟩, ⟨32, .data⟩], none⟩ rfl ?_
       simp only [Act.put, zS]
       refine zV 34 ⟨some 67, .move (.tmp 66), 4, "law.go:530", #[⟨33, .data⟩, ⟨28, .chain⟩], none⟩ rfl ?_
       simp only [Act.put, zS]
       refine zK 35 ⟨some 68, .move (.tmp 0), 48, "law.go:530", #[⟨34, .guard⟩], some (34, false)⟩ rfl ?_
       simp only [Act.put, zS]
       refine zK 36 ⟨some 69, .load 49 (.tmp 4), 49, "law.go:530", #[⟨34, .guard⟩], some (34, false)⟩ rfl ?_
       simp only [Act.put, zS]
       refine zK 37 ⟨some 70, .call ⟨.value (.func 31), #[.tmp 68, .tmp 69], #[48, 49]⟩, 3, "law.go:530", #[⟨35, .data⟩, ⟨36, .data⟩, ⟨34, .chain⟩, ⟨34, .guard⟩], some (34, false)⟩ rfl ?_
       simp only [Act.put, zS]
       refine zK 38 ⟨some 71, .fieldAddr 52 (.tmp 5) 2, 0, "law.go:530", #[⟨34, .guard⟩], some (34, false)⟩ rfl ?_
       simp only [Act.put, zS]
       refine zK 39 ⟨some 72, .load 50 (.tmp 71), 50, "law.go:530", #[⟨38, .data⟩, ⟨34, .guard⟩], some (34, false)⟩ rfl ?_
       simp only [Act.put, zS]
       refine zK 40 ⟨some 73, .call ⟨.value (.func 37), #[.tmp 72], #[50]⟩, 3, "law.go:530", #[⟨39, .data⟩, ⟨37, .chain⟩, ⟨34, .guard⟩], some (34, false)⟩ rfl ?_
       simp only [Act.put, zS]
       refine zK 41 ⟨some 74, .buildSlice 41 2 #[(0, .tmp 70), (1, .tmp 73)], 41, "law.go:530", #[⟨37, .data⟩, ⟨40, .data⟩, ⟨34, .guard⟩], some (34, false)⟩ rfl ?_
       simp only [Act.put, zS]
       refine zK 42 ⟨some 75, .call ⟨.value (.func 36), #[.tmp 74], #[41]⟩, 3, "law.go:530", #[⟨41, .data⟩, ⟨40, .chain⟩, ⟨34, .guard⟩], some (34, false)⟩ rfl ?_
       simp only [Act.put, zS]
       refine zK 43 ⟨some 76, .binOp .neq 3 (.tmp 75) (.const (.int .i64 0)) 3, 4, "law.go:530", #[⟨42, .data⟩, ⟨34, .guard⟩], some (34, false)⟩ rfl ?_
       simp only [Act.put, zS]
       refine zV 44 ⟨some 77, .pick (.tmp 67) (.const (.bool true)) (.tmp 76), 4, "law.go:530", #[⟨34, .data⟩, ⟨43, .data⟩], none⟩ rfl ?_
       simp only [Act.put, zS]
       refine wpAnyE_done (by kernel_rfl) (fun wy1 hE => ?_) _
       have hbz1 := bthen hbz hE
       have c4 := cellb c4 hE
       have c50 := cellb c50 hE
       have c52 := cellb c52 hE
       have hA := hA.carry hE
       have hO := hO.carry hE
       have hD := hD.carry hE
       clear hE
       have hb := hbz1
       obtain ⟨W4, hW4⟩ : ∃ v, v = wy1 := ⟨_, rfl⟩
       rw [← hW4] at hb ⊢
       clear hW4
       rename_i W4
       clear c4 c50 c52 hA hO hD hPl
       go_wp2_with fail
       refine (TA.out W4 (HP.out.carry (bthen K2.out hb)) (HH.out.carry (bthen K2.out hb))).mono ?_
       rintro e w2 ⟨rfl, hb2⟩
       go_wp2
       go_ret
       exact ⟨rfl, bthen K2.out (bthen hb hb2)⟩
     | true =>
       by_cases hm4 : 4 < NM
       ·have d1 : (4 : Int) < (NM : Int) := by omega
        refine wp_region_E 99 (by kernel_rfl) ?_
        obtain ⟨wz, hwz⟩ : ∃ v, v = W2.drew := ⟨_, rfl⟩
        rw [← hwz]
        have hlz : Below W2.heap.size W2 wz := by rw [hwz]; exact (Below.refl _ _).drew
        have hbz := bthen (Below.refl _ _) hlz
        have c4 := cellb c4 hlz
        have c50 := cellb c50 hlz
        have c52 := cellb c52 hlz
        have hA := hA.carry hlz
        have hO := hO.carry hlz
        have hD := hD.carry hlz
        clear hwz hlz
        refine zB 0 ⟨some 33, .call ⟨.value (.func 6), #[], #[]⟩, 4, "law.go:530", #[], none⟩ (fun w hE => TA.out w (HP.out.carry (bthen K2.out (bthen hbz hE))) (HH.out.carry (bthen K2.out (bthen hbz hE)))) rfl ?_
        simp only [Act.put, zS]
        refine zV 1 ⟨some 34, .unOp .not 4 (.tmp 33), 4, "law.go:530", #[⟨0, .data⟩], none⟩ rfl ?_
        simp only [Act.put, zS]
        refine zV 2 ⟨some 35, .move (.tmp 34), 4, "law.go:530", #[⟨1, .data⟩, ⟨0, .chain⟩], none⟩ rfl ?_
        simp only [Act.put, zS]
        refine zV 3 ⟨some 36, .move (.tmp 0), 48, "law.go:530", #[⟨2, .guard⟩], some (2, false)⟩ rfl ?_
        simp only [Act.put, zS]
        refine zB 4 ⟨some 37, .call ⟨.value (.func 19), #[.tmp 36], #[48]⟩, 4, "law.go:530", #[⟨3, .data⟩, ⟨2, .chain⟩, ⟨2, .guard⟩], some (2, false)⟩ (fun w hE => ofPure (T1.out w (hA.carry hE))) rfl ?_
        simp only [Act.put, zS]
        refine zV 5 ⟨some 38, .unOp .not 4 (.tmp 37), 4, "law.go:530", #[⟨4, .data⟩, ⟨2, .guard⟩], some (2, false)⟩ rfl ?_
        simp only [Act.put, zS]
        refine zV 6 ⟨some 39, .pick (.tmp 35) (.const (.bool true)) (.tmp 38), 4, "law.go:530", #[⟨2, .data⟩, ⟨5, .data⟩], none⟩ rfl ?_
        simp only [Act.put, zS]
        refine zV 7 ⟨some 40, .move (.tmp 39), 4, "law.go:530", #[⟨6, .data⟩, ⟨4, .chain⟩], none⟩ rfl ?_
        simp only [Act.put, zS]
        refine zV 8 ⟨some 41, .load 49 (.tmp 4), 49, "law.go:530", #[⟨7, .guard⟩], some (7, false)⟩ rfl ?_ (hv := fun w hE => by have c4 := cellb c4 hE; have c50 := cellb c50 hE; have c52 := cellb c52 hE; (try dsimp only); go_simp; try rfl)
        simp only [Act.put, zS]
        refine zB 9 ⟨some 42, .call ⟨.value (.func 20), #[.tmp 41], #[49]⟩, 4, "law.go:530", #[⟨8, .data⟩, ⟨7, .chain⟩, ⟨7, .guard⟩], some (7, false)⟩ (fun w hE => ofPure (T2.out w)) rfl ?_
        simp only [Act.put, zS]
        refine zV 10 ⟨some 43, .unOp .not 4 (.tmp 42), 4, "law.go:530", #[⟨9, .data⟩, ⟨7, .guard⟩], some (7, false)⟩ rfl ?_
        simp only [Act.put, zS]
        refine zV 11 ⟨some 44, .pick (.tmp 40) (.const (.bool true)) (.tmp 43), 4, "law.go:530", #[⟨7, .data⟩, ⟨10, .data⟩], none⟩ rfl ?_
        simp only [Act.put, zS]
        refine zV 12 ⟨some 45, .move (.tmp 44), 4, "law.go:530", #[⟨11, .data⟩, ⟨9, .chain⟩], none⟩ rfl ?_
        simp only [Act.put, zS]
        refine zV 13 ⟨some 46, .fieldAddr 52 (.tmp 5) 2, 0, "law.go:530", #[⟨12, .guard⟩], some (12, false)⟩ rfl ?_
        simp only [Act.put, zS]
        refine zV 14 ⟨some 47, .load 50 (.tmp 46), 50, "law.go:530", #[⟨13, .data⟩, ⟨12, .guard⟩], some (12, false)⟩ rfl ?_ (hv := fun w hE => by have c4 := cellb c4 hE; have c50 := cellb c50 hE; have c52 := cellb c52 hE; (try dsimp only); go_simp; try rfl)
        simp only [Act.put, zS]
        refine zB 15 ⟨some 48, .call ⟨.value (.func 21), #[.tmp 47], #[50]⟩, 4, "law.go:530", #[⟨14, .data⟩, ⟨12, .chain⟩, ⟨12, .guard⟩], some (12, false)⟩ (fun w hE => ofPure (T3.out w)) rfl ?_
        simp only [Act.put, zS]
        refine zV 16 ⟨some 49, .unOp .not 4 (.tmp 48), 4, "law.go:530", #[⟨15, .data⟩, ⟨12, .guard⟩], some (12, false)⟩ rfl ?_
        simp only [Act.put, zS]
        refine zV 17 ⟨some 50, .pick (.tmp 45) (.const (.bool true)) (.tmp 49), 4, "law.go:530", #[⟨12, .data⟩, ⟨16, .data⟩], none⟩ rfl ?_
        simp only [Act.put, zS]
        refine zV 18 ⟨some 51, .move (.tmp 50), 4, "law.go:530", #[⟨17, .data⟩, ⟨15, .chain⟩], none⟩ rfl ?_
        simp only [Act.put, zS]
        refine zV 19 ⟨some 52, .move (.tmp 0), 48, "law.go:530", #[⟨18, .guard⟩], some (18, false)⟩ rfl ?_
        simp only [Act.put, zS]
        refine zV 20 ⟨some 53, .call ⟨.builtin .len, #[.tmp 52], #[48]⟩, 3, "law.go:530", #[⟨19, .data⟩, ⟨18, .guard⟩], some (18, false)⟩ rfl ?_ (hv := fun w hE => by have c4 := cellb c4 hE; have c50 := cellb c50 hE; have c52 := cellb c52 hE; (try dsimp only); go_simp; try rfl)
        simp only [Act.put, zS]
        refine zV 21 ⟨some 54, .binOp .gtr 3 (.tmp 53) (.const (.int .i64 4)) 3, 4, "law.go:530", #[⟨20, .data⟩, ⟨18, .guard⟩], some (18, false)⟩ rfl ?_
        simp only [Act.put, zS]
        refine zV 22 ⟨some 55, .pick (.tmp 51) (.const (.bool true)) (.tmp 54), 4, "law.go:530", #[⟨18, .data⟩, ⟨21, .data⟩], none⟩ rfl ?_
        simp only [Act.put, zS]
        refine zV 23 ⟨some 56, .move (.tmp 55), 4, "law.go:530", #[⟨22, .data⟩, ⟨18, .chain⟩], none⟩ rfl ?_
        simp only [Act.put, zS]
        refine zK 24 ⟨some 57, .load 49 (.tmp 4), 49, "law.go:530", #[⟨23, .guard⟩], some (23, false)⟩ rfl ?_
        simp only [Act.put, zS]
        refine zK 25 ⟨some 58, .call ⟨.builtin .len, #[.tmp 57], #[49]⟩, 3, "law.go:530", #[⟨24, .data⟩, ⟨23, .guard⟩], some (23, false)⟩ rfl ?_
        simp only [Act.put, zS]
        refine zK 26 ⟨some 59, .binOp .gtr 3 (.tmp 58) (.const (.int .i64 4)) 3, 4, "law.go:530", #[⟨25, .data⟩, ⟨23, .guard⟩], some (23, false)⟩ rfl ?_
        simp only [Act.put, zS]
        refine zV 27 ⟨some 60, .pick (.tmp 56) (.const (.bool true)) (.tmp 59), 4, "law.go:530", #[⟨23, .data⟩, ⟨26, .data⟩], none⟩ rfl ?_
        simp only [Act.put, zS]
        refine zV 28 ⟨some 61, .move (.tmp 60), 4, "law.go:530", #[⟨27, .data⟩, ⟨23, .chain⟩], none⟩ rfl ?_
        simp only [Act.put, zS]
        refine zK 29 ⟨some 62, .fieldAddr 52 (.tmp 5) 0, 0, "law.go:530", #[⟨28, .guard⟩], some (28, false)⟩ rfl ?_
        simp only [Act.put, zS]
        refine zK 30 ⟨some 63, .load 41 (.tmp 62), 41, "law.go:530", #[⟨29, .data⟩, ⟨28, .guard⟩], some (28, false)⟩ rfl ?_
        simp only [Act.put, zS]
        refine zK 31 ⟨some 64, .call ⟨.builtin .len, #[.tmp 63], #[41]⟩, 3, "law.go:530", #[⟨30, .data⟩, ⟨28, .guard⟩], some (28, false)⟩ rfl ?_
        simp only [Act.put, zS]
        refine zK 32 ⟨some 65, .binOp .gtr 3 (.tmp 64) (.const (.int .i64 10)) 3, 4, "law.go:530", #[⟨31, .data⟩, ⟨28, .guard⟩], some (28, false)⟩ rfl ?_
        simp only [Act.put, zS]
        refine zV 33 ⟨some 66, .pick (.tmp 61) (.const (.bool true)) (.tmp 65), 4, "law.go:530", #[⟨28, .data⟩, ⟨32, .data⟩], none⟩ rfl ?_
        simp only [Act.put, zS]
        refine zV 34 ⟨some 67, .move (.tmp 66), 4, "law.go:530", #[⟨33, .data⟩, ⟨28, .chain⟩], none⟩ rfl ?_
        simp only [Act.put, zS]
        refine zK 35 ⟨some 68, .move (.tmp 0), 48, "law.go:530", #[⟨34, .guard⟩], some (34, false)⟩ rfl ?_
        simp only [Act.put, zS]
        refine zK 36 ⟨some 69, .load 49 (.tmp 4), 49, "law.go:530", #[⟨34, .guard⟩], some (34, false)⟩ rfl ?_
        simp only [Act.put, zS]
        refine zK 37 ⟨some 70, .call ⟨.value (.func 31), #[.tmp 68, .tmp 69], #[48, 49]⟩, 3, "law.go:530", #[⟨35, .data⟩, ⟨36, .data⟩, ⟨34, .chain⟩, ⟨34, .guard⟩], some (34, false)⟩ rfl ?_
        simp only [Act.put, zS]
        refine zK 38 ⟨some 71, .fieldAddr 52 (.tmp 5) 2, 0, "law.go:530", #[⟨34, .guard⟩], some (34, false)⟩ rfl ?_
        simp only [Act.put, zS]
        refine zK 39 ⟨some 72, .load 50 (.tmp 71), 50, "law.go:530", #[⟨38, .data⟩, ⟨34, .guard⟩], some (34, false)⟩ rfl ?_
        simp only [Act.put, zS]
        refine zK 40 ⟨some 73, .call ⟨.value (.func 37), #[.tmp 72], #[50]⟩, 3, "law.go:530", #[⟨39, .data⟩, ⟨37, .chain⟩, ⟨34, .guard⟩], some (34, false)⟩ rfl ?_
        simp only [Act.put, zS]
        refine zK 41 ⟨some 74, .buildSlice 41 2 #[(0, .tmp 70), (1, .tmp 73)], 41, "law.go:530", #[⟨37, .data⟩, ⟨40, .data⟩, ⟨34, .guard⟩], some (34, false)⟩ rfl ?_
        simp only [Act.put, zS]
        refine zK 42 ⟨some 75, .call ⟨.value (.func 36), #[.tmp 74], #[41]⟩, 3, "law.go:530", #[⟨41, .data⟩, ⟨40, .chain⟩, ⟨34, .guard⟩], some (34, false)⟩ rfl ?_
        simp only [Act.put, zS]
        refine zK 43 ⟨some 76, .binOp .neq 3 (.tmp 75) (.const (.int .i64 0)) 3, 4, "law.go:530", #[⟨42, .data⟩, ⟨34, .guard⟩], some (34, false)⟩ rfl ?_
        simp only [Act.put, zS]
        refine zV 44 ⟨some 77, .pick (.tmp 67) (.const (.bool true)) (.tmp 76), 4, "law.go:530", #[⟨34, .data⟩, ⟨43, .data⟩], none⟩ rfl ?_
        simp only [Act.put, zS]
        refine wpAnyE_done (by kernel_rfl) (fun wy1 hE => ?_) _
        have hbz1 := bthen hbz hE
        have c4 := cellb c4 hE
        have c50 := cellb c50 hE
        have c52 := cellb c52 hE
        have hA := hA.carry hE
        have hO := hO.carry hE
        have hD := hD.carry hE
        clear hE
        have hb := hbz1
        obtain ⟨W4, hW4⟩ : ∃ v, v = wy1 := ⟨_, rfl⟩
        rw [← hW4] at hb ⊢
        clear hW4
        rename_i W4
        clear c4 c50 c52 hA hO hD hPl
        go_wp2_with fail
        refine (TA.out W4 (HP.out.carry (bthen K2.out hb)) (HH.out.carry (bthen K2.out hb))).mono ?_
        rintro e w2 ⟨rfl, hb2⟩
        go_wp2
        go_ret
        exact ⟨rfl, bthen K2.out (bthen hb hb2)⟩
       ·have d1 : ¬ (4 : Int) < (NM : Int) := by omega
        by_cases ho4 : 4 < NO
        ·have d2 : (4 : Int) < (NO : Int) := by omega
         refine wp_region_E 99 (by kernel_rfl) ?_
         obtain ⟨wz, hwz⟩ : ∃ v, v = W2.drew := ⟨_, rfl⟩
         rw [← hwz]
         have hlz : Below W2.heap.size W2 wz := by rw [hwz]; exact (Below.refl _ _).drew
         have hbz := bthen (Below.refl _ _) hlz
         have c4 := cellb c4 hlz
         have c50 := cellb c50 hlz
         have c52 := cellb c52 hlz
         have hA := hA.carry hlz
         have hO := hO.carry hlz
         have hD := hD.carry hlz
         clear hwz hlz
         refine zB 0 ⟨some 33, .call ⟨.value (.func 6), #[], #[]⟩, 4, "law.go:530", #[], none⟩ (fun w hE => TA.out w (HP.out.carry (bthen K2.out (bthen hbz hE))) (HH.out.carry (bthen K2.out (bthen hbz hE)))) rfl ?_
         simp only [Act.put, zS]
         refine zV 1 ⟨some 34, .unOp .not 4 (.tmp 33), 4, "law.go:530", #[⟨0, .data⟩], none⟩ rfl ?_
         simp only [Act.put, zS]
         refine zV 2 ⟨some 35, .move (.tmp 34), 4, "law.go:530", #[⟨1, .data⟩, ⟨0, .chain⟩], none⟩ rfl ?_
         simp only [Act.put, zS]
         refine zV 3 ⟨some 36, .move (.tmp 0), 48, "law.go:530", #[⟨2, .guard⟩], some (2, false)⟩ rfl ?_
         simp only [Act.put, zS]
         refine zB 4 ⟨some 37, .call ⟨.value (.func 19), #[.tmp 36], #[48]⟩, 4, "law.go:530", #[⟨3, .data⟩, ⟨2, .chain⟩, ⟨2, .guard⟩], some (2, false)⟩ (fun w hE => ofPure (T1.out w (hA.carry hE))) rfl ?_
         simp only [Act.put, zS]
         refine zV 5 ⟨some 38, .unOp .not 4 (.tmp 37), 4, "law.go:530", #[⟨4, .data⟩, ⟨2, .guard⟩], some (2, false)⟩ rfl ?_
         simp only [Act.put, zS]
         refine zV 6 ⟨some 39, .pick (.tmp 35) (.const (.bool true)) (.tmp 38), 4, "law.go:530", #[⟨2, .data⟩, ⟨5, .data⟩], none⟩ rfl ?_
         simp only [Act.put, zS]
         refine zV 7 ⟨some 40, .move (.tmp 39), 4, "law.go:530", #[⟨6, .data⟩, ⟨4, .chain⟩], none⟩ rfl ?_
         simp only [Act.put, zS]
         refine zV 8 ⟨some 41, .load 49 (.tmp 4), 49, "law.go:530", #[⟨7, .guard⟩], some (7, false)⟩ rfl ?_ (hv := fun w hE => by have c4 := cellb c4 hE; have c50 := cellb c50 hE; have c52 := cellb c52 hE; (try dsimp only); go_simp; try rfl)
         simp only [Act.put, zS]
         refine zB 9 ⟨some 42, .call ⟨.value (.func 20), #[.tmp 41], #[49]⟩, 4, "law.go:530", #[⟨8, .data⟩, ⟨7, .chain⟩, ⟨7, .guard⟩], some (7, false)⟩ (fun w hE => ofPure (T2.out w)) rfl ?_
         simp only [Act.put, zS]
         refine zV 10 ⟨some 43, .unOp .not 4 (.tmp 42), 4, "law.go:530", #[⟨9, .data⟩, ⟨7, .guard⟩], some (7, false)⟩ rfl ?_
         simp only [Act.put, zS]
         refine zV 11 ⟨some 44, .pick (.tmp 40) (.const (.bool true)) (.tmp 43), 4, "law.go:530", #[⟨7, .data⟩, ⟨10, .data⟩], none⟩ rfl ?_
         simp only [Act.put, zS]
         refine zV 12 ⟨some 45, .move (.tmp 44), 4, "law.go:530", #[⟨11, .data⟩, ⟨9, .chain⟩], none⟩ rfl ?_
         simp only [Act.put, zS]
         refine zV 13 ⟨some 46, .fieldAddr 52 (.tmp 5) 2, 0, "law.go:530", #[⟨12, .guard⟩], some (12, false)⟩ rfl ?_
         simp only [Act.put, zS]
         refine zV 14 ⟨some 47, .load 50 (.tmp 46), 50, "law.go:530", #[⟨13, .data⟩, ⟨12, .guard⟩], some (12, false)⟩ rfl ?_ (hv := fun w hE => by have c4 := cellb c4 hE; have c50 := cellb c50 hE; have c52 := cellb c52 hE; (try dsimp only); go_simp; try rfl)
         simp only [Act.put, zS]
         refine zB 15 ⟨some 48, .call ⟨.value (.func 21), #[.tmp 47], #[50]⟩, 4, "law.go:530", #[⟨14, .data⟩, ⟨12, .chain⟩, ⟨12, .guard⟩], some (12, false)⟩ (fun w hE => ofPure (T3.out w)) rfl ?_
         simp only [Act.put, zS]
         refine zV 16 ⟨some 49, .unOp .not 4 (.tmp 48), 4, "law.go:530", #[⟨15, .data⟩, ⟨12, .guard⟩], some (12, false)⟩ rfl ?_
         simp only [Act.put, zS]
         refine zV 17 ⟨some 50, .pick (.tmp 45) (.const (.bool true)) (.tmp 49), 4, "law.go:530", #[⟨12, .data⟩, ⟨16, .data⟩], none⟩ rfl ?_
         simp only [Act.put, zS]
         refine zV 18 ⟨some 51, .move (.tmp 50), 4, "law.go:530", #[⟨17, .data⟩, ⟨15, .chain⟩], none⟩ rfl ?_
         simp only [Act.put, zS]
         refine zV 19 ⟨some 52, .move (.tmp 0), 48, "law.go:530", #[⟨18, .guard⟩], some (18, false)⟩ rfl ?_
         simp only [Act.put, zS]
         refine zV 20 ⟨some 53, .call ⟨.builtin .len, #[.tmp 52], #[48]⟩, 3, "law.go:530", #[⟨19, .data⟩, ⟨18, .guard⟩], some (18, false)⟩ rfl ?_ (hv := fun w hE => by have c4 := cellb c4 hE; have c50 := cellb c50 hE; have c52 := cellb c52 hE; (try dsimp only); go_simp; try rfl)
         simp only [Act.put, zS]
         refine zV 21 ⟨some 54, .binOp .gtr 3 (.tmp 53) (.const (.int .i64 4)) 3, 4, "law.go:530", #[⟨20, .data⟩, ⟨18, .guard⟩], some (18, false)⟩ rfl ?_
         simp only [Act.put, zS]
         refine zV 22 ⟨some 55, .pick (.tmp 51) (.const (.bool true)) (.tmp 54), 4, "law.go:530", #[⟨18, .data⟩, ⟨21, .data⟩], none⟩ rfl ?_
         simp only [Act.put, zS]
         refine zV 23 ⟨some 56, .move (.tmp 55), 4, "law.go:530", #[⟨22, .data⟩, ⟨18, .chain⟩], none⟩ rfl ?_
         simp only [Act.put, zS]
         refine zV 24 ⟨some 57, .load 49 (.tmp 4), 49, "law.go:530", #[⟨23, .guard⟩], some (23, false)⟩ rfl ?_ (hv := fun w hE => by have c4 := cellb c4 hE; have c50 := cellb c50 hE; have c52 := cellb c52 hE; (try dsimp only); go_simp; try rfl)
         simp only [Act.put, zS]
         refine zV 25 ⟨some 58, .call ⟨.builtin .len, #[.tmp 57], #[49]⟩, 3, "law.go:530", #[⟨24, .data⟩, ⟨23, .guard⟩], some (23, false)⟩ rfl ?_ (hv := fun w hE => by have c4 := cellb c4 hE; have c50 := cellb c50 hE; have c52 := cellb c52 hE; (try dsimp only); go_simp; try rfl)
         simp only [Act.put, zS]
         refine zV 26 ⟨some 59, .binOp .gtr 3 (.tmp 58) (.const (.int .i64 4)) 3, 4, "law.go:530", #[⟨25, .data⟩, ⟨23, .guard⟩], some (23, false)⟩ rfl ?_
         simp only [Act.put, zS]
         refine zV 27 ⟨some 60, .pick (.tmp 56) (.const (.bool true)) (.tmp 59), 4, "law.go:530", #[⟨23, .data⟩, ⟨26, .data⟩], none⟩ rfl ?_
         simp only [Act.put, zS]
         refine zV 28 ⟨some 61, .move (.tmp 60), 4, "law.go:530", #[⟨27, .data⟩, ⟨23, .chain⟩], none⟩ rfl ?_
         simp only [Act.put, zS]
         refine zK 29 ⟨some 62, .fieldAddr 52 (.tmp 5) 0, 0, "law.go:530", #[⟨28, .guard⟩], some (28, false)⟩ rfl ?_
         simp only [Act.put, zS]
         refine zK 30 ⟨some 63, .load 41 (.tmp 62), 41, "law.go:530", #[⟨29, .data⟩, ⟨28, .guard⟩], some (28, false)⟩ rfl ?_
         simp only [Act.put, zS]
         refine zK 31 ⟨some 64, .call ⟨.builtin .len, #[.tmp 63], #[41]⟩, 3, "law.go:530", #[⟨30, .data⟩, ⟨28, .guard⟩], some (28, false)⟩ rfl ?_
         simp only [Act.put, zS]
         refine zK 32 ⟨some 65, .binOp .gtr 3 (.tmp 64) (.const (.int .i64 10)) 3, 4, "law.go:530", #[⟨31, .data⟩, ⟨28, .guard⟩], some (28, false)⟩ rfl ?_
         simp only [Act.put, zS]
         refine zV 33 ⟨some 66, .pick (.tmp 61) (.const (.bool true)) (.tmp 65), 4, "law.go:530", #[⟨28, .data⟩, ⟨32, .data⟩], none⟩ rfl ?_
         simp only [Act.put, zS]
         refine zV 34 ⟨some 67, .move (.tmp 66), 4, "law.go:530", #[⟨33, .data⟩, ⟨28, .chain⟩], none⟩ rfl ?_
         simp only [Act.put, zS]
         refine zK 35 ⟨some 68, .move (.tmp 0), 48, "law.go:530", #[⟨34, .guard⟩], some (34, false)⟩ rfl ?_
         simp only [Act.put, zS]
         refine zK 36 ⟨some 69, .load 49 (.tmp 4), 49, "law.go:530", #[⟨34, .guard⟩], some (34, false)⟩ rfl ?_
         simp only [Act.put, zS]
         refine zK 37 ⟨some 70, .call ⟨.value (.func 31), #[.tmp 68, .tmp 69], #[48, 49]⟩, 3, "law.go:530", #[⟨35, .data⟩, ⟨36, .data⟩, ⟨34, .chain⟩, ⟨34, .guard⟩], some (34, false)⟩ rfl ?_
         simp only [Act.put, zS]
         refine zK 38 ⟨some 71, .fieldAddr 52 (.tmp 5) 2, 0, "law.go:530", #[⟨34, .guard⟩], some (34, false)⟩ rfl ?_
         simp only [Act.put, zS]
         refine zK 39 ⟨some 72, .load 50 (.tmp 71), 50, "law.go:530", #[⟨38, .data⟩, ⟨34, .guard⟩], some (34, false)⟩ rfl ?_
         simp only [Act.put, zS]
         refine zK 40 ⟨some 73, .call ⟨.value (.func 37), #[.tmp 72], #[50]⟩, 3, "law.go:530", #[⟨39, .data⟩, ⟨37, .chain⟩, ⟨34, .guard⟩], some (34, false)⟩ rfl ?_
         simp only [Act.put, zS]
         refine zK 41 ⟨some 74, .buildSlice 41 2 #[(0, .tmp 70), (1, .tmp 73)], 41, "law.go:530", #[⟨37, .data⟩, ⟨40, .data⟩, ⟨34, .guard⟩], some (34, false)⟩ rfl ?_
         simp only [Act.put, zS]
         refine zK 42 ⟨some 75, .call ⟨.value (.func 36), #[.tmp 74], #[41]⟩, 3, "law.go:530", #[⟨41, .data⟩, ⟨40, .chain⟩, ⟨34, .guard⟩], some (34, false)⟩ rfl ?_
         simp only [Act.put, zS]
         refine zK 43 ⟨some 76, .binOp .neq 3 (.tmp 75) (.const (.int .i64 0)) 3, 4, "law.go:530", #[⟨42, .data⟩, ⟨34, .guard⟩], some (34, false)⟩ rfl ?_
         simp only [Act.put, zS]
         refine zV 44 ⟨some 77, .pick (.tmp 67) (.const (.bool true)) (.tmp 76), 4, "law.go:530", #[⟨34, .data⟩, ⟨43, .data⟩], none⟩ rfl ?_
         simp only [Act.put, zS]
         refine wpAnyE_done (by kernel_rfl) (fun wy1 hE => ?_) _
         have hbz1 := bthen hbz hE
         have c4 := cellb c4 hE
         have c50 := cellb c50 hE
         have c52 := cellb c52 hE
         have hA := hA.carry hE
         have hO := hO.carry hE
         have hD := hD.carry hE
         clear hE
         have hb := hbz1
         obtain ⟨W4, hW4⟩ : ∃ v, v = wy1 := ⟨_, rfl⟩
         rw [← hW4] at hb ⊢
         clear hW4
         rename_i W4
         clear c4 c50 c52 hA hO hD hPl
         go_wp2_with fail
         refine (TA.out W4 (HP.out.carry (bthen K2.out hb)) (HH.out.carry (bthen K2.out hb))).mono ?_
         rintro e w2 ⟨rfl, hb2⟩
         go_wp2
         go_ret
         exact ⟨rfl, bthen K2.out (bthen hb hb2)⟩
        ·have d2 : ¬ (4 : Int) < (NO : Int) := by omega
         by_cases hp10 : 10 < NP
         ·have d3 : (10 : Int) < (NP : Int) := by omega
          refine wp_region_E 99 (by kernel_rfl) ?_
          obtain ⟨wz, hwz⟩ : ∃ v, v = W2.drew := ⟨_, rfl⟩
          rw [← hwz]
          have hlz : Below W2.heap.size W2 wz := by rw [hwz]; exact (Below.refl _ _).drew
          have hbz := bthen (Below.refl _ _) hlz
          have c4 := cellb c4 hlz
          have c50 := cellb c50 hlz
          have c52 := cellb c52 hlz
          have hA := hA.carry hlz
          have hO := hO.carry hlz
          have hD := hD.carry hlz
          clear hwz hlz
          refine zB 0 ⟨some 33, .call ⟨.value (.func 6), #[], #[]⟩, 4, "law.go:530", #[], none⟩ (fun w hE => TA.out w (HP.out.carry (bthen K2.out (bthen hbz hE))) (HH.out.carry (bthen K2.out (bthen hbz hE)))) rfl ?_
          simp only [Act.put, zS]
          refine zV 1 ⟨some 34, .unOp .not 4 (.tmp 33), 4, "law.go:530", #[⟨0, .data⟩], none⟩ rfl ?_
          simp only [Act.put, zS]
          refine zV 2 ⟨some 35, .move (.tmp 34), 4, "law.go:530", #[⟨1, .data⟩, ⟨0, .chain⟩], none⟩ rfl ?_
          simp only [Act.put, zS]
          refine zV 3 ⟨some 36, .move (.tmp 0), 48, "law.go:530", #[⟨2, .guard⟩], some (2, false)⟩ rfl ?_
          simp only [Act.put, zS]
          refine zB 4 ⟨some 37, .call ⟨.value (.func 19), #[.tmp 36], #[48]⟩, 4, "law.go:530", #[⟨3, .data⟩, ⟨2, .chain⟩, ⟨2, .guard⟩], some (2, false)⟩ (fun w hE => ofPure (T1.out w (hA.carry hE))) rfl ?_
          simp only [Act.put, zS]
          refine zV 5 ⟨some 38, .unOp .not 4 (.tmp 37), 4, "law.go:530", #[⟨4, .data⟩, ⟨2, .guard⟩], some (2, false)⟩ rfl ?_
          simp only [Act.put, zS]
          refine zV 6 ⟨some 39, .pick (.tmp 35) (.const (.bool true)) (.tmp 38), 4, "law.go:530", #[⟨2, .data⟩, ⟨5, .data⟩], none⟩ rfl ?_
          simp only [Act.put, zS]
          refine zV 7 ⟨some 40, .move (.tmp 39), 4, "law.go:530", #[⟨6, .data⟩, ⟨4, .chain⟩], none⟩ rfl ?_
          simp only [Act.put, zS]
          refine zV 8 ⟨some 41, .load 49 (.tmp 4), 49, "law.go:530", #[⟨7, .guard⟩], some (7, false)⟩ rfl ?_ (hv := fun w hE => by have c4 := cellb c4 hE; have c50 := cellb c50 hE; have c52 := cellb c52 hE; (try dsimp only); go_simp; try rfl)
          simp only [Act.put, zS]
          refine zB 9 ⟨some 42, .call ⟨.value (.func 20), #[.tmp 41], #[49]⟩, 4, "law.go:530", #[⟨8, .data⟩, ⟨7, .chain⟩, ⟨7, .guard⟩], some (7, false)⟩ (fun w hE => ofPure (T2.out w)) rfl ?_
          simp only [Act.put, zS]
          refine zV 10 ⟨some 43, .unOp .not 4 (.tmp 42), 4, "law.go:530", #[⟨9, .data⟩, ⟨7, .guard⟩], some (7, false)⟩ rfl ?_
          simp only [Act.put, zS]
          refine zV 11 ⟨some 44, .pick (.tmp 40) (.const (.bool true)) (.tmp 43), 4, "law.go:530", #[⟨7, .data⟩, ⟨10, .data⟩], none⟩ rfl ?_
          simp only [Act.put, zS]
          refine zV 12 ⟨some 45, .move (.tmp 44), 4, "law.go:530", #[⟨11, .data⟩, ⟨9, .chain⟩], none⟩ rfl ?_
          simp only [Act.put, zS]
          refine zV 13 ⟨some 46, .fieldAddr 52 (.tmp 5) 2, 0, "law.go:530", #[⟨12, .guard⟩], some (12, false)⟩ rfl ?_
          simp only [Act.put, zS]
          refine zV 14 ⟨some 47, .load 50 (.tmp 46), 50, "law.go:530", #[⟨13, .data⟩, ⟨12, .guard⟩], some (12, false)⟩ rfl ?_ (hv := fun w hE => by have c4 := cellb c4 hE; have c50 := cellb c50 hE; have c52 := cellb c52 hE; (try dsimp only); go_simp; try rfl)
          simp only [Act.put, zS]
          refine zB 15 ⟨some 48, .call ⟨.value (.func 21), #[.tmp 47], #[50]⟩, 4, "law.go:530", #[⟨14, .data⟩, ⟨12, .chain⟩, ⟨12, .guard⟩], some (12, false)⟩ (fun w hE => ofPure (T3.out w)) rfl ?_
          simp only [Act.put, zS]
          refine zV 16 ⟨some 49, .unOp .not 4 (.tmp 48), 4, "law.go:530", #[⟨15, .data⟩, ⟨12, .guard⟩], some (12, false)⟩ rfl ?_
          simp only [Act.put, zS]
          refine zV 17 ⟨some 50, .pick (.tmp 45) (.const (.bool true)) (.tmp 49), 4, "law.go:530", #[⟨12, .data⟩, ⟨16, .data⟩], none⟩ rfl ?_
          simp only [Act.put, zS]
          refine zV 18 ⟨some 51, .move (.tmp 50), 4, "law.go:530", #[⟨17, .data⟩, ⟨15, .chain⟩], none⟩ rfl ?_
          simp only [Act.put, zS]
          refine zV 19 ⟨some 52, .move (.tmp 0), 48, "law.go:530", #[⟨18, .guard⟩], some (18, false)⟩ rfl ?_
          simp only [Act.put, zS]
          refine zV 20 ⟨some 53, .call ⟨.builtin .len, #[.tmp 52], #[48]⟩, 3, "law.go:530", #[⟨19, .data⟩, ⟨18, .guard⟩], some (18, false)⟩ rfl ?_ (hv := fun w hE => by have c4 := cellb c4 hE; have c50 := cellb c50 hE; have c52 := cellb c52 hE; (try dsimp only); go_simp; try rfl)
          simp only [Act.put, zS]
          refine zV 21 ⟨some 54, .binOp .gtr 3 (.tmp 53) (.const (.int .i64 4)) 3, 4, "law.go:530", #[⟨20, .data⟩, ⟨18, .guard⟩], some (18, false)⟩ rfl ?_
          simp only [Act.put, zS]
          refine zV 22 ⟨some 55, .pick (.tmp 51) (.const (.bool true)) (.tmp 54), 4, "law.go:530", #[⟨18, .data⟩, ⟨21, .data⟩], none⟩ rfl ?_
          simp only [Act.put, zS]
          refine zV 23 ⟨some 56, .move (.tmp 55), 4, "law.go:530", #[⟨22, .data⟩, ⟨18, .chain⟩], none⟩ rfl ?_
          simp only [Act.put, zS]
          refine zV 24 ⟨some 57, .load 49 (.tmp 4), 49, "law.go:530", #[⟨23, .guard⟩], some (23, false)⟩ rfl ?_ (hv := fun w hE => by have c4 := cellb c4 hE; have c50 := cellb c50 hE; have c52 := cellb c52 hE; (try dsimp only); go_simp; try rfl)
          simp only [Act.put, zS]
          refine zV 25 ⟨some 58, .call ⟨.builtin .len, #[.tmp 57], #[49]⟩, 3, "law.go:530", #[⟨24, .data⟩, ⟨23, .guard⟩], some (23, false)⟩ rfl ?_ (hv := fun w hE => by have c4 := cellb c4 hE; have c50 := cellb c50 hE; have c52 := cellb c52 hE; (try dsimp only); go_simp; try rfl)
          simp only [Act.put, zS]
          refine zV 26 ⟨some 59, .binOp .gtr 3 (.tmp 58) (.const (.int .i64 4)) 3, 4, "law.go:530", #[⟨25, .data⟩, ⟨23, .guard⟩], some (23, false)⟩ rfl ?_
          simp only [Act.put, zS]
          refine zV 27 ⟨some 60, .pick (.tmp 56) (.const (.bool true)) (.tmp 59), 4, "law.go:530", #[⟨23, .data⟩, ⟨26, .data⟩], none⟩ rfl ?_
          simp only [Act.put, zS]
          refine zV 28 ⟨some 61, .move (.tmp 60), 4, "law.go:530", #[⟨27, .data⟩, ⟨23, .chain⟩], none⟩ rfl ?_
          simp only [Act.put, zS]
          refine zV 29 ⟨some 62, .fieldAddr 52 (.tmp 5) 0, 0, "law.go:530", #[⟨28, .guard⟩], some (28, false)⟩ rfl ?_
          simp only [Act.put, zS]
          refine zV 30 ⟨some 63, .load 41 (.tmp 62), 41, "law.go:530", #[⟨29, .data⟩, ⟨28, .guard⟩], some (28, false)⟩ rfl ?_ (hv := fun w hE => by have c4 := cellb c4 hE; have c50 := cellb c50 hE; have c52 := cellb c52 hE; (try dsimp only); go_simp; try rfl)
          simp only [Act.put, zS]
          refine zV 31 ⟨some 64, .call ⟨.builtin .len, #[.tmp 63], #[41]⟩, 3, "law.go:530", #[⟨30, .data⟩, ⟨28, .guard⟩], some (28, false)⟩ rfl ?_ (hv := fun w hE => by have c4 := cellb c4 hE; have c50 := cellb c50 hE; have c52 := cellb c52 hE; (try dsimp only); go_simp; try rfl)
          simp only [Act.put, zS]
          refine zV 32 ⟨some 65, .binOp .gtr 3 (.tmp 64) (.const (.int .i64 10)) 3, 4, "law.go:530", #[⟨31, .data⟩, ⟨28, .guard⟩], some (28, false)⟩ rfl ?_
          simp only [Act.put, zS]
          refine zV 33 ⟨some 66, .pick (.tmp 61) (.const (.bool true)) (.tmp 65), 4, "law.go:530", #[⟨28, .data⟩, ⟨32, .data⟩], none⟩ rfl ?_
          simp only [Act.put, zS]
          refine zV 34 ⟨some 67, .move (.tmp 66), 4, "law.go:530", #[⟨33, .data⟩, ⟨28, .chain⟩], none⟩ rfl ?_
          simp only [Act.put, zS]
          refine zK 35 ⟨some 68, .move (.tmp 0), 48, "law.go:530", #[⟨34, .guard⟩], some (34, false)⟩ rfl ?_
          simp only [Act.put, zS]
          refine zK 36 ⟨some 69, .load 49 (.tmp 4), 49, "law.go:530", #[⟨34, .guard⟩], some (34, false)⟩ rfl ?_
          simp only [Act.put, zS]
          refine zK 37 ⟨some 70, .call ⟨.value (.func 31), #[.tmp 68, .tmp 69], #[48, 49]⟩, 3, "law.go:530", #[⟨35, .data⟩, ⟨36, .data⟩, ⟨34, .chain⟩, ⟨34, .guard⟩], some (34, false)⟩ rfl ?_
          simp only [Act.put, zS]
          refine zK 38 ⟨some 71, .fieldAddr 52 (.tmp 5) 2, 0, "law.go:530", #[⟨34, .guard⟩], some (34, false)⟩ rfl ?_
          simp only [Act.put, zS]
          refine zK 39 ⟨some 72, .load 50 (.tmp 71), 50, "law.go:530", #[⟨38, .data⟩, ⟨34, .guard⟩], some (34, false)⟩ rfl ?_
          simp only [Act.put, zS]
          refine zK 40 ⟨some 73, .call ⟨.value (.func 37), #[.tmp 72], #[50]⟩, 3, "law.go:530", #[⟨39, .data⟩, ⟨37, .chain⟩, ⟨34, .guard⟩], some (34, false)⟩ rfl ?_
          simp only [Act.put, zS]
          refine zK 41 ⟨some 74, .buildSlice 41 2 #[(0, .tmp 70), (1, .tmp 73)], 41, "law.go:530", #[⟨37, .data⟩, ⟨40, .data⟩, ⟨34, .guard⟩], some (34, false)⟩ rfl ?_
          simp only [Act.put, zS]
          refine zK 42 ⟨some 75, .call ⟨.value (.func 36), #[.tmp 74], #[41]⟩, 3, "law.go:530", #[⟨41, .data⟩, ⟨40, .chain⟩, ⟨34, .guard⟩], some (34, false)⟩ rfl ?_
          simp only [Act.put, zS]
          refine zK 43 ⟨some 76, .binOp .neq 3 (.tmp 75) (.const (.int .i64 0)) 3, 4, "law.go:530", #[⟨42, .data⟩, ⟨34, .guard⟩], some (34, false)⟩ rfl ?_
          simp only [Act.put, zS]
          refine zV 44 ⟨some 77, .pick (.tmp 67) (.const (.bool true)) (.tmp 76), 4, "law.go:530", #[⟨34, .data⟩, ⟨43, .data⟩], none⟩ rfl ?_
          simp only [Act.put, zS]
          refine wpAnyE_done (by kernel_rfl) (fun wy1 hE => ?_) _
          have hbz1 := bthen hbz hE
          have c4 := cellb c4 hE
          have c50 := cellb c50 hE
          have c52 := cellb c52 hE
          have hA := hA.carry hE
          have hO := hO.carry hE
          have hD := hD.carry hE
          clear hE
          have hb := hbz1
          obtain ⟨W4, hW4⟩ : ∃ v, v = wy1 := ⟨_, rfl⟩
          rw [← hW4] at hb ⊢
          clear hW4
          rename_i W4
          clear c4 c50 c52 hA hO hD hPl
          go_wp2_with fail
          refine (TA.out W4 (HP.out.carry (bthen K2.out hb)) (HH.out.carry (bthen K2.out hb))).mono ?_
          rintro e w2 ⟨rfl, hb2⟩
          go_wp2
          go_ret
          exact ⟨rfl, bthen K2.out (bthen hb hb2)⟩
         ·have d3 : ¬ (10 : Int) < (NP : Int) := by omega
          have hs1 := HS1.out (by trivial)
          have hs3 := HS3.out (by trivial)
          have hmL : ms.length ≤ 1000 := by have := HNM.out; omega
          have hoL : os.length ≤ 1000 := by have := HNO.out; omega
          have hpL : pl.length ≤ 1000 := by have := HNP.out; omega
          have hdL : ds.length ≤ 1000 := by have := HND.out; omega
          have hmS : ∀ m ∈ ms, m.1.size ≤ 1000000 := fun m hm => by have := hs1.1 m hm; omega
          have RB := Lib.hid (fun W (h1 : Rw 4 mV W (.slice a1 NM p1) ms) (h2 : Rw 3 iV W (.slice a2 NO p2) os) => CheckBothR_any (.slice a1 NM p1) (.slice a2 NO p2) ms os W (by omega) hmS (by omega) h1 h2)
          have RD := Lib.hid (fun W (h : Prs W (.slice da ND dc) ds) => CheckDeliveriesR_any (.slice da ND dc) ds W (by omega) h)
          obtain ⟨e1, he1⟩ : ∃ e, e = bothE ms os := ⟨_, rfl⟩
          obtain ⟨e2, he2⟩ : ∃ e, e = delE ds := ⟨_, rfl⟩
          rw [← he1] at RB
          rw [← he2] at RD
          have F1 := Lib.hid (fun u W (h : Ints W u [e1, e2]) => firstL7_any u [e1, e2] W (by simp) h)
          obtain ⟨E, hE⟩ : ∃ e, e = firstE [e1, e2] := ⟨_, rfl⟩
          rw [← hE] at F1
          have HE := Lib.hid hE
          have HE1 := Lib.hid he1
          have HE2 := Lib.hid he2
          clear he1 he2 hE
          refine wp_region_E 99 (by kernel_rfl) ?_
          obtain ⟨wz, hwz⟩ : ∃ v, v = W2.drew := ⟨_, rfl⟩
          rw [← hwz]
          have hlz : Below W2.heap.size W2 wz := by rw [hwz]; exact (Below.refl _ _).drew
          have hbz := bthen (Below.refl _ _) hlz
          have c4 := cellb c4 hlz
          have c50 := cellb c50 hlz
          have c52 := cellb c52 hlz
          have hA := hA.carry hlz
          have hO := hO.carry hlz
          have hD := hD.carry hlz
          clear hwz hlz
          refine zB 0 ⟨some 33, .call ⟨.value (.func 6), #[], #[]⟩, 4, "law.go:530", #[], none⟩ (fun w hE => TA.out w (HP.out.carry (bthen K2.out (bthen hbz hE))) (HH.out.carry (bthen K2.out (bthen hbz hE)))) rfl ?_
          simp only [Act.put, zS]
          refine zV 1 ⟨some 34, .unOp .not 4 (.tmp 33), 4, "law.go:530", #[⟨0, .data⟩], none⟩ rfl ?_
          simp only [Act.put, zS]
          refine zV 2 ⟨some 35, .move (.tmp 34), 4, "law.go:530", #[⟨1, .data⟩, ⟨0, .chain⟩], none⟩ rfl ?_
          simp only [Act.put, zS]
          refine zV 3 ⟨some 36, .move (.tmp 0), 48, "law.go:530", #[⟨2, .guard⟩], some (2, false)⟩ rfl ?_
          simp only [Act.put, zS]
          refine zB 4 ⟨some 37, .call ⟨.value (.func 19), #[.tmp 36], #[48]⟩, 4, "law.go:530", #[⟨3, .data⟩, ⟨2, .chain⟩, ⟨2, .guard⟩], some (2, false)⟩ (fun w hE => ofPure (T1.out w (hA.carry hE))) rfl ?_
          simp only [Act.put, zS]
          refine zV 5 ⟨some 38, .unOp .not 4 (.tmp 37), 4, "law.go:530", #[⟨4, .data⟩, ⟨2, .guard⟩], some (2, false)⟩ rfl ?_
          simp only [Act.put, zS]
          refine zV 6 ⟨some 39, .pick (.tmp 35) (.const (.bool true)) (.tmp 38), 4, "law.go:530", #[⟨2, .data⟩, ⟨5, .data⟩], none⟩ rfl ?_
          simp only [Act.put, zS]
          refine zV 7 ⟨some 40, .move (.tmp 39), 4, "law.go:530", #[⟨6, .data⟩, ⟨4, .chain⟩], none⟩ rfl ?_
          simp only [Act.put, zS]
          refine zV 8 ⟨some 41, .load 49 (.tmp 4), 49, "law.go:530", #[⟨7, .guard⟩], some (7, false)⟩ rfl ?_ (hv := fun w hE => by have c4 := cellb c4 hE; have c50 := cellb c50 hE; have c52 := cellb c52 hE; (try dsimp only); go_simp; try rfl)
          simp only [Act.put, zS]
          refine zB 9 ⟨some 42, .call ⟨.value (.func 20), #[.tmp 41], #[49]⟩, 4, "law.go:530", #[⟨8, .data⟩, ⟨7, .chain⟩, ⟨7, .guard⟩], some (7, false)⟩ (fun w hE => ofPure (T2.out w)) rfl ?_
          simp only [Act.put, zS]
          refine zV 10 ⟨some 43, .unOp .not 4 (.tmp 42), 4, "law.go:530", #[⟨9, .data⟩, ⟨7, .guard⟩], some (7, false)⟩ rfl ?_
          simp only [Act.put, zS]
          refine zV 11 ⟨some 44, .pick (.tmp 40) (.const (.bool true)) (.tmp 43), 4, "law.go:530", #[⟨7, .data⟩, ⟨10, .data⟩], none⟩ rfl ?_
          simp only [Act.put, zS]
          refine zV 12 ⟨some 45, .move (.tmp 44), 4, "law.go:530", #[⟨11, .data⟩, ⟨9, .chain⟩], none⟩ rfl ?_
          simp only [Act.put, zS]
          refine zV 13 ⟨some 46, .fieldAddr 52 (.tmp 5) 2, 0, "law.go:530", #[⟨12, .guard⟩], some (12, false)⟩ rfl ?_
          simp only [Act.put, zS]
          refine zV 14 ⟨some 47, .load 50 (.tmp 46), 50, "law.go:530", #[⟨13, .data⟩, ⟨12, .guard⟩], some (12, false)⟩ rfl ?_ (hv := fun w hE => by have c4 := cellb c4 hE; have c50 := cellb c50 hE; have c52 := cellb c52 hE; (try dsimp only); go_simp; try rfl)
          simp only [Act.put, zS]
          refine zB 15 ⟨some 48, .call ⟨.value (.func 21), #[.tmp 47], #[50]⟩, 4, "law.go:530", #[⟨14, .data⟩, ⟨12, .chain⟩, ⟨12, .guard⟩], some (12, false)⟩ (fun w hE => ofPure (T3.out w)) rfl ?_
          simp only [Act.put, zS]
          refine zV 16 ⟨some 49, .unOp .not 4 (.tmp 48), 4, "law.go:530", #[⟨15, .data⟩, ⟨12, .guard⟩], some (12, false)⟩ rfl ?_
          simp only [Act.put, zS]
          refine zV 17 ⟨some 50, .pick (.tmp 45) (.const (.bool true)) (.tmp 49), 4, "law.go:530", #[⟨12, .data⟩, ⟨16, .data⟩], none⟩ rfl ?_
          simp only [Act.put, zS]
          refine zV 18 ⟨some 51, .move (.tmp 50), 4, "law.go:530", #[⟨17, .data⟩, ⟨15, .chain⟩], none⟩ rfl ?_
          simp only [Act.put, zS]
          refine zV 19 ⟨some 52, .move (.tmp 0), 48, "law.go:530", #[⟨18, .guard⟩], some (18, false)⟩ rfl ?_
          simp only [Act.put, zS]
          refine zV 20 ⟨some 53, .call ⟨.builtin .len, #[.tmp 52], #[48]⟩, 3, "law.go:530", #[⟨19, .data⟩, ⟨18, .guard⟩], some (18, false)⟩ rfl ?_ (hv := fun w hE => by have c4 := cellb c4 hE; have c50 := cellb c50 hE; have c52 := cellb c52 hE; (try dsimp only); go_simp; try rfl)
          simp only [Act.put, zS]
          refine zV 21 ⟨some 54, .binOp .gtr 3 (.tmp 53) (.const (.int .i64 4)) 3, 4, "law.go:530", #[⟨20, .data⟩, ⟨18, .guard⟩], some (18, false)⟩ rfl ?_
          simp only [Act.put, zS]
          refine zV 22 ⟨some 55, .pick (.tmp 51) (.const (.bool true)) (.tmp 54), 4, "law.go:530", #[⟨18, .data⟩, ⟨21, .data⟩], none⟩ rfl ?_
          simp only [Act.put, zS]
          refine zV 23 ⟨some 56, .move (.tmp 55), 4, "law.go:530", #[⟨22, .data⟩, ⟨18, .chain⟩], none⟩ rfl ?_
          simp only [Act.put, zS]
          refine zV 24 ⟨some 57, .load 49 (.tmp 4), 49, "law.go:530", #[⟨23, .guard⟩], some (23, false)⟩ rfl ?_ (hv := fun w hE => by have c4 := cellb c4 hE; have c50 := cellb c50 hE; have c52 := cellb c52 hE; (try dsimp only); go_simp; try rfl)
          simp only [Act.put, zS]
          refine zV 25 ⟨some 58, .call ⟨.builtin .len, #[.tmp 57], #[49]⟩, 3, "law.go:530", #[⟨24, .data⟩, ⟨23, .guard⟩], some (23, false)⟩ rfl ?_ (hv := fun w hE => by have c4 := cellb c4 hE; have c50 := cellb c50 hE; have c52 := cellb c52 hE; (try dsimp only); go_simp; try rfl)
          simp only [Act.put, zS]
          refine zV 26 ⟨some 59, .binOp .gtr 3 (.tmp 58) (.const (.int .i64 4)) 3, 4, "law.go:530", #[⟨25, .data⟩, ⟨23, .guard⟩], some (23, false)⟩ rfl ?_
          simp only [Act.put, zS]
          refine zV 27 ⟨some 60, .pick (.tmp 56) (.const (.bool true)) (.tmp 59), 4, "law.go:530", #[⟨23, .data⟩, ⟨26, .data⟩], none⟩ rfl ?_
          simp only [Act.put, zS]
          refine zV 28 ⟨some 61, .move (.tmp 60), 4, "law.go:530", #[⟨27, .data⟩, ⟨23, .chain⟩], none⟩ rfl ?_
          simp only [Act.put, zS]
          refine zV 29 ⟨some 62, .fieldAddr 52 (.tmp 5) 0, 0, "law.go:530", #[⟨28, .guard⟩], some (28, false)⟩ rfl ?_
          simp only [Act.put, zS]
          refine zV 30 ⟨some 63, .load 41 (.tmp 62), 41, "law.go:530", #[⟨29, .data⟩, ⟨28, .guard⟩], some (28, false)⟩ rfl ?_ (hv := fun w hE => by have c4 := cellb c4 hE; have c50 := cellb c50 hE; have c52 := cellb c52 hE; (try dsimp only); go_simp; try rfl)
          simp only [Act.put, zS]
          refine zV 31 ⟨some 64, .call ⟨.builtin .len, #[.tmp 63], #[41]⟩, 3, "law.go:530", #[⟨30, .data⟩, ⟨28, .guard⟩], some (28, false)⟩ rfl ?_ (hv := fun w hE => by have c4 := cellb c4 hE; have c50 := cellb c50 hE; have c52 := cellb c52 hE; (try dsimp only); go_simp; try rfl)
          simp only [Act.put, zS]
          refine zV 32 ⟨some 65, .binOp .gtr 3 (.tmp 64) (.const (.int .i64 10)) 3, 4, "law.go:530", #[⟨31, .data⟩, ⟨28, .guard⟩], some (28, false)⟩ rfl ?_
          simp only [Act.put, zS]
          refine zV 33 ⟨some 66, .pick (.tmp 61) (.const (.bool true)) (.tmp 65), 4, "law.go:530", #[⟨28, .data⟩, ⟨32, .data⟩], none⟩ rfl ?_
          simp only [Act.put, zS]
          refine zV 34 ⟨some 67, .move (.tmp 66), 4, "law.go:530", #[⟨33, .data⟩, ⟨28, .chain⟩], none⟩ rfl ?_
          simp only [Act.put, zS]
          refine zV 35 ⟨some 68, .move (.tmp 0), 48, "law.go:530", #[⟨34, .guard⟩], some (34, false)⟩ rfl ?_
          simp only [Act.put, zS]
          refine zV 36 ⟨some 69, .load 49 (.tmp 4), 49, "law.go:530", #[⟨34, .guard⟩], some (34, false)⟩ rfl ?_ (hv := fun w hE => by have c4 := cellb c4 hE; have c50 := cellb c50 hE; have c52 := cellb c52 hE; (try dsimp only); go_simp; try rfl)
          simp only [Act.put, zS]
          refine zV 38 ⟨some 71, .fieldAddr 52 (.tmp 5) 2, 0, "law.go:530", #[⟨34, .guard⟩], some (34, false)⟩ rfl ?_
          simp only [Act.put, zS]
          refine zV 39 ⟨some 72, .load 50 (.tmp 71), 50, "law.go:530", #[⟨38, .data⟩, ⟨34, .guard⟩], some (34, false)⟩ rfl ?_ (hv := fun w hE => by have c4 := cellb c4 hE; have c50 := cellb c50 hE; have c52 := cellb c52 hE; (try dsimp only); go_simp; try rfl)
          simp only [Act.put, zS]
          refine zB 37 ⟨some 70, .call ⟨.value (.func 31), #[.tmp 68, .tmp 69], #[48, 49]⟩, 3, "law.go:530", #[⟨35, .data⟩, ⟨36, .data⟩, ⟨34, .chain⟩, ⟨34, .guard⟩], some (34, false)⟩ (fun w hE => RB.out w (hA.carry hE) (hO.carry hE)) rfl ?_
          simp only [Act.put, zS]
          refine zB 40 ⟨some 73, .call ⟨.value (.func 37), #[.tmp 72], #[50]⟩, 3, "law.go:530", #[⟨39, .data⟩, ⟨37, .chain⟩, ⟨34, .guard⟩], some (34, false)⟩ (fun w hE => RD.out w (hD.carry hE)) rfl ?_
          simp only [Act.put, zS]
          refine wpAnyE_one (i := 41) (o := ⟨some 74, .buildSlice 41 2 #[(0, .tmp 70), (1, .tmp 73)], 41, "law.go:530", #[⟨37, .data⟩, ⟨40, .data⟩, ⟨34, .guard⟩], some (34, false)⟩) (by kernel_rfl) rfl (fun wy1 hE K hK => ?_)
          have c4 := cellb c4 hE
          have c50 := cellb c50 hE
          have c52 := cellb c52 hE
          have hA := hA.carry hE
          have hO := hO.carry hE
          have hD := hD.carry hE
          have hbz1 := bthen hbz hE
          clear hE
          go_simp
          obtain ⟨wx1, hwz⟩ : ∃ v, v = wy1.alloc (Obj.cells #[.int .i64 e1, .int .i64 e2] 3) := ⟨_, rfl⟩
          rw [← hwz]
          have hl : Below wy1.heap.size wy1 wx1 := by rw [hwz]; exact below_new _ _
          have hcz1 := bthen hbz1 hl
          have iN1 : BlkI wx1 wy1.heap.size 3 [e1, e2] := by rw [hwz]; exact Blk.new _ _ _
          generalize wy1.heap.size = G1 at iN1 ⊢
          have c4 := cellb c4 hl
          have c50 := cellb c50 hl
          have c52 := cellb c52 hl
          have hA := hA.carry hl
          have hO := hO.carry hl
          have hD := hD.carry hl
          clear hwz
          refine hK _ _ (fun _ => hl) ?_
          clear hK K hl
          try simp only [Act.put, zS]
          refine zB 42 ⟨some 75, .call ⟨.value (.func 36), #[.tmp 74], #[41]⟩, 3, "law.go:530", #[⟨41, .data⟩, ⟨40, .chain⟩, ⟨34, .guard⟩], some (34, false)⟩ (fun w hE => ofPure (F1.out _ w (BlkI.ints (l := [e1, e2]) (Blk.carry iN1 hE) rfl))) rfl ?_
          simp only [Act.put, zS]
          refine zV 43 ⟨some 76, .binOp .neq 3 (.tmp 75) (.const (.int .i64 0)) 3, 4, "law.go:530", #[⟨42, .data⟩, ⟨34, .guard⟩], some (34, false)⟩ rfl ?_
          simp only [Act.put, zS]
          refine zV 44 ⟨some 77, .pick (.tmp 67) (.const (.bool true)) (.tmp 76), 4, "law.go:530", #[⟨34, .data⟩, ⟨43, .data⟩], none⟩ rfl ?_
          simp only [Act.put, zS]
          refine wpAnyE_done (by kernel_rfl) (fun wy2 hE => ?_) _
          have hbz2 := bthen hcz1 hE
          have c4 := cellb c4 hE
          have c50 := cellb c50 hE
          have c52 := cellb c52 hE
          have hA := hA.carry hE
          have hO := hO.carry hE
          have hD := hD.carry hE
          have iN1 := iN1.carry hE
          clear hE
          have hb := hbz2
          obtain ⟨W4, hW4⟩ : ∃ v, v = wy2 := ⟨_, rfl⟩
          rw [← hW4] at hb ⊢
          clear hW4
          rename_i W4
          clear RB RD F1 c4 c50 c52 hA hO hD hPl iN1 T1 T2 T3
          by_cases hE0 : E = 0
          ·subst hE0
           clear TA HP HH
           have hee := HE.out.symm
           rw [firstE_cons0, firstE_cons0] at hee
           have hb0 : bothE ms os = 0 := by rw [← HE1.out]; exact hee.1
           have hd0 : delE ds = 0 := by rw [← HE2.out]; exact hee.2.1
           have hNMr : NM ≤ 4 := by omega
           have hNOr : NO ≤ 4 := by omega
           have hNPr : NP ≤ 10 := by omega
           have hDL := (delE_ok hd0).1
           have hor := (outE_ok (bothE_ok hb0).2).2
           have HB0 := Lib.hid hb0
           have HD0 := Lib.hid hd0
           have TU := Lib.hid (fun W (h : Rw 4 mV W (.slice a1 NM p1) ms) => toldJ (R := fun u W => Rw 4 mV W u ms) (units_any (.slice a1 NM p1) ms W (by omega) h) (fun _ _ h => h.rw mV_len))
           have TT := Lib.hid (fun W (h : Rw 3 iV W (.slice a2 NO p2) os) => toldJ (R := fun u W => Rw 3 iV W u os) (times_any (.slice a2 NO p2) os W (by omega) h) (fun _ _ h => h.rw iV_len))
           have TI := Lib.hid (fun u l W (hl : l.length ≤ 1000) (h : Ints W u l) => toldJ (R := fun u W => Ints W u l) (intsL_any u l W h (by omega)) (fun _ _ h => h))
           have TD := Lib.hid (fun W (h : Prs W (.slice da ND dc) ds) => toldJ (R := fun u W => Prs W u ds) (deliveriesL_any (.slice da ND dc) ds W (by omega) h) (fun _ _ h => h.rw pV_len))
           have TPl := Lib.hid (fun vm vo W (hm : Rw 4 mV W vm ms) (ho : Rw 3 iV W vo os) => Plan_any vm vo ms os W hmL hmS hoL hm ho)
           have TCk := Lib.hid (fun vm vo vp l W (hl : l.length ≤ 1000) (hm : Rw 4 mV W vm ms) (ho : Rw 3 iV W vo os) (hp : Ints W vp l) => CheckPlan_any vm vo vp ms os l W hmL hmS hoL (by omega) hm ho hp)
           have TPr := Lib.hid (fun vm vo W (hm : Rw 4 mV W vm ms) (ho : Rw 3 iV W vo os) => toldG (g := fun u => .tuple #[u, .int .i64 (priE ms os)]) (Prices_any vm vo ms os W hmL hmS hoL hm ho))
           have TCp := Lib.hid (fun vm vo vp l W (hl : l.length ≤ 1000) (hm : Rw 4 mV W vm ms) (ho : Rw 3 iV W vo os) (hp : Ints W vp l) => CheckPrices_any vm vo vp ms os l W hmL hmS hoL (by omega) hm ho hp)
           have TSp := Lib.hid (fun vm vo vp vd l W (hl : l.length ≤ 1000) (hm : Rw 4 mV W vm ms) (ho : Rw 3 iV W vo os) (hp : Ints W vp l) (hd : Prs W vd ds) => Spares_any vm vo vp vd ms os l ds W hmL hmS hoL (by omega) (by omega) hm ho hp hd)
           have hpE : planE ms os = 18 ∧ (∀ x, plnE ms os x ≠ 0) ∨ Best ms os (planR ms os) := by
            cases hq : planO ms os with
            | none => exact .inl (best_no hb0 hq)
            | some y =>
              have := best_of hb0 hq
              exact .inr (by rw [this.row]; exact this)
           obtain ⟨PE, hPE⟩ : ∃ e, e = planE ms os := ⟨_, rfl⟩
           obtain ⟨PC, hPC⟩ : ∃ e, e = planC ms os := ⟨_, rfl⟩
           obtain ⟨PR, hPR⟩ : ∃ e, e = planR ms os := ⟨_, rfl⟩
           rw [← hPE, ← hPC, ← hPR] at TPl
           rw [← hPE, ← hPR] at hpE
           have HPE := Lib.hid hPE
           have HPC := Lib.hid hPC
           have HPR := Lib.hid hPR
           have HpE := Lib.hid hpE
           have hCE : cplE ms os pl = plnE ms os pl := by unfold cplE; rw [if_pos hb0]
           have hCR : plnE ms os pl = 0 → cplR ms os pl = costL os pl := fun h => by unfold cplR; rw [if_pos (by rw [hCE]; exact h)]
           obtain ⟨E2, hE2⟩ : ∃ e, e = cplE ms os pl := ⟨_, rfl⟩
           obtain ⟨C2, hC2⟩ : ∃ e, e = cplR ms os pl := ⟨_, rfl⟩
           have TCk1 := Lib.hid (fun vm vo vp W hm ho hp => TCk.out vm vo vp pl W hpL hm ho hp)
           rw [← hE2, ← hC2] at TCk1
           rw [← hE2] at hCE
           rw [← hC2] at hCR
           have HCE := Lib.hid hCE
           have HCR := Lib.hid hCR
           have HOR := Lib.hid hor
           clear hPE hPC hPR hpE hCE hCR hE2 hC2 hee HE hor
           have hA := HA.out.carry (bthen K2.out hb)
           have hO := HO.out.carry (bthen K2.out hb)
           have c4 := (I4.out.carry hb).cell (j := 0) (v := .slice a2 NO p2) rfl
           go_upto_region 3 with fail
           go_cut [7, 8, 9] from 79 to 87 (fun u7 u8 u9 wn => u8 = .int .i64 PC ∧ u9 = .int .i64 PE ∧ ∃ G7 xa xc, u7 = .pointer (some ⟨G7, 0, none⟩) ∧ Blk wn G7 41 [.slice xa PR.length xc] ∧ Ints wn (.slice xa PR.length xc) PR ∧ Below W4.heap.size W4 wn)
           case first =>
            refine wp_region_held_drew (S := (fun W => W.cell? ⟨B4, 0, none⟩ = some (.slice a2 NO p2))) (by kernel_rfl) (cellb c4 (Below.refl _ _).drew) (fun hHeld0 => ?_)
            obtain ⟨wzd, hwz⟩ : ∃ v, v = W4.drew := ⟨_, rfl⟩
            rw [← hwz] at hHeld0 ⊢
            have hbzd : Below W4.heap.size W4 wzd := by rw [hwz]; exact (Below.refl _ _).drew
            have hlzd : Below W4.heap.size W4 wzd := by rw [hwz]; exact (Below.refl _ _).drew
            have hA := hA.carry hlzd
            have hO := hO.carry hlzd
            clear hwz hlzd
            refine zH 0 ⟨some 80, .move (.tmp 0), 48, "law.go:533", #[], none⟩ rfl ?_
            simp only [Act.put, zS]
            refine zH 2 ⟨some 82, .load 49 (.tmp 4), 49, "law.go:533", #[], none⟩ rfl ?_
            simp only [Act.put, zS]
            refine wpAnyH_ready (rs := [1, 9]) (by kernel_rfl) (by simp) ?_
            refine (AllReadyH.cons (o := ⟨some 81, .call ⟨.value (.func 23), #[.tmp 80], #[48]⟩, 58, "law.go:533", #[⟨0, .data⟩], none⟩) rfl (fun K hK => ?_) (AllReadyH.cons (o := ⟨some 7, .alloc 41, 0, "law.go:533", #[], none⟩) rfl (fun K hK => ?_) AllReadyH.nil))
            ·go_simp
             refine (TU.out wzd hA).mono ?_
             rintro e wz1 ⟨um, rfl, hum, hl⟩
             (try go_wp2_with fail)
             have hbz1 := bthen hbzd hl
             have hA := hA.carry hl
             have hO := hO.carry hl
             clear hl
             refine hK.out _ _ (cellb c4 hbz1) (fun hHeld1 => ?_)
             clear hK K hHeld0
             try simp only [Act.put, zS]
             refine wpAnyH_ready (rs := [3, 9]) (by kernel_rfl) (by simp) ?_
             refine (AllReadyH.cons (o := ⟨some 83, .call ⟨.value (.func 24), #[.tmp 82], #[49]⟩, 60, "law.go:533", #[⟨2, .data⟩, ⟨1, .chain⟩], none⟩) rfl (fun K hK => ?_) (AllReadyH.cons (o := ⟨some 7, .alloc 41, 0, "law.go:533", #[], none⟩) rfl (fun K hK => ?_) AllReadyH.nil))
             ·go_simp
              refine (TT.out wz1 hO).mono ?_
              rintro e wz3 ⟨uo, rfl, huo, hl⟩
              (try go_wp2_with fail)
              have hbz3 := bthen hbz1 hl
              have hA := hA.carry hl
              have hO := hO.carry hl
              have hum := hum.carry hl
              clear hl
              refine hK.out _ _ (cellb c4 hbz3) (fun hHeld2 => ?_)
              clear hK K hHeld1
              try simp only [Act.put, zS]
              refine wpAnyH_ready (rs := [4, 9]) (by kernel_rfl) (by simp) ?_
              refine (AllReadyH.cons (o := ⟨some 84, .call ⟨.value (.func 26), #[.tmp 81, .tmp 83], #[58, 60]⟩, 63, "law.go:533", #[⟨1, .data⟩, ⟨3, .data⟩, ⟨3, .chain⟩], none⟩) rfl (fun K hK => ?_) (AllReadyH.cons (o := ⟨some 7, .alloc 41, 0, "law.go:533", #[], none⟩) rfl (fun K hK => ?_) AllReadyH.nil))
              ·go_simp
               refine (TPl.out um uo wz3 hum huo).mono ?_
               rintro e wz4 ⟨⟨up, rfl, hp4⟩, hl⟩
               obtain ⟨xa, xc, hpe, hxc, -⟩ := id hp4
               subst hpe
               (try go_wp2_with fail)
               have hbz4 := bthen hbz3 hl
               have hA := hA.carry hl
               have hO := hO.carry hl
               have hum := hum.carry hl
               have huo := huo.carry hl
               clear hl
               refine hK.out _ _ (cellb c4 hbz4) (fun hHeld3 => ?_)
               clear hK K hHeld2
               try simp only [Act.put, zS]
               refine zH 5 ⟨some 79, .move (.tmp 84), 63, "law.go:533", #[⟨4, .data⟩], none⟩ rfl ?_
               simp only [Act.put, zS]
               refine zH 6 ⟨some 85, .extract (.tmp 79) 0, 41, "law.go:533", #[⟨5, .data⟩], none⟩ rfl ?_
               simp only [Act.put, zS]
               refine zH 7 ⟨some 86, .extract (.tmp 79) 1, 3, "law.go:533", #[⟨5, .data⟩, { on := 10, ground := Ground.gcOnly Departure.lateStores }], none⟩ rfl ?_
               simp only [Act.put, zS]
               refine zH 8 ⟨some 87, .extract (.tmp 79) 2, 29, "law.go:533", #[⟨5, .data⟩, { on := 11, ground := Ground.gcOnly Departure.lateStores }], none⟩ rfl ?_
               simp only [Act.put, zS]
               refine wpAnyH_ready (rs := [9]) (by kernel_rfl) (by simp) ?_
               refine (AllReadyH.cons (o := ⟨some 7, .alloc 41, 0, "law.go:533", #[], none⟩) rfl (fun K hK => ?_) AllReadyH.nil)
               go_simp
               obtain ⟨wz9, hwz⟩ : ∃ v, v = wz4.alloc (Obj.cells #[.slice none 0 0] 41) := ⟨_, rfl⟩
               rw [← hwz]
               have hl : Below wz4.heap.size wz4 wz9 := by rw [hwz]; exact below_new _ _
               have hbz9 := bthen hbz4 hl
               have i7 : Blk wz9 wz4.heap.size 41 [.slice none 0 0] := by rw [hwz]; exact Blk.new _ _ _
               have hG7 : W4.heap.size ≤ wz4.heap.size := (hbz4).size
               generalize wz4.heap.size = G7 at i7 hG7 ⊢
               clear hwz
               have hA := hA.carry hl
               have hO := hO.carry hl
               have hum := hum.carry hl
               have huo := huo.carry hl
               have hp4 := hp4.carry hl
               clear hl
               refine hK.out _ _ (cellb c4 hbz9) (fun hHeld4 => ?_)
               clear hK K hHeld3
               try simp only [Act.put, zS]
               refine wpAnyH_ready (rs := [10]) (by kernel_rfl) (by simp) ?_
               refine (AllReadyH.cons (o := ⟨none, .store 41 (.tmp 7) (.tmp 85), 0, "law.go:533", #[⟨9, .data⟩, ⟨6, .data⟩, ⟨4, .chain⟩, ⟨0, .phase⟩, ⟨1, .phase⟩, ⟨2, .phase⟩, ⟨3, .phase⟩, ⟨4, .phase⟩, ⟨5, .phase⟩, ⟨6, .phase⟩, { on := 7, ground := Ground.textOnly Departure.lateStores }, { on := 8, ground := Ground.textOnly Departure.lateStores }, ⟨9, .phase⟩], none⟩) rfl (fun K hK => ?_) AllReadyH.nil)
               have fr0 := i7.frozen 0
               have g0 := i7.cell (j := 0) (v := .slice none 0 0) rfl
               have hp6 := ints_other hp4 i7 0 (.slice xa PR.length xc)
               go_simp
               obtain ⟨wz10, hwz⟩ : ∃ v, v = (wz9.setCell ⟨G7, 0, none⟩ (.slice xa PR.length xc)) := ⟨_, rfl⟩
               rw [← hwz]
               have hbz10 : Below W4.heap.size W4 wz10 := by rw [hwz]; exact below_setC hbz9 G7 0 hG7 (.slice xa PR.length xc)
               have j7 := i7.set 0 (.slice xa PR.length xc)
               rw [← hwz] at j7 hp6
               clear hwz
               refine hK.out _ _ (cellb c4 hbz10) (fun hHeld5 => ?_)
               clear hK K hHeld4
               try simp only [Act.put, zS]
               refine zH 11 ⟨some 8, .assign (.tmp 86), 3, "law.go:533", #[⟨7, .data⟩, ⟨10, .chain⟩, ⟨0, .phase⟩, ⟨1, .phase⟩, ⟨2, .phase⟩, ⟨3, .phase⟩, ⟨4, .phase⟩, ⟨5, .phase⟩, ⟨6, .phase⟩, ⟨7, .phase⟩, { on := 8, ground := Ground.textOnly Departure.lateStores }, ⟨9, .phase⟩, ⟨10, .phase⟩], none⟩ rfl ?_
               simp only [Act.put, zS]
               refine zH 12 ⟨some 9, .assign (.tmp 87), 29, "law.go:533", #[⟨8, .data⟩, ⟨11, .chain⟩, ⟨0, .phase⟩, ⟨1, .phase⟩, ⟨2, .phase⟩, ⟨3, .phase⟩, ⟨4, .phase⟩, ⟨5, .phase⟩, ⟨6, .phase⟩, ⟨7, .phase⟩, ⟨8, .phase⟩, ⟨9, .phase⟩, ⟨10, .phase⟩, ⟨11, .phase⟩], none⟩ rfl ?_
               simp only [Act.put, zS]
               refine wpAnyH_done (by kernel_rfl) ?_ _
               clear hHeld5
               have hb2 := hbz10
               obtain ⟨W5, hW5⟩ : ∃ v, v = wz10 := ⟨_, rfl⟩
               rw [← hW5] at hb2 j7 hp6 ⊢
               clear hW5
               go_wp2_with fail
               go_meet
               exact ⟨rfl, rfl, _, _, _, rfl, j7, hp6, hb2⟩
              ·go_simp
               obtain ⟨wz9, hwz⟩ : ∃ v, v = wz3.alloc (Obj.cells #[.slice none 0 0] 41) := ⟨_, rfl⟩
               rw [← hwz]
               have hl : Below wz3.heap.size wz3 wz9 := by rw [hwz]; exact below_new _ _
               have hbz9 := bthen hbz3 hl
               have i7 : Blk wz9 wz3.heap.size 41 [.slice none 0 0] := by rw [hwz]; exact Blk.new _ _ _
               have hG7 : W4.heap.size ≤ wz3.heap.size := (hbz3).size
               generalize wz3.heap.size = G7 at i7 hG7 ⊢
               clear hwz
               have hA := hA.carry hl
               have hO := hO.carry hl
               have hum := hum.carry hl
               have huo := huo.carry hl
               clear hl
               refine hK.out _ _ (cellb c4 hbz9) (fun hHeld3 => ?_)
               clear hK K hHeld2
               try simp only [Act.put, zS]
               refine wpAnyH_ready (rs := [4]) (by kernel_rfl) (by simp) ?_
               refine (AllReadyH.cons (o := ⟨some 84, .call ⟨.value (.func 26), #[.tmp 81, .tmp 83], #[58, 60]⟩, 63, "law.go:533", #[⟨1, .data⟩, ⟨3, .data⟩, ⟨3, .chain⟩], none⟩) rfl (fun K hK => ?_) AllReadyH.nil)
               go_simp
               refine (TPl.out um uo wz9 hum huo).mono ?_
               rintro e wz4 ⟨⟨up, rfl, hp4⟩, hl⟩
               obtain ⟨xa, xc, hpe, hxc, -⟩ := id hp4
               subst hpe
               (try go_wp2_with fail)
               have hbz4 := bthen hbz9 hl
               have hA := hA.carry hl
               have hO := hO.carry hl
               have hum := hum.carry hl
               have huo := huo.carry hl
               have i7 := i7.carry hl
               clear hl
               refine hK.out _ _ (cellb c4 hbz4) (fun hHeld4 => ?_)
               clear hK K hHeld3
               try simp only [Act.put, zS]
               refine zH 5 ⟨some 79, .move (.tmp 84), 63, "law.go:533", #[⟨4, .data⟩], none⟩ rfl ?_
               simp only [Act.put, zS]
               refine zH 6 ⟨some 85, .extract (.tmp 79) 0, 41, "law.go:533", #[⟨5, .data⟩], none⟩ rfl ?_
               simp only [Act.put, zS]
               refine zH 7 ⟨some 86, .extract (.tmp 79) 1, 3, "law.go:533", #[⟨5, .data⟩, { on := 10, ground := Ground.gcOnly Departure.lateStores }], none⟩ rfl ?_
               simp only [Act.put, zS]
               refine zH 8 ⟨some 87, .extract (.tmp 79) 2, 29, "law.go:533", #[⟨5, .data⟩, { on := 11, ground := Ground.gcOnly Departure.lateStores }], none⟩ rfl ?_
               simp only [Act.put, zS]
               refine wpAnyH_ready (rs := [10]) (by kernel_rfl) (by simp) ?_
               refine (AllReadyH.cons (o := ⟨none, .store 41 (.tmp 7) (.tmp 85), 0, "law.go:533", #[⟨9, .data⟩, ⟨6, .data⟩, ⟨4, .chain⟩, ⟨0, .phase⟩, ⟨1, .phase⟩, ⟨2, .phase⟩, ⟨3, .phase⟩, ⟨4, .phase⟩, ⟨5, .phase⟩, ⟨6, .phase⟩, { on := 7, ground := Ground.textOnly Departure.lateStores }, { on := 8, ground := Ground.textOnly Departure.lateStores }, ⟨9, .phase⟩], none⟩) rfl (fun K hK => ?_) AllReadyH.nil)
               have fr0 := i7.frozen 0
               have g0 := i7.cell (j := 0) (v := .slice none 0 0) rfl
               have hp6 := ints_other hp4 i7 0 (.slice xa PR.length xc)
               go_simp
               obtain ⟨wz10, hwz⟩ : ∃ v, v = (wz4.setCell ⟨G7, 0, none⟩ (.slice xa PR.length xc)) := ⟨_, rfl⟩
               rw [← hwz]
               have hbz10 : Below W4.heap.size W4 wz10 := by rw [hwz]; exact below_setC hbz4 G7 0 hG7 (.slice xa PR.length xc)
               have j7 := i7.set 0 (.slice xa PR.length xc)
               rw [← hwz] at j7 hp6
               clear hwz
               refine hK.out _ _ (cellb c4 hbz10) (fun hHeld5 => ?_)
               clear hK K hHeld4
               try simp only [Act.put, zS]
               refine zH 11 ⟨some 8, .assign (.tmp 86), 3, "law.go:533", #[⟨7, .data⟩, ⟨10, .chain⟩, ⟨0, .phase⟩, ⟨1, .phase⟩, ⟨2, .phase⟩, ⟨3, .phase⟩, ⟨4, .phase⟩, ⟨5, .phase⟩, ⟨6, .phase⟩, ⟨7, .phase⟩, { on := 8, ground := Ground.textOnly Departure.lateStores }, ⟨9, .phase⟩, ⟨10, .phase⟩], none⟩ rfl ?_
               simp only [Act.put, zS]
               refine zH 12 ⟨some 9, .assign (.tmp 87), 29, "law.go:533", #[⟨8, .data⟩, ⟨11, .chain⟩, ⟨0, .phase⟩, ⟨1, .phase⟩, ⟨2, .phase⟩, ⟨3, .phase⟩, ⟨4, .phase⟩, ⟨5, .phase⟩, ⟨6, .phase⟩, ⟨7, .phase⟩, ⟨8, .phase⟩, ⟨9, .phase⟩, ⟨10, .phase⟩, ⟨11, .phase⟩], none⟩ rfl ?_
               simp only [Act.put, zS]
               refine wpAnyH_done (by kernel_rfl) ?_ _
               clear hHeld5
               have hb2 := hbz10
               obtain ⟨W5, hW5⟩ : ∃ v, v = wz10 := ⟨_, rfl⟩
               rw [← hW5] at hb2 j7 hp6 ⊢
               clear hW5
               go_wp2_with fail
               go_meet
               exact ⟨rfl, rfl, _, _, _, rfl, j7, hp6, hb2⟩
             ·go_simp
              obtain ⟨wz9, hwz⟩ : ∃ v, v = wz1.alloc (Obj.cells #[.slice none 0 0] 41) := ⟨_, rfl⟩
              rw [← hwz]
              have hl : Below wz1.heap.size wz1 wz9 := by rw [hwz]; exact below_new _ _
              have hbz9 := bthen hbz1 hl
              have i7 : Blk wz9 wz1.heap.size 41 [.slice none 0 0] := by rw [hwz]; exact Blk.new _ _ _
              have hG7 : W4.heap.size ≤ wz1.heap.size := (hbz1).size
              generalize wz1.heap.size = G7 at i7 hG7 ⊢
              clear hwz
              have hA := hA.carry hl
              have hO := hO.carry hl
              have hum := hum.carry hl
              clear hl
              refine hK.out _ _ (cellb c4 hbz9) (fun hHeld2 => ?_)
              clear hK K hHeld1
              try simp only [Act.put, zS]
              refine wpAnyH_ready (rs := [3]) (by kernel_rfl) (by simp) ?_
              refine (AllReadyH.cons (o := ⟨some 83, .call ⟨.value (.func 24), #[.tmp 82], #[49]⟩, 60, "law.go:533", #[⟨2, .data⟩, ⟨1, .chain⟩], none⟩) rfl (fun K hK => ?_) AllReadyH.nil)
              go_simp
              refine (TT.out wz9 hO).mono ?_
              rintro e wz3 ⟨uo, rfl, huo, hl⟩
              (try go_wp2_with fail)
              have hbz3 := bthen hbz9 hl
              have hA := hA.carry hl
              have hO := hO.carry hl
              have hum := hum.carry hl
              have i7 := i7.carry hl
              clear hl
              refine hK.out _ _ (cellb c4 hbz3) (fun hHeld3 => ?_)
              clear hK K hHeld2
              try simp only [Act.put, zS]
              refine wpAnyH_ready (rs := [4]) (by kernel_rfl) (by simp) ?_
              refine (AllReadyH.cons (o := ⟨some 84, .call ⟨.value (.func 26), #[.tmp 81, .tmp 83], #[58, 60]⟩, 63, "law.go:533", #[⟨1, .data⟩, ⟨3, .data⟩, ⟨3, .chain⟩], none⟩) rfl (fun K hK => ?_) AllReadyH.nil)
              go_simp
              refine (TPl.out um uo wz3 hum huo).mono ?_
              rintro e wz4 ⟨⟨up, rfl, hp4⟩, hl⟩
              obtain ⟨xa, xc, hpe, hxc, -⟩ := id hp4
              subst hpe
              (try go_wp2_with fail)
              have hbz4 := bthen hbz3 hl
              have hA := hA.carry hl
              have hO := hO.carry hl
              have hum := hum.carry hl
              have i7 := i7.carry hl
              have huo := huo.carry hl
              clear hl
              refine hK.out _ _ (cellb c4 hbz4) (fun hHeld4 => ?_)
              clear hK K hHeld3
              try simp only [Act.put, zS]
              refine zH 5 ⟨some 79, .move (.tmp 84), 63, "law.go:533", #[⟨4, .data⟩], none⟩ rfl ?_
              simp only [Act.put, zS]
              refine zH 6 ⟨some 85, .extract (.tmp 79) 0, 41, "law.go:533", #[⟨5, .data⟩], none⟩ rfl ?_
              simp only [Act.put, zS]
              refine zH 7 ⟨some 86, .extract (.tmp 79) 1, 3, "law.go:533", #[⟨5, .data⟩, { on := 10, ground := Ground.gcOnly Departure.lateStores }], none⟩ rfl ?_
              simp only [Act.put, zS]
              refine zH 8 ⟨some 87, .extract (.tmp 79) 2, 29, "law.go:533", #[⟨5, .data⟩, { on := 11, ground := Ground.gcOnly Departure.lateStores }], none⟩ rfl ?_
              simp only [Act.put, zS]
              refine wpAnyH_ready (rs := [10]) (by kernel_rfl) (by simp) ?_
              refine (AllReadyH.cons (o := ⟨none, .store 41 (.tmp 7) (.tmp 85), 0, "law.go:533", #[⟨9, .data⟩, ⟨6, .data⟩, ⟨4, .chain⟩, ⟨0, .phase⟩, ⟨1, .phase⟩, ⟨2, .phase⟩, ⟨3, .phase⟩, ⟨4, .phase⟩, ⟨5, .phase⟩, ⟨6, .phase⟩, { on := 7, ground := Ground.textOnly Departure.lateStores }, { on := 8, ground := Ground.textOnly Departure.lateStores }, ⟨9, .phase⟩], none⟩) rfl (fun K hK => ?_) AllReadyH.nil)
              have fr0 := i7.frozen 0
              have g0 := i7.cell (j := 0) (v := .slice none 0 0) rfl
              have hp6 := ints_other hp4 i7 0 (.slice xa PR.length xc)
              go_simp
              obtain ⟨wz10, hwz⟩ : ∃ v, v = (wz4.setCell ⟨G7, 0, none⟩ (.slice xa PR.length xc)) := ⟨_, rfl⟩
              rw [← hwz]
              have hbz10 : Below W4.heap.size W4 wz10 := by rw [hwz]; exact below_setC hbz4 G7 0 hG7 (.slice xa PR.length xc)
              have j7 := i7.set 0 (.slice xa PR.length xc)
              rw [← hwz] at j7 hp6
              clear hwz
              refine hK.out _ _ (cellb c4 hbz10) (fun hHeld5 => ?_)
              clear hK K hHeld4
              try simp only [Act.put, zS]
              refine zH 11 ⟨some 8, .assign (.tmp 86), 3, "law.go:533", #[⟨7, .data⟩, ⟨10, .chain⟩, ⟨0, .phase⟩, ⟨1, .phase⟩, ⟨2, .phase⟩, ⟨3, .phase⟩, ⟨4, .phase⟩, ⟨5, .phase⟩, ⟨6, .phase⟩, ⟨7, .phase⟩, { on := 8, ground := Ground.textOnly Departure.lateStores }, ⟨9, .phase⟩, ⟨10, .phase⟩], none⟩ rfl ?_
              simp only [Act.put, zS]
              refine zH 12 ⟨some 9, .assign (.tmp 87), 29, "law.go:533", #[⟨8, .data⟩, ⟨11, .chain⟩, ⟨0, .phase⟩, ⟨1, .phase⟩, ⟨2, .phase⟩, ⟨3, .phase⟩, ⟨4, .phase⟩, ⟨5, .phase⟩, ⟨6, .phase⟩, ⟨7, .phase⟩, ⟨8, .phase⟩, ⟨9, .phase⟩, ⟨10, .phase⟩, ⟨11, .phase⟩], none⟩ rfl ?_
              simp only [Act.put, zS]
              refine wpAnyH_done (by kernel_rfl) ?_ _
              clear hHeld5
              have hb2 := hbz10
              obtain ⟨W5, hW5⟩ : ∃ v, v = wz10 := ⟨_, rfl⟩
              rw [← hW5] at hb2 j7 hp6 ⊢
              clear hW5
              go_wp2_with fail
              go_meet
              exact ⟨rfl, rfl, _, _, _, rfl, j7, hp6, hb2⟩
            ·go_simp
             obtain ⟨wz9, hwz⟩ : ∃ v, v = wzd.alloc (Obj.cells #[.slice none 0 0] 41) := ⟨_, rfl⟩
             rw [← hwz]
             have hl : Below wzd.heap.size wzd wz9 := by rw [hwz]; exact below_new _ _
             have hbz9 := bthen hbzd hl
             have i7 : Blk wz9 wzd.heap.size 41 [.slice none 0 0] := by rw [hwz]; exact Blk.new _ _ _
             have hG7 : W4.heap.size ≤ wzd.heap.size := (hbzd).size
             generalize wzd.heap.size = G7 at i7 hG7 ⊢
             clear hwz
             have hA := hA.carry hl
             have hO := hO.carry hl
             clear hl
             refine hK.out _ _ (cellb c4 hbz9) (fun hHeld1 => ?_)
             clear hK K hHeld0
             try simp only [Act.put, zS]
             refine wpAnyH_ready (rs := [1]) (by kernel_rfl) (by simp) ?_
             refine (AllReadyH.cons (o := ⟨some 81, .call ⟨.value (.func 23), #[.tmp 80], #[48]⟩, 58, "law.go:533", #[⟨0, .data⟩], none⟩) rfl (fun K hK => ?_) AllReadyH.nil)
             go_simp
             refine (TU.out wz9 hA).mono ?_
             rintro e wz1 ⟨um, rfl, hum, hl⟩
             (try go_wp2_with fail)
             have hbz1 := bthen hbz9 hl
             have hA := hA.carry hl
             have hO := hO.carry hl
             have i7 := i7.carry hl
             clear hl
             refine hK.out _ _ (cellb c4 hbz1) (fun hHeld2 => ?_)
             clear hK K hHeld1
             try simp only [Act.put, zS]
             refine wpAnyH_ready (rs := [3]) (by kernel_rfl) (by simp) ?_
             refine (AllReadyH.cons (o := ⟨some 83, .call ⟨.value (.func 24), #[.tmp 82], #[49]⟩, 60, "law.go:533", #[⟨2, .data⟩, ⟨1, .chain⟩], none⟩) rfl (fun K hK => ?_) AllReadyH.nil)
             go_simp
             refine (TT.out wz1 hO).mono ?_
             rintro e wz3 ⟨uo, rfl, huo, hl⟩
             (try go_wp2_with fail)
             have hbz3 := bthen hbz1 hl
             have hA := hA.carry hl
             have hO := hO.carry hl
             have i7 := i7.carry hl
             have hum := hum.carry hl
             clear hl
             refine hK.out _ _ (cellb c4 hbz3) (fun hHeld3 => ?_)
             clear hK K hHeld2
             try simp only [Act.put, zS]
             refine wpAnyH_ready (rs := [4]) (by kernel_rfl) (by simp) ?_
             refine (AllReadyH.cons (o := ⟨some 84, .call ⟨.value (.func 26), #[.tmp 81, .tmp 83], #[58, 60]⟩, 63, "law.go:533", #[⟨1, .data⟩, ⟨3, .data⟩, ⟨3, .chain⟩], none⟩) rfl (fun K hK => ?_) AllReadyH.nil)
             go_simp
             refine (TPl.out um uo wz3 hum huo).mono ?_
             rintro e wz4 ⟨⟨up, rfl, hp4⟩, hl⟩
             obtain ⟨xa, xc, hpe, hxc, -⟩ := id hp4
             subst hpe
             (try go_wp2_with fail)
             have hbz4 := bthen hbz3 hl
             have hA := hA.carry hl
             have hO := hO.carry hl
             have i7 := i7.carry hl
             have hum := hum.carry hl
             have huo := huo.carry hl
             clear hl
             refine hK.out _ _ (cellb c4 hbz4) (fun hHeld4 => ?_)
             clear hK K hHeld3
             try simp only [Act.put, zS]
             refine zH 5 ⟨some 79, .move (.tmp 84), 63, "law.go:533", #[⟨4, .data⟩], none⟩ rfl ?_
             simp only [Act.put, zS]
             refine zH 6 ⟨some 85, .extract (.tmp 79) 0, 41, "law.go:533", #[⟨5, .data⟩], none⟩ rfl ?_
             simp only [Act.put, zS]
             refine zH 7 ⟨some 86, .extract (.tmp 79) 1, 3, "law.go:533", #[⟨5, .data⟩, { on := 10, ground := Ground.gcOnly Departure.lateStores }], none⟩ rfl ?_
             simp only [Act.put, zS]
             refine zH 8 ⟨some 87, .extract (.tmp 79) 2, 29, "law.go:533", #[⟨5, .data⟩, { on := 11, ground := Ground.gcOnly Departure.lateStores }], none⟩ rfl ?_
             simp only [Act.put, zS]
             refine wpAnyH_ready (rs := [10]) (by kernel_rfl) (by simp) ?_
             refine (AllReadyH.cons (o := ⟨none, .store 41 (.tmp 7) (.tmp 85), 0, "law.go:533", #[⟨9, .data⟩, ⟨6, .data⟩, ⟨4, .chain⟩, ⟨0, .phase⟩, ⟨1, .phase⟩, ⟨2, .phase⟩, ⟨3, .phase⟩, ⟨4, .phase⟩, ⟨5, .phase⟩, ⟨6, .phase⟩, { on := 7, ground := Ground.textOnly Departure.lateStores }, { on := 8, ground := Ground.textOnly Departure.lateStores }, ⟨9, .phase⟩], none⟩) rfl (fun K hK => ?_) AllReadyH.nil)
             have fr0 := i7.frozen 0
             have g0 := i7.cell (j := 0) (v := .slice none 0 0) rfl
             have hp6 := ints_other hp4 i7 0 (.slice xa PR.length xc)
             go_simp
             obtain ⟨wz10, hwz⟩ : ∃ v, v = (wz4.setCell ⟨G7, 0, none⟩ (.slice xa PR.length xc)) := ⟨_, rfl⟩
             rw [← hwz]
             have hbz10 : Below W4.heap.size W4 wz10 := by rw [hwz]; exact below_setC hbz4 G7 0 hG7 (.slice xa PR.length xc)
             have j7 := i7.set 0 (.slice xa PR.length xc)
             rw [← hwz] at j7 hp6
             clear hwz
             refine hK.out _ _ (cellb c4 hbz10) (fun hHeld5 => ?_)
             clear hK K hHeld4
             try simp only [Act.put, zS]
             refine zH 11 ⟨some 8, .assign (.tmp 86), 3, "law.go:533", #[⟨7, .data⟩, ⟨10, .chain⟩, ⟨0, .phase⟩, ⟨1, .phase⟩, ⟨2, .phase⟩, ⟨3, .phase⟩, ⟨4, .phase⟩, ⟨5, .phase⟩, ⟨6, .phase⟩, ⟨7, .phase⟩, { on := 8, ground := Ground.textOnly Departure.lateStores }, ⟨9, .phase⟩, ⟨10, .phase⟩], none⟩ rfl ?_
             simp only [Act.put, zS]
             refine zH 12 ⟨some 9, .assign (.tmp 87), 29, "law.go:533", #[⟨8, .data⟩, ⟨11, .chain⟩, ⟨0, .phase⟩, ⟨1, .phase⟩, ⟨2, .phase⟩, ⟨3, .phase⟩, ⟨4, .phase⟩, ⟨5, .phase⟩, ⟨6, .phase⟩, ⟨7, .phase⟩, ⟨8, .phase⟩, ⟨9, .phase⟩, ⟨10, .phase⟩, ⟨11, .phase⟩], none⟩ rfl ?_
             simp only [Act.put, zS]
             refine wpAnyH_done (by kernel_rfl) ?_ _
             clear hHeld5
             have hb2 := hbz10
             obtain ⟨W5, hW5⟩ : ∃ v, v = wz10 := ⟨_, rfl⟩
             rw [← hW5] at hb2 j7 hp6 ⊢
             clear hW5
             go_wp2_with fail
             go_meet
             exact ⟨rfl, rfl, _, _, _, rfl, j7, hp6, hb2⟩
           case rest =>
            obtain ⟨rfl, rfl, G7, xa, xc, rfl, i7, hpr, hb2⟩ := hcut
            obtain ⟨W5, hW5⟩ : ∃ x, x = wc := ⟨_, rfl⟩
            subst hW5
            replace hb := bthen hb hb2
            clear hb2 hA hO c4
            have hA := HA.out.carry (bthen K2.out hb)
            have hO := HO.out.carry (bthen K2.out hb)
            have hPl := HPl.out.carry (bthen K2.out hb)
            have c4 := (I4.out.carry hb).cell (j := 0) (v := .slice a2 NO p2) rfl
            have c50 := (I5.out.carry hb).cell (j := 0) (v := .slice pa NP pc) rfl
            go_upto_region 4 with fail
            refine wp_region_E 99 (by kernel_rfl) ?_
            obtain ⟨wz, hwz⟩ : ∃ v, v = W5.drew := ⟨_, rfl⟩
            rw [← hwz]
            have hlz : Below W5.heap.size W5 wz := by rw [hwz]; exact (Below.refl _ _).drew
            have hbz := bthen (Below.refl _ _) hlz
            have c4 := cellb c4 hlz
            have c50 := cellb c50 hlz
            have hA := hA.carry hlz
            have hO := hO.carry hlz
            have hPl := hPl.carry hlz
            have i7 := i7.carry hlz
            have hpr := hpr.carry hlz
            clear hwz hlz
            refine zV 0 ⟨some 89, .move (.tmp 0), 48, "law.go:534", #[], none⟩ rfl ?_
            simp only [Act.put, zS]
            refine zV 2 ⟨some 91, .load 49 (.tmp 4), 49, "law.go:534", #[], none⟩ rfl ?_ (hv := fun w hE => by have c4 := cellb c4 hE; have c50 := cellb c50 hE; (try dsimp only); go_simp; try rfl)
            simp only [Act.put, zS]
            refine zV 4 ⟨some 93, .fieldAddr 52 (.tmp 5) 0, 0, "law.go:534", #[], none⟩ rfl ?_
            simp only [Act.put, zS]
            refine zV 5 ⟨some 94, .load 41 (.tmp 93), 41, "law.go:534", #[⟨4, .data⟩], none⟩ rfl ?_ (hv := fun w hE => by have c4 := cellb c4 hE; have c50 := cellb c50 hE; (try dsimp only); go_simp; try rfl)
            simp only [Act.put, zS]
            refine wpAnyE_call1 (i := 1) (R := (fun u W => Rw 4 mV W u ms)) (by kernel_rfl) (show _ = some ⟨some 90, .call ⟨.value (.func 23), #[.tmp 89], #[48]⟩, 58, "law.go:534", #[⟨0, .data⟩], none⟩ from rfl) (yieldsR (fun w hE => TU.out w (hA.carry hE)))  (fun v1 wj1 hE j1 => ?_)
            have c4 := cellb c4 hE
            have c50 := cellb c50 hE
            have hA := hA.carry hE
            have hO := hO.carry hE
            have hPl := hPl.carry hE
            have i7 := i7.carry hE
            have hpr := hpr.carry hE
            have hbj1 := bthen hbz hE
            clear hE
            try simp only [Act.put, zS]
            refine wpAnyE_call1 (i := 3) (R := (fun u W => Rw 3 iV W u os)) (by kernel_rfl) (show _ = some ⟨some 92, .call ⟨.value (.func 24), #[.tmp 91], #[49]⟩, 60, "law.go:534", #[⟨2, .data⟩, ⟨1, .chain⟩], none⟩ from rfl) (yieldsR (fun w hE => TT.out w (hO.carry hE)))  (fun v3 wj2 hE j3 => ?_)
            have c4 := cellb c4 hE
            have c50 := cellb c50 hE
            have hA := hA.carry hE
            have hO := hO.carry hE
            have hPl := hPl.carry hE
            have i7 := i7.carry hE
            have hpr := hpr.carry hE
            have j1 := j1.carry hE
            have hbj2 := bthen hbj1 hE
            clear hE
            try simp only [Act.put, zS]
            refine wpAnyE_call1 (i := 6) (R := (fun u W => Ints W u pl)) (by kernel_rfl) (show _ = some ⟨some 95, .call ⟨.value (.func 25), #[.tmp 94], #[41]⟩, 41, "law.go:534", #[⟨5, .data⟩, ⟨3, .chain⟩], none⟩ from rfl) (yieldsR (fun w hE => TI.out _ pl w hpL (hPl.carry hE)))  (fun v6 wj3 hE j6 => ?_)
            have c4 := cellb c4 hE
            have c50 := cellb c50 hE
            have hA := hA.carry hE
            have hO := hO.carry hE
            have hPl := hPl.carry hE
            have i7 := i7.carry hE
            have hpr := hpr.carry hE
            have j1 := j1.carry hE
            have j3 := j3.carry hE
            have hbj3 := bthen hbj2 hE
            clear hE
            try simp only [Act.put, zS]
            refine zB 7 ⟨some 96, .call ⟨.value (.func 22), #[.tmp 90, .tmp 92, .tmp 95], #[58, 60, 41]⟩, 56, "law.go:534", #[⟨1, .data⟩, ⟨3, .data⟩, ⟨6, .data⟩, ⟨6, .chain⟩], none⟩ (fun w hE => TCk1.out v1 v3 v6 w (j1.carry hE) (j3.carry hE) (j6.carry hE)) rfl ?_
            simp only [Act.put, zS]
            refine zV 8 ⟨some 88, .move (.tmp 96), 56, "law.go:534", #[⟨7, .data⟩], none⟩ rfl ?_
            simp only [Act.put, zS]
            refine zV 9 ⟨some 97, .extract (.tmp 88) 0, 3, "law.go:534", #[⟨8, .data⟩], none⟩ rfl ?_
            simp only [Act.put, zS]
            refine zV 10 ⟨some 98, .extract (.tmp 88) 1, 29, "law.go:534", #[⟨8, .data⟩, { on := 11, ground := Ground.gcOnly Departure.lateStores }], none⟩ rfl ?_
            simp only [Act.put, zS]
            refine zV 11 ⟨some 10, .assign (.tmp 97), 3, "law.go:534", #[⟨9, .data⟩, ⟨7, .chain⟩, ⟨0, .phase⟩, ⟨1, .phase⟩, ⟨2, .phase⟩, ⟨3, .phase⟩, ⟨4, .phase⟩, ⟨5, .phase⟩, ⟨6, .phase⟩, ⟨7, .phase⟩, ⟨8, .phase⟩, ⟨9, .phase⟩, { on := 10, ground := Ground.textOnly Departure.lateStores }], none⟩ rfl ?_
            simp only [Act.put, zS]
            refine zV 12 ⟨some 11, .assign (.tmp 98), 29, "law.go:534", #[⟨10, .data⟩, ⟨11, .chain⟩, ⟨0, .phase⟩, ⟨1, .phase⟩, ⟨2, .phase⟩, ⟨3, .phase⟩, ⟨4, .phase⟩, ⟨5, .phase⟩, ⟨6, .phase⟩, ⟨7, .phase⟩, ⟨8, .phase⟩, ⟨9, .phase⟩, ⟨10, .phase⟩, ⟨11, .phase⟩], none⟩ rfl ?_
            simp only [Act.put, zS]
            refine wpAnyE_done (by kernel_rfl) (fun wy4 hE => ?_) _
            have hbz4 := bthen hbj3 hE
            have c4 := cellb c4 hE
            have c50 := cellb c50 hE
            have hA := hA.carry hE
            have hO := hO.carry hE
            have hPl := hPl.carry hE
            have i7 := i7.carry hE
            have hpr := hpr.carry hE
            have j1 := j1.carry hE
            have j3 := j3.carry hE
            have j6 := j6.carry hE
            clear hE
            have hb2 := hbz4
            obtain ⟨W6, hW6⟩ : ∃ v, v = wy4 := ⟨_, rfl⟩
            rw [← hW6] at hb2 i7 hpr ⊢
            clear hW6
            rename_i W6
            replace hb := bthen hb hb2
            clear hb2 hA hO hPl c4 c50 j1 j3 j6
            rcases HpE.out with ⟨h18, hno⟩ | hBst
            ·have hne : E2 ≠ 0 := by rw [HCE.out]; exact hno pl
             have z : (E2 != 0) = true := by rw [bne_iff_ne]; exact hne
             subst h18
             clear hno hne HPE HpE
             go_wp2
             go_ret
             exact ⟨rfl, bthen K2.out hb⟩
            ·have h0 : PE = 0 := by rw [HPE.out]; exact hBst.err
             subst h0
             have hPC : PC = costL os PR := by rw [HPC.out]; exact hBst.cost
             have hlenP : PR.length = NM := by rw [HNM.out]; exact hBst.ok.len
             have hpk : plnE ms os PR = 0 := plnE_iff.2 hBst.ok
             have hck : cplE ms os PR = 0 ∧ cplR ms os PR = PC := by
              have e : cplE ms os PR = 0 := by unfold cplE; rw [if_pos HB0.out]; exact hpk
              exact ⟨e, by unfold cplR; rw [if_pos e, hPC]⟩
             have hPrOk : PrOk ms os := prOk_of (fun o ho => (HOR.out o ho).2.2) hBst.ok
             have hpi := pri_is hPrOk HB0.out
             have hpp := pri_proof hPrOk HB0.out
             have hbd := pri_bound hPrOk hBst.ok
             have hrg := (priK_ok hPrOk.cost ms.length (Nat.le_refl _) (fun j hj => hPrOk.perm j hj)).1
             have hdr := fun (i : Nat) (hi : i < ms.length) => pri_dear hPrOk hi
             have hsb := spares_best HB0.out HD0.out hBst.ok
             have hfo := fewer_outages HB0.out hBst
             have hfm := fewer_modules HB0.out hBst
             have hleast := hBst.least
             rw [← hPC] at hbd hleast
             rw [← HPC.out] at hfo hfm
             obtain ⟨RL, hRL⟩ : ∃ l, l = priK ms os ms.length := ⟨_, rfl⟩
             have hlenR : RL.length = NM := by rw [hRL, priK_len, HNM.out]
             have hprR : prR ms os RL = sumK RL NM := by
              unfold prR
              rw [if_pos (by rw [hRL]; exact hpp), hlenR]
             rw [← hRL] at hpi hpp hbd hrg hdr
             rw [← HNM.out] at hbd hdr hsb hfm
             rw [← HNO.out] at hsb hfo
             obtain ⟨S, hS⟩ : ∃ s, s = sprK os PR ds NO := ⟨_, rfl⟩
             rw [← hS] at hsb
             have TCk2 := Lib.hid (fun vm vo vp W hm ho hp => TCk.out vm vo vp PR W (by omega) hm ho hp)
             rw [hck.1, hck.2] at TCk2
             rw [hpi.1, hpi.2] at TPr
             have TCp2 := Lib.hid (fun vm vo vp W hm ho hp => TCp.out vm vo vp RL W (by omega) hm ho hp)
             rw [hpp, hprR] at TCp2
             have TSp2 := Lib.hid (fun vm vo vp vd W hm ho hp hd => TSp.out vm vo vp vd PR W (by omega) hm ho hp hd)
             rw [hsb.1, hsb.2.1] at TSp2
             have TEn := Lib.hid (fun (start : Int) (hst : -10 ≤ start ∧ start ≤ 1000) BO BX BP W hO hX hP ho hd hp => enough_any start os PR ds a2 da xa NO p2 ND dc NM xc BO BX BP W hst HNO.out HND.out (by rw [hlenP]) hoL hDL (by omega) (fun d hd => (delG_ok (delE_ok HD0.out).2 d hd).2) hO hX hP ho hd hp)
             have HRG := Lib.hid hrg
             have HDR := Lib.hid hdr
             have HSB := Lib.hid hsb
             have HFO := Lib.hid hfo
             have HFM := Lib.hid hfm
             have HBD := Lib.hid hbd
             have HLST := Lib.hid hleast
             have HLR := Lib.hid hlenR
             have HRLn := Lib.hid (show RL.length ≤ 1000 by omega)
             have HPRn := Lib.hid (show PR.length ≤ 1000 by omega)
             rw [hlenP] at i7 hpr
             clear hPC hpk hck hPrOk hpi hpp hbd hrg hdr hsb hfo hfm hleast hRL hlenR hprR hS hBst HpE HPE HPC HPR TCk TSp TPl hlenP
             have hA := HA.out.carry (bthen K2.out hb)
             have hO := HO.out.carry (bthen K2.out hb)
             have c4 := (I4.out.carry hb).cell (j := 0) (v := .slice a2 NO p2) rfl
             have c7 := i7.cell (j := 0) (v := .slice xa NM xc) rfl
             go_upto_region 7 with fail
             refine wp_region_E 99 (by kernel_rfl) ?_
             obtain ⟨wz, hwz⟩ : ∃ v, v = W6.drew := ⟨_, rfl⟩
             rw [← hwz]
             have hlz : Below W6.heap.size W6 wz := by rw [hwz]; exact (Below.refl _ _).drew
             have hbz := bthen (Below.refl _ _) hlz
             have c4 := cellb c4 hlz
             have c7 := cellb c7 hlz
             have hA := hA.carry hlz
             have hO := hO.carry hlz
             have i7 := i7.carry hlz
             have hpr := hpr.carry hlz
             clear hwz hlz
             refine zV 0 ⟨some 108, .move (.tmp 0), 48, "law.go:538", #[], none⟩ rfl ?_
             simp only [Act.put, zS]
             refine zV 2 ⟨some 110, .load 49 (.tmp 4), 49, "law.go:538", #[], none⟩ rfl ?_ (hv := fun w hE => by have c4 := cellb c4 hE; have c7 := cellb c7 hE; (try dsimp only); go_simp; try rfl)
             simp only [Act.put, zS]
             refine zV 4 ⟨some 112, .load 41 (.tmp 7), 41, "law.go:538", #[], none⟩ rfl ?_ (hv := fun w hE => by have c4 := cellb c4 hE; have c7 := cellb c7 hE; (try dsimp only); go_simp; try rfl)
             simp only [Act.put, zS]
             refine wpAnyE_call1 (i := 1) (R := (fun u W => Rw 4 mV W u ms)) (by kernel_rfl) (show _ = some ⟨some 109, .call ⟨.value (.func 23), #[.tmp 108], #[48]⟩, 58, "law.go:538", #[⟨0, .data⟩], none⟩ from rfl) (yieldsR (fun w hE => TU.out w (hA.carry hE)))  (fun v1 wj1 hE j1 => ?_)
             have c4 := cellb c4 hE
             have c7 := cellb c7 hE
             have hA := hA.carry hE
             have hO := hO.carry hE
             have i7 := i7.carry hE
             have hpr := hpr.carry hE
             have hbj1 := bthen hbz hE
             clear hE
             try simp only [Act.put, zS]
             refine wpAnyE_call1 (i := 3) (R := (fun u W => Rw 3 iV W u os)) (by kernel_rfl) (show _ = some ⟨some 111, .call ⟨.value (.func 24), #[.tmp 110], #[49]⟩, 60, "law.go:538", #[⟨2, .data⟩, ⟨1, .chain⟩], none⟩ from rfl) (yieldsR (fun w hE => TT.out w (hO.carry hE)))  (fun v3 wj2 hE j3 => ?_)
             have c4 := cellb c4 hE
             have c7 := cellb c7 hE
             have hA := hA.carry hE
             have hO := hO.carry hE
             have i7 := i7.carry hE
             have hpr := hpr.carry hE
             have j1 := j1.carry hE
             have hbj2 := bthen hbj1 hE
             clear hE
             try simp only [Act.put, zS]
             refine wpAnyE_call1 (i := 5) (R := (fun u W => Ints W u PR)) (by kernel_rfl) (show _ = some ⟨some 113, .call ⟨.value (.func 25), #[.tmp 112], #[41]⟩, 41, "law.go:538", #[⟨4, .data⟩, ⟨3, .chain⟩], none⟩ from rfl) (yieldsR (fun w hE => TI.out _ PR w HPRn.out (hpr.carry hE)))  (fun v5 wj3 hE j5 => ?_)
             have c4 := cellb c4 hE
             have c7 := cellb c7 hE
             have hA := hA.carry hE
             have hO := hO.carry hE
             have i7 := i7.carry hE
             have hpr := hpr.carry hE
             have j1 := j1.carry hE
             have j3 := j3.carry hE
             have hbj3 := bthen hbj2 hE
             clear hE
             try simp only [Act.put, zS]
             refine zB 6 ⟨some 114, .call ⟨.value (.func 22), #[.tmp 109, .tmp 111, .tmp 113], #[58, 60, 41]⟩, 56, "law.go:538", #[⟨1, .data⟩, ⟨3, .data⟩, ⟨5, .data⟩, ⟨5, .chain⟩], none⟩ (fun w hE => TCk2.out v1 v3 v5 w (j1.carry hE) (j3.carry hE) (j5.carry hE)) rfl ?_
             simp only [Act.put, zS]
             refine zV 7 ⟨some 107, .move (.tmp 114), 56, "law.go:538", #[⟨6, .data⟩], none⟩ rfl ?_
             simp only [Act.put, zS]
             refine zV 8 ⟨some 115, .extract (.tmp 107) 0, 3, "law.go:538", #[⟨7, .data⟩], none⟩ rfl ?_
             simp only [Act.put, zS]
             refine zV 9 ⟨some 116, .extract (.tmp 107) 1, 29, "law.go:538", #[⟨7, .data⟩, { on := 10, ground := Ground.gcOnly Departure.lateStores }], none⟩ rfl ?_
             simp only [Act.put, zS]
             refine zV 10 ⟨some 12, .assign (.tmp 115), 3, "law.go:538", #[⟨8, .data⟩, ⟨6, .chain⟩, ⟨0, .phase⟩, ⟨1, .phase⟩, ⟨2, .phase⟩, ⟨3, .phase⟩, ⟨4, .phase⟩, ⟨5, .phase⟩, ⟨6, .phase⟩, ⟨7, .phase⟩, ⟨8, .phase⟩, { on := 9, ground := Ground.textOnly Departure.lateStores }], none⟩ rfl ?_
             simp only [Act.put, zS]
             refine zV 11 ⟨some 13, .assign (.tmp 116), 29, "law.go:538", #[⟨9, .data⟩, ⟨10, .chain⟩, ⟨0, .phase⟩, ⟨1, .phase⟩, ⟨2, .phase⟩, ⟨3, .phase⟩, ⟨4, .phase⟩, ⟨5, .phase⟩, ⟨6, .phase⟩, ⟨7, .phase⟩, ⟨8, .phase⟩, ⟨9, .phase⟩, ⟨10, .phase⟩], none⟩ rfl ?_
             simp only [Act.put, zS]
             refine wpAnyE_done (by kernel_rfl) (fun wy4 hE => ?_) _
             have hbz4 := bthen hbj3 hE
             have c4 := cellb c4 hE
             have c7 := cellb c7 hE
             have hA := hA.carry hE
             have hO := hO.carry hE
             have i7 := i7.carry hE
             have hpr := hpr.carry hE
             have j1 := j1.carry hE
             have j3 := j3.carry hE
             have j5 := j5.carry hE
             clear hE
             have hb2 := hbz4
             obtain ⟨W7, hW7⟩ : ∃ v, v = wy4 := ⟨_, rfl⟩
             rw [← hW7] at hb2 i7 hpr ⊢
             clear hW7
             rename_i W7
             replace hb := bthen hb hb2
             clear hb2 hA hO c4 c7 j1 j3 j5 TCk2
             have hA := HA.out.carry (bthen K2.out hb)
             have hO := HO.out.carry (bthen K2.out hb)
             have c4 := (I4.out.carry hb).cell (j := 0) (v := .slice a2 NO p2) rfl
             go_upto_region 8 with fail
             refine wp_region_E 99 (by kernel_rfl) ?_
             obtain ⟨wz, hwz⟩ : ∃ v, v = W7.drew := ⟨_, rfl⟩
             rw [← hwz]
             have hlz : Below W7.heap.size W7 wz := by rw [hwz]; exact (Below.refl _ _).drew
             have hbz := bthen (Below.refl _ _) hlz
             have c4 := cellb c4 hlz
             have hA := hA.carry hlz
             have hO := hO.carry hlz
             have i7 := i7.carry hlz
             have hpr := hpr.carry hlz
             clear hwz hlz
             refine zV 0 ⟨some 118, .move (.tmp 0), 48, "law.go:539", #[], none⟩ rfl ?_
             simp only [Act.put, zS]
             refine zV 2 ⟨some 120, .load 49 (.tmp 4), 49, "law.go:539", #[], none⟩ rfl ?_ (hv := fun w hE => by have c4 := cellb c4 hE; (try dsimp only); go_simp; try rfl)
             simp only [Act.put, zS]
             refine wpAnyE_call1 (i := 1) (R := (fun u W => Rw 4 mV W u ms)) (by kernel_rfl) (show _ = some ⟨some 119, .call ⟨.value (.func 23), #[.tmp 118], #[48]⟩, 58, "law.go:539", #[⟨0, .data⟩], none⟩ from rfl) (yieldsR (fun w hE => TU.out w (hA.carry hE)))  (fun v1 wj1 hE j1 => ?_)
             have c4 := cellb c4 hE
             have hA := hA.carry hE
             have hO := hO.carry hE
             have i7 := i7.carry hE
             have hpr := hpr.carry hE
             have hbj1 := bthen hbz hE
             clear hE
             try simp only [Act.put, zS]
             refine wpAnyE_call1 (i := 3) (R := (fun u W => Rw 3 iV W u os)) (by kernel_rfl) (show _ = some ⟨some 121, .call ⟨.value (.func 24), #[.tmp 120], #[49]⟩, 60, "law.go:539", #[⟨2, .data⟩, ⟨1, .chain⟩], none⟩ from rfl) (yieldsR (fun w hE => TT.out w (hO.carry hE)))  (fun v3 wj2 hE j3 => ?_)
             have c4 := cellb c4 hE
             have hA := hA.carry hE
             have hO := hO.carry hE
             have i7 := i7.carry hE
             have hpr := hpr.carry hE
             have j1 := j1.carry hE
             have hbj2 := bthen hbj1 hE
             clear hE
             try simp only [Act.put, zS]
             refine wpAnyE_call1 (i := 4) (R := (fun v W => ∃ u, v = .tuple #[u, .int .i64 0] ∧ Ints W u RL)) (by kernel_rfl) (show _ = some ⟨some 122, .call ⟨.value (.func 27), #[.tmp 119, .tmp 121], #[58, 60]⟩, 42, "law.go:539", #[⟨1, .data⟩, ⟨3, .data⟩, ⟨3, .chain⟩], none⟩ from rfl) (yieldsR (fun w hE => TPr.out v1 v3 w (j1.carry hE) (j3.carry hE)))  (fun v4 wj3 hE j4 => ?_)
             have c4 := cellb c4 hE
             have hA := hA.carry hE
             have hO := hO.carry hE
             have i7 := i7.carry hE
             have hpr := hpr.carry hE
             have j1 := j1.carry hE
             have j3 := j3.carry hE
             have hbj3 := bthen hbj2 hE
             clear hE
             try simp only [Act.put, zS]
             obtain ⟨ur, rfl, hr⟩ := j4
             obtain ⟨ra, rc, hre, hrc, -⟩ := id hr
             rw [HLR.out] at hre
             subst hre
             refine zV 5 ⟨some 117, .move (.tmp 122), 42, "law.go:539", #[⟨4, .data⟩], none⟩ rfl ?_
             simp only [Act.put, zS]
             refine zV 6 ⟨some 123, .extract (.tmp 117) 0, 41, "law.go:539", #[⟨5, .data⟩], none⟩ rfl ?_
             simp only [Act.put, zS]
             refine zV 7 ⟨some 124, .extract (.tmp 117) 1, 29, "law.go:539", #[⟨5, .data⟩, { on := 8, ground := Ground.gcOnly Departure.lateStores }], none⟩ rfl ?_
             simp only [Act.put, zS]
             refine zV 8 ⟨some 14, .assign (.tmp 123), 41, "law.go:539", #[⟨6, .data⟩, ⟨4, .chain⟩, ⟨0, .phase⟩, ⟨1, .phase⟩, ⟨2, .phase⟩, ⟨3, .phase⟩, ⟨4, .phase⟩, ⟨5, .phase⟩, ⟨6, .phase⟩, { on := 7, ground := Ground.textOnly Departure.lateStores }], none⟩ rfl ?_
             simp only [Act.put, zS]
             refine zV 9 ⟨some 15, .assign (.tmp 124), 29, "law.go:539", #[⟨7, .data⟩, ⟨8, .chain⟩, ⟨0, .phase⟩, ⟨1, .phase⟩, ⟨2, .phase⟩, ⟨3, .phase⟩, ⟨4, .phase⟩, ⟨5, .phase⟩, ⟨6, .phase⟩, ⟨7, .phase⟩, ⟨8, .phase⟩], none⟩ rfl ?_
             simp only [Act.put, zS]
             refine wpAnyE_done (by kernel_rfl) (fun wy4 hE => ?_) _
             have hbz4 := bthen hbj3 hE
             have c4 := cellb c4 hE
             have hA := hA.carry hE
             have hO := hO.carry hE
             have i7 := i7.carry hE
             have hpr := hpr.carry hE
             have j1 := j1.carry hE
             have j3 := j3.carry hE
             have hr := hr.carry hE
             clear hE
             have hb2 := hbz4
             obtain ⟨W8, hW8⟩ : ∃ v, v = wy4 := ⟨_, rfl⟩
             rw [← hW8] at hb2 i7 hpr hr ⊢
             clear hW8
             rename_i W8
             replace hb := bthen hb hb2
             clear hb2 hA hO c4 j1 j3 TPr hrc
             have c7 := i7.cell (j := 0) (v := .slice xa NM xc) rfl
             go_upto_region 9 with fail
             go_cut [158] from 125 to 158 (fun u158 wn => u158 = .bool false ∧ wn = W8)
             case first =>
              by_cases hz : E2 = 0
              ·have hc := HCR.out (by rw [← HCE.out]; exact hz)
               have hl := HLST.out pl (plnE_iff.1 (by rw [← HCE.out]; exact hz))
               rw [← hc] at hl
               have d9 : decide (C2 < PC) = false := by rw [decide_eq_false_iff_not]; omega
               subst hz
               clear hc hl HCE HCR
               go_wp2_with fail
               go_meet
               exact ⟨by simp, rfl⟩
              ·have z : (E2 == 0) = false := by rw [beq_eq_false_iff_ne]; exact hz
               clear hz
               go_wp2_with fail
               go_meet
               exact ⟨by simp, rfl⟩
             case rest =>
              obtain ⟨rfl, rfl⟩ := hcut
              have HB8 := Lib.hid hb
              have H7 := Lib.hid i7
              have HPR8 := Lib.hid hpr
              have HR := Lib.hid hr
              clear c7 hb i7 hpr hr HLST HCE HCR
              go_wp2_with fail
              go_loopw [16, 161] (fun s i wr => ∃ k : Nat, k ≤ NM ∧ i = .int .i64 k ∧ s = .int .i64 (sumK RL k) ∧ Below wc.heap.size wc wr) (fun _ i _ => NM - (intOf i).toNat)
              case atStart => exact ⟨0, by omega, rfl, rfl, Below.refl _ _⟩
              case round =>
               obtain ⟨k, hk, rfl, rfl, hbel⟩ := hrel
               by_cases hlt : k < NM
               ·have hdk : (k : Int) < (NM : Int) := by omega
                have hkl : k < RL.length := by rw [HLR.out]; exact hlt
                have hrk := Ints.below HR.out hbel
                obtain ⟨rb, ro, rcap, hre, hrcs⟩ := hrk.head (by omega)
                simp only [Value.slice.injEq] at hre
                obtain ⟨rfl, -, rfl⟩ := hre
                have cy := hrcs k hkl
                have hy := HRG.out (RL[k]?.getD 0) (by rw [List.getElem?_eq_getElem hkl]; exact List.getElem_mem hkl)
                have hsr := sumK_rng RL HRG.out k
                have hss := sumK_take RL k
                have hdr := HDR.out k hlt
                obtain ⟨Y, hY⟩ : ∃ y, y = RL[k]?.getD 0 := ⟨_, rfl⟩
                rw [← hY] at cy hy hss hdr
                obtain ⟨SK, hSK⟩ : ∃ y, y = sumK RL k := ⟨_, rfl⟩
                rw [← hSK] at hsr hss ⊢
                have q1 : IntKind.i64.wrap (SK + Y) = SK + Y := IntWalk.i64_in _ (by omega)
                have q2 : IntKind.i64.wrap (Y + 1) = Y + 1 := IntWalk.i64_in _ (by omega)
                have hy0 : 0 ≤ Y := hy.1
                have hy1 : Y ≤ 1000000 := hy.2
                have hsk1 : SK ≤ 4000000 := by omega
                have hsk0 : 0 ≤ SK := hsr.1
                have HSS := Lib.hid hss
                have HY := Lib.hid hY
                have TIo := Lib.hid (fun W h => intsO_any (.slice (some ⟨rb, ro, none⟩) NM rc) RL W h (by have := HRLn.out; omega) (by omega))
                have TCp3 := Lib.hid (fun vm vo vp W hm ho hp => TCp.out vm vo vp (RL.set k (Y + 1)) W (by rw [List.length_set]; exact HRLn.out) hm ho hp)
                obtain ⟨E3, hE3⟩ : ∃ e, e = prE ms os (RL.set k (Y + 1)) := ⟨_, rfl⟩
                obtain ⟨C3, hC3⟩ : ∃ e, e = prR ms os (RL.set k (Y + 1)) := ⟨_, rfl⟩
                rw [← hE3] at hdr
                rw [← hE3, ← hC3] at TCp3
                have z3 : (E3 == 0) = false := by rw [beq_eq_false_iff_ne]; exact hdr
                have HKL := Lib.hid hkl
                clear hrcs hY hSK hss hsr hy hE3 hC3 hdr hlt hkl
                go_wp2_with fail
                refine (TIo.out wr hrk).mono ?_
                rintro e w9 ⟨⟨u19, rfl, h19⟩, hl⟩
                obtain ⟨g, cap, rfl, hg, hgc, hcells⟩ := own_rw h19 (by have := HKL.out; omega)
                obtain ⟨cg, fg⟩ := hcells k HKL.out
                rw [← HY.out] at cg
                have hbel9 := bthen hbel hl
                clear cy hrk h19 hl
                go_upto_region 20 with fail
                obtain ⟨W11, hW11⟩ : ∃ v, v = World.setCell w9 ⟨g, k, none⟩ (.int .i64 (Y + 1)) := ⟨_, rfl⟩
                have hde : Ints W11 (.slice (some ⟨g, 0, none⟩) RL.length cap) (RL.set k (Y + 1)) := by rw [hW11]; exact cells_set hcells k HKL.out (Y + 1) cap hgc
                have hb11 : Below wc.heap.size wc W11 := by rw [hW11]; exact below_setC hbel9 g k (Nat.le_trans hbel.size hg) _
                rw [← hW11]
                clear hW11 cg fg hcells hgc hbel9 hg
                have hA := HA.out.carry (bthen K2.out (bthen HB8.out hb11))
                have hO := HO.out.carry (bthen K2.out (bthen HB8.out hb11))
                have c4 := (I4.out.carry (bthen HB8.out hb11)).cell (j := 0) (v := .slice a2 NO p2) rfl
                refine wp_region_E 99 (by kernel_rfl) ?_
                obtain ⟨wz, hwz⟩ : ∃ v, v = W11.drew := ⟨_, rfl⟩
                rw [← hwz]
                have hlz : Below W11.heap.size W11 wz := by rw [hwz]; exact (Below.refl _ _).drew
                have hbz := bthen (Below.refl _ _) hlz
                have c4 := cellb c4 hlz
                have hA := hA.carry hlz
                have hO := hO.carry hlz
                have hde := hde.carry hlz
                clear hwz hlz
                refine zV 0 ⟨some 184, .move (.tmp 0), 48, "law.go:551", #[], none⟩ rfl ?_
                simp only [Act.put, zS]
                refine zV 2 ⟨some 186, .load 49 (.tmp 4), 49, "law.go:551", #[], none⟩ rfl ?_ (hv := fun w hE => by have c4 := cellb c4 hE; (try dsimp only); go_simp; try rfl)
                simp only [Act.put, zS]
                refine zV 4 ⟨some 188, .move (.tmp 19), 41, "law.go:551", #[], none⟩ rfl ?_
                simp only [Act.put, zS]
                refine wpAnyE_call1 (i := 1) (R := (fun u W => Rw 4 mV W u ms)) (by kernel_rfl) (show _ = some ⟨some 185, .call ⟨.value (.func 23), #[.tmp 184], #[48]⟩, 58, "law.go:551", #[⟨0, .data⟩], none⟩ from rfl) (yieldsR (fun w hE => TU.out w (hA.carry hE)))  (fun v1 wj1 hE j1 => ?_)
                have c4 := cellb c4 hE
                have hA := hA.carry hE
                have hO := hO.carry hE
                have hde := hde.carry hE
                have hbj1 := bthen hbz hE
                clear hE
                try simp only [Act.put, zS]
                refine wpAnyE_call1 (i := 3) (R := (fun u W => Rw 3 iV W u os)) (by kernel_rfl) (show _ = some ⟨some 187, .call ⟨.value (.func 24), #[.tmp 186], #[49]⟩, 60, "law.go:551", #[⟨2, .data⟩, ⟨1, .chain⟩], none⟩ from rfl) (yieldsR (fun w hE => TT.out w (hO.carry hE)))  (fun v3 wj2 hE j3 => ?_)
                have c4 := cellb c4 hE
                have hA := hA.carry hE
                have hO := hO.carry hE
                have hde := hde.carry hE
                have j1 := j1.carry hE
                have hbj2 := bthen hbj1 hE
                clear hE
                try simp only [Act.put, zS]
                refine zB 5 ⟨some 189, .call ⟨.value (.func 28), #[.tmp 185, .tmp 187, .tmp 188], #[58, 60, 41]⟩, 56, "law.go:551", #[⟨1, .data⟩, ⟨3, .data⟩, ⟨4, .data⟩, ⟨3, .chain⟩], none⟩ (fun w hE => TCp3.out v1 v3 _ w (j1.carry hE) (j3.carry hE) (hde.carry hE)) rfl ?_
                simp only [Act.put, zS]
                refine zV 6 ⟨some 183, .move (.tmp 189), 56, "law.go:551", #[⟨5, .data⟩], none⟩ rfl ?_
                simp only [Act.put, zS]
                refine zV 7 ⟨some 190, .extract (.tmp 183) 0, 3, "law.go:551", #[⟨6, .data⟩], none⟩ rfl ?_
                simp only [Act.put, zS]
                refine zV 8 ⟨some 191, .extract (.tmp 183) 1, 29, "law.go:551", #[⟨6, .data⟩, { on := 9, ground := Ground.gcOnly Departure.lateStores }], none⟩ rfl ?_
                simp only [Act.put, zS]
                refine zV 9 ⟨some 20, .assign (.tmp 190), 3, "law.go:551", #[⟨7, .data⟩, ⟨5, .chain⟩, ⟨0, .phase⟩, ⟨1, .phase⟩, ⟨2, .phase⟩, ⟨3, .phase⟩, ⟨4, .phase⟩, ⟨5, .phase⟩, ⟨6, .phase⟩, ⟨7, .phase⟩, { on := 8, ground := Ground.textOnly Departure.lateStores }], none⟩ rfl ?_
                simp only [Act.put, zS]
                refine zV 10 ⟨some 21, .assign (.tmp 191), 29, "law.go:551", #[⟨8, .data⟩, ⟨9, .chain⟩, ⟨0, .phase⟩, ⟨1, .phase⟩, ⟨2, .phase⟩, ⟨3, .phase⟩, ⟨4, .phase⟩, ⟨5, .phase⟩, ⟨6, .phase⟩, ⟨7, .phase⟩, ⟨8, .phase⟩, ⟨9, .phase⟩], none⟩ rfl ?_
                simp only [Act.put, zS]
                refine wpAnyE_done (by kernel_rfl) (fun wy3 hE => ?_) _
                have hbz3 := bthen hbj2 hE
                have c4 := cellb c4 hE
                have hA := hA.carry hE
                have hO := hO.carry hE
                have hde := hde.carry hE
                have j1 := j1.carry hE
                have j3 := j3.carry hE
                clear hE
                have hb2 := hbz3
                obtain ⟨W12, hW12⟩ : ∃ v, v = wy3 := ⟨_, rfl⟩
                rw [← hW12] at hb2 ⊢
                clear hW12
                have hb12 := bthen hb11 hb2
                clear hb2 hA hO hde c4 j1 j3 hb11 TCp3
                go_wp2
                go_roundw
                case rel => exact ⟨k + 1, by omega, by go_num, by rw [HSS.out], hb12⟩
                case measure => simp [intOf]; omega
               ·obtain rfl : k = NM := by omega
                have hdk : ¬ (k : Int) < (k : Int) := by omega
                have hsr := sumK_rng RL HRG.out k
                have hbd := HBD.out
                obtain ⟨SK, hSK⟩ : ∃ y, y = sumK RL k := ⟨_, rfl⟩
                rw [← hSK] at hsr hbd TCp2 ⊢
                have hA := HA.out.carry (bthen K2.out (bthen HB8.out hbel))
                have hO := HO.out.carry (bthen K2.out (bthen HB8.out hbel))
                have hr := Ints.below HR.out hbel
                have c4 := (I4.out.carry (bthen HB8.out hbel)).cell (j := 0) (v := .slice a2 NO p2) rfl
                clear hSK hsr
                go_upto_region 24 with fail
                refine wp_region_E 99 (by kernel_rfl) ?_
                obtain ⟨wz, hwz⟩ : ∃ v, v = wr.drew := ⟨_, rfl⟩
                rw [← hwz]
                have hlz : Below wr.heap.size wr wz := by rw [hwz]; exact (Below.refl _ _).drew
                have hbz := bthen (Below.refl _ _) hlz
                have c4 := cellb c4 hlz
                have hA := hA.carry hlz
                have hO := hO.carry hlz
                have hr := hr.carry hlz
                clear hwz hlz
                refine zV 0 ⟨some 196, .move (.tmp 0), 48, "law.go:555", #[], none⟩ rfl ?_
                simp only [Act.put, zS]
                refine zV 2 ⟨some 198, .load 49 (.tmp 4), 49, "law.go:555", #[], none⟩ rfl ?_ (hv := fun w hE => by have c4 := cellb c4 hE; (try dsimp only); go_simp; try rfl)
                simp only [Act.put, zS]
                refine zV 4 ⟨some 200, .move (.tmp 14), 41, "law.go:555", #[], none⟩ rfl ?_
                simp only [Act.put, zS]
                refine wpAnyE_call1 (i := 1) (R := (fun u W => Rw 4 mV W u ms)) (by kernel_rfl) (show _ = some ⟨some 197, .call ⟨.value (.func 23), #[.tmp 196], #[48]⟩, 58, "law.go:555", #[⟨0, .data⟩], none⟩ from rfl) (yieldsR (fun w hE => TU.out w (hA.carry hE)))  (fun v1 wj1 hE j1 => ?_)
                have c4 := cellb c4 hE
                have hA := hA.carry hE
                have hO := hO.carry hE
                have hr := hr.carry hE
                have hbj1 := bthen hbz hE
                clear hE
                try simp only [Act.put, zS]
                refine wpAnyE_call1 (i := 3) (R := (fun u W => Rw 3 iV W u os)) (by kernel_rfl) (show _ = some ⟨some 199, .call ⟨.value (.func 24), #[.tmp 198], #[49]⟩, 60, "law.go:555", #[⟨2, .data⟩, ⟨1, .chain⟩], none⟩ from rfl) (yieldsR (fun w hE => TT.out w (hO.carry hE)))  (fun v3 wj2 hE j3 => ?_)
                have c4 := cellb c4 hE
                have hA := hA.carry hE
                have hO := hO.carry hE
                have hr := hr.carry hE
                have j1 := j1.carry hE
                have hbj2 := bthen hbj1 hE
                clear hE
                try simp only [Act.put, zS]
                refine wpAnyE_call1 (i := 5) (R := (fun u W => Ints W u RL)) (by kernel_rfl) (show _ = some ⟨some 201, .call ⟨.value (.func 25), #[.tmp 200], #[41]⟩, 41, "law.go:555", #[⟨4, .data⟩, ⟨3, .chain⟩], none⟩ from rfl) (yieldsR (fun w hE => TI.out _ RL w HRLn.out (hr.carry hE)))  (fun v5 wj3 hE j5 => ?_)
                have c4 := cellb c4 hE
                have hA := hA.carry hE
                have hO := hO.carry hE
                have hr := hr.carry hE
                have j1 := j1.carry hE
                have j3 := j3.carry hE
                have hbj3 := bthen hbj2 hE
                clear hE
                try simp only [Act.put, zS]
                refine zB 6 ⟨some 202, .call ⟨.value (.func 28), #[.tmp 197, .tmp 199, .tmp 201], #[58, 60, 41]⟩, 56, "law.go:555", #[⟨1, .data⟩, ⟨3, .data⟩, ⟨5, .data⟩, ⟨5, .chain⟩], none⟩ (fun w hE => TCp2.out v1 v3 v5 w (j1.carry hE) (j3.carry hE) (j5.carry hE)) rfl ?_
                simp only [Act.put, zS]
                refine zV 7 ⟨some 195, .move (.tmp 202), 56, "law.go:555", #[⟨6, .data⟩], none⟩ rfl ?_
                simp only [Act.put, zS]
                refine zV 8 ⟨some 203, .extract (.tmp 195) 0, 3, "law.go:555", #[⟨7, .data⟩], none⟩ rfl ?_
                simp only [Act.put, zS]
                refine zV 9 ⟨some 204, .extract (.tmp 195) 1, 29, "law.go:555", #[⟨7, .data⟩, { on := 10, ground := Ground.gcOnly Departure.lateStores }], none⟩ rfl ?_
                simp only [Act.put, zS]
                refine zV 10 ⟨some 22, .assign (.tmp 203), 3, "law.go:555", #[⟨8, .data⟩, ⟨6, .chain⟩, ⟨0, .phase⟩, ⟨1, .phase⟩, ⟨2, .phase⟩, ⟨3, .phase⟩, ⟨4, .phase⟩, ⟨5, .phase⟩, ⟨6, .phase⟩, ⟨7, .phase⟩, ⟨8, .phase⟩, { on := 9, ground := Ground.textOnly Departure.lateStores }], none⟩ rfl ?_
                simp only [Act.put, zS]
                refine zV 11 ⟨some 23, .assign (.tmp 204), 29, "law.go:555", #[⟨9, .data⟩, ⟨10, .chain⟩, ⟨0, .phase⟩, ⟨1, .phase⟩, ⟨2, .phase⟩, ⟨3, .phase⟩, ⟨4, .phase⟩, ⟨5, .phase⟩, ⟨6, .phase⟩, ⟨7, .phase⟩, ⟨8, .phase⟩, ⟨9, .phase⟩, ⟨10, .phase⟩], none⟩ rfl ?_
                simp only [Act.put, zS]
                refine wpAnyE_done (by kernel_rfl) (fun wy4 hE => ?_) _
                have hbz4 := bthen hbj3 hE
                have c4 := cellb c4 hE
                have hA := hA.carry hE
                have hO := hO.carry hE
                have hr := hr.carry hE
                have j1 := j1.carry hE
                have j3 := j3.carry hE
                have j5 := j5.carry hE
                clear hE
                have hb2 := hbz4
                obtain ⟨W13, hW13⟩ : ∃ v, v = wy4 := ⟨_, rfl⟩
                rw [← hW13] at hb2 ⊢
                clear hW13
                rename_i W13
                have hb13 := bthen hbel hb2
                clear hb2 hA hO hr c4 j1 j3 j5 TCp2 hbel
                have hA := HA.out.carry (bthen K2.out (bthen HB8.out hb13))
                have hO := HO.out.carry (bthen K2.out (bthen HB8.out hb13))
                have hD := HD.out.carry (bthen K2.out (bthen HB8.out hb13))
                have hpr := Ints.below HPR8.out hb13
                have c4 := (I4.out.carry (bthen HB8.out hb13)).cell (j := 0) (v := .slice a2 NO p2) rfl
                have c52 := (I5.out.carry (bthen HB8.out hb13)).cell (j := 2) (v := .slice da ND dc) rfl
                have c7 := (H7.out.carry hb13).cell (j := 0) (v := .slice xa k xc) rfl
                go_upto_region 25 with fail
                refine wp_region_E 99 (by kernel_rfl) ?_
                obtain ⟨wz, hwz⟩ : ∃ v, v = W13.drew := ⟨_, rfl⟩
                rw [← hwz]
                have hlz : Below W13.heap.size W13 wz := by rw [hwz]; exact (Below.refl _ _).drew
                have hbz := bthen (Below.refl _ _) hlz
                have c4 := cellb c4 hlz
                have c7 := cellb c7 hlz
                have c52 := cellb c52 hlz
                have hA := hA.carry hlz
                have hO := hO.carry hlz
                have hD := hD.carry hlz
                have hpr := hpr.carry hlz
                clear hwz hlz
                refine zV 0 ⟨some 206, .move (.tmp 0), 48, "law.go:556", #[], none⟩ rfl ?_
                simp only [Act.put, zS]
                refine zV 2 ⟨some 208, .load 49 (.tmp 4), 49, "law.go:556", #[], none⟩ rfl ?_ (hv := fun w hE => by have c4 := cellb c4 hE; have c7 := cellb c7 hE; have c52 := cellb c52 hE; (try dsimp only); go_simp; try rfl)
                simp only [Act.put, zS]
                refine zV 4 ⟨some 210, .load 41 (.tmp 7), 41, "law.go:556", #[], none⟩ rfl ?_ (hv := fun w hE => by have c4 := cellb c4 hE; have c7 := cellb c7 hE; have c52 := cellb c52 hE; (try dsimp only); go_simp; try rfl)
                simp only [Act.put, zS]
                refine zV 6 ⟨some 212, .fieldAddr 52 (.tmp 5) 2, 0, "law.go:556", #[], none⟩ rfl ?_
                simp only [Act.put, zS]
                refine zV 7 ⟨some 213, .load 50 (.tmp 212), 50, "law.go:556", #[⟨6, .data⟩], none⟩ rfl ?_ (hv := fun w hE => by have c4 := cellb c4 hE; have c7 := cellb c7 hE; have c52 := cellb c52 hE; (try dsimp only); go_simp; try rfl)
                simp only [Act.put, zS]
                refine wpAnyE_call1 (i := 1) (R := (fun u W => Rw 4 mV W u ms)) (by kernel_rfl) (show _ = some ⟨some 207, .call ⟨.value (.func 23), #[.tmp 206], #[48]⟩, 58, "law.go:556", #[⟨0, .data⟩], none⟩ from rfl) (yieldsR (fun w hE => TU.out w (hA.carry hE)))  (fun v1 wj1 hE j1 => ?_)
                have c4 := cellb c4 hE
                have c7 := cellb c7 hE
                have c52 := cellb c52 hE
                have hA := hA.carry hE
                have hO := hO.carry hE
                have hD := hD.carry hE
                have hpr := hpr.carry hE
                have hbj1 := bthen hbz hE
                clear hE
                try simp only [Act.put, zS]
                refine wpAnyE_call1 (i := 3) (R := (fun u W => Rw 3 iV W u os)) (by kernel_rfl) (show _ = some ⟨some 209, .call ⟨.value (.func 24), #[.tmp 208], #[49]⟩, 60, "law.go:556", #[⟨2, .data⟩, ⟨1, .chain⟩], none⟩ from rfl) (yieldsR (fun w hE => TT.out w (hO.carry hE)))  (fun v3 wj2 hE j3 => ?_)
                have c4 := cellb c4 hE
                have c7 := cellb c7 hE
                have c52 := cellb c52 hE
                have hA := hA.carry hE
                have hO := hO.carry hE
                have hD := hD.carry hE
                have hpr := hpr.carry hE
                have j1 := j1.carry hE
                have hbj2 := bthen hbj1 hE
                clear hE
                try simp only [Act.put, zS]
                refine wpAnyE_call1 (i := 5) (R := (fun u W => Ints W u PR)) (by kernel_rfl) (show _ = some ⟨some 211, .call ⟨.value (.func 25), #[.tmp 210], #[41]⟩, 41, "law.go:556", #[⟨4, .data⟩, ⟨3, .chain⟩], none⟩ from rfl) (yieldsR (fun w hE => TI.out _ PR w HPRn.out (hpr.carry hE)))  (fun v5 wj3 hE j5 => ?_)
                have c4 := cellb c4 hE
                have c7 := cellb c7 hE
                have c52 := cellb c52 hE
                have hA := hA.carry hE
                have hO := hO.carry hE
                have hD := hD.carry hE
                have hpr := hpr.carry hE
                have j1 := j1.carry hE
                have j3 := j3.carry hE
                have hbj3 := bthen hbj2 hE
                clear hE
                try simp only [Act.put, zS]
                refine wpAnyE_call1 (i := 8) (R := (fun u W => Prs W u ds)) (by kernel_rfl) (show _ = some ⟨some 214, .call ⟨.value (.func 30), #[.tmp 213], #[50]⟩, 67, "law.go:556", #[⟨7, .data⟩, ⟨5, .chain⟩], none⟩ from rfl) (yieldsR (fun w hE => TD.out w (hD.carry hE)))  (fun v8 wj4 hE j8 => ?_)
                have c4 := cellb c4 hE
                have c7 := cellb c7 hE
                have c52 := cellb c52 hE
                have hA := hA.carry hE
                have hO := hO.carry hE
                have hD := hD.carry hE
                have hpr := hpr.carry hE
                have j1 := j1.carry hE
                have j3 := j3.carry hE
                have j5 := j5.carry hE
                have hbj4 := bthen hbj3 hE
                clear hE
                try simp only [Act.put, zS]
                refine zB 9 ⟨some 215, .call ⟨.value (.func 29), #[.tmp 207, .tmp 209, .tmp 211, .tmp 214], #[58, 60, 41, 67]⟩, 56, "law.go:556", #[⟨1, .data⟩, ⟨3, .data⟩, ⟨5, .data⟩, ⟨8, .data⟩, ⟨8, .chain⟩], none⟩ (fun w hE => TSp2.out v1 v3 v5 v8 w (j1.carry hE) (j3.carry hE) (j5.carry hE) (j8.carry hE)) rfl ?_
                simp only [Act.put, zS]
                refine zV 10 ⟨some 205, .move (.tmp 215), 56, "law.go:556", #[⟨9, .data⟩], none⟩ rfl ?_
                simp only [Act.put, zS]
                refine zV 11 ⟨some 216, .extract (.tmp 205) 0, 3, "law.go:556", #[⟨10, .data⟩], none⟩ rfl ?_
                simp only [Act.put, zS]
                refine zV 12 ⟨some 217, .extract (.tmp 205) 1, 29, "law.go:556", #[⟨10, .data⟩, { on := 13, ground := Ground.gcOnly Departure.lateStores }], none⟩ rfl ?_
                simp only [Act.put, zS]
                refine zV 13 ⟨some 24, .assign (.tmp 216), 3, "law.go:556", #[⟨11, .data⟩, ⟨9, .chain⟩, ⟨0, .phase⟩, ⟨1, .phase⟩, ⟨2, .phase⟩, ⟨3, .phase⟩, ⟨4, .phase⟩, ⟨5, .phase⟩, ⟨6, .phase⟩, ⟨7, .phase⟩, ⟨8, .phase⟩, ⟨9, .phase⟩, ⟨10, .phase⟩, ⟨11, .phase⟩, { on := 12, ground := Ground.textOnly Departure.lateStores }], none⟩ rfl ?_
                simp only [Act.put, zS]
                refine zV 14 ⟨some 25, .assign (.tmp 217), 29, "law.go:556", #[⟨12, .data⟩, ⟨13, .chain⟩, ⟨0, .phase⟩, ⟨1, .phase⟩, ⟨2, .phase⟩, ⟨3, .phase⟩, ⟨4, .phase⟩, ⟨5, .phase⟩, ⟨6, .phase⟩, ⟨7, .phase⟩, ⟨8, .phase⟩, ⟨9, .phase⟩, ⟨10, .phase⟩, ⟨11, .phase⟩, ⟨12, .phase⟩, ⟨13, .phase⟩], none⟩ rfl ?_
                simp only [Act.put, zS]
                refine wpAnyE_done (by kernel_rfl) (fun wy5 hE => ?_) _
                have hbz5 := bthen hbj4 hE
                have c4 := cellb c4 hE
                have c7 := cellb c7 hE
                have c52 := cellb c52 hE
                have hA := hA.carry hE
                have hO := hO.carry hE
                have hD := hD.carry hE
                have hpr := hpr.carry hE
                have j1 := j1.carry hE
                have j3 := j3.carry hE
                have j5 := j5.carry hE
                have j8 := j8.carry hE
                clear hE
                have hb2 := hbz5
                obtain ⟨W14, hW14⟩ : ∃ v, v = wy5 := ⟨_, rfl⟩
                rw [← hW14] at hb2 ⊢
                clear hW14
                rename_i W14
                have hb14 := bthen hb13 hb2
                clear hb2 hA hO hD hpr c4 c7 c52 j1 j3 j5 j8 TSp2 hb13
                obtain ⟨-, -, ⟨hs0, hs1⟩, hen, hen2⟩ := HSB.out
                have dS0 : decide (S < 0) = false := by rw [decide_eq_false_iff_not]; omega
                have dS1 : decide ((k : Int) < S) = false := by rw [decide_eq_false_iff_not]; omega
                have dSK : decide (PC < SK) = false := by rw [decide_eq_false_iff_not]; omega
                have HEN := Lib.hid hen
                have HEN2 := Lib.hid hen2
                have TE1 := TEn.out S (by omega)
                have TE2 := TEn.out (S - 1) (by omega)
                rw [hen] at TE1
                have TE1 := Lib.hid TE1
                have TE2 := Lib.hid TE2
                clear hen hen2
                have hS9 : 0 ≤ S := hs0
                have hS8 : S ≤ 4 := by omega
                go_upto_region 29 with fail
                go_cut [258] from 245 to 258 (fun u258 wn => u258 = .bool false ∧ Below W14.heap.size W14 wn)
                case first =>
                 have KB := bthen HB8.out hb14
                 have hO := HO.out.carry (bthen K2.out KB)
                 have hD := HD.out.carry (bthen K2.out KB)
                 have hpr := Ints.below HPR8.out hb14
                 have c4 := (I4.out.carry KB).cell (j := 0) (v := .slice a2 NO p2) rfl
                 have c52 := (I5.out.carry KB).cell (j := 2) (v := .slice da ND dc) rfl
                 have c7 := (H7.out.carry hb14).cell (j := 0) (v := .slice xa k xc) rfl
                 have TE3 := Lib.hid (TE1.out B4 B5 G7 W14 c4 c52 c7 hO hD hpr)
                 clear c4 c52 c7 hO hD hpr
                 go_wp2_with fail
                 refine TE3.out.mono ?_
                 rintro e w15 ⟨rfl, hl⟩
                 by_cases h0 : 0 < S
                 ·have hf := HEN2.out h0
                  have TE4 := TE2.out
                  rw [hf] at TE4
                  have KC := bthen KB hl
                  have TE5 := Lib.hid (TE4 B4 B5 G7 w15 ((I4.out.carry KC).cell (j := 0) (v := .slice a2 NO p2) rfl) ((I5.out.carry KC).cell (j := 2) (v := .slice da ND dc) rfl) ((H7.out.carry (bthen hb14 hl)).cell (j := 0) (v := .slice xa k xc) rfl) (HO.out.carry (bthen K2.out KC)) (HD.out.carry (bthen K2.out KC)) (Ints.below HPR8.out (bthen hb14 hl)))
                  clear hf TE4 TE3
                  go_wp2_with fail
                  refine TE5.out.mono ?_
                  rintro e w16 ⟨rfl, hl2⟩
                  go_wp2_with fail
                  go_meet
                  exact ⟨by simp, bthen hl hl2⟩
                 ·clear TE3
                  go_wp2_with fail
                  go_meet
                  exact ⟨by simp, hl⟩
                case rest =>
                 obtain ⟨rfl, hb15⟩ := hcut
                 have KB := bthen HB8.out (bthen hb14 hb15)
                 have HKB := Lib.hid KB
                 clear hb14 hb15 TE1 TE2 HEN HEN2 dS0 dS1 dSK hS9 hS8 hs0 hs1
                 have c4 := (I4.out.carry KB).cell (j := 0) (v := .slice a2 NO p2) rfl
                 clear KB
                 go_upto_if 261 with fail
                 clear c4
                 go_cut [27, 28, 29] from 261 to 281 (fun u27 u28 u29 wn => Below wc.heap.size wc wn)
                 case first =>
                  by_cases h0 : 0 < NO
                  ·have d0 : (0 : Int) < (NO : Int) := by omega
                   obtain ⟨n, hn⟩ : ∃ n, n = NO - 1 := ⟨_, rfl⟩
                   have qn : (NO : Int) - 1 = (n : Int) := by omega
                   have qw : IntKind.i64.wrap ((NO : Int) - 1) = (n : Int) := by rw [qn]; exact IntWalk.i64_in _ (by omega)
                   have qw2 : IntKind.i64.wrap (n : Int) = (n : Int) := IntWalk.i64_in _ (by omega)
                   have hn3 : (n : Int) ≤ (p2 : Int) := by have := HC2.out; omega
                   have hn0 : (0 : Int) ≤ (n : Int) := by omega
                   have hn1 : (n : Int) ≤ (NO : Int) := by omega
                   have hn2 : (NO : Int) ≤ (p2 : Int) := by have := HC2.out; omega
                   have hnl : n ≤ NO := by omega
                   have hf := HFO.out n hnl
                   have hA := HA.out.carry (bthen K2.out HKB.out)
                   have hO2 := (HO.out.carry (bthen K2.out HKB.out)).takeA HNO.out n hnl
                   have TT2 := Lib.hid (fun W (h : Rw 3 iV W (.slice a2 n p2) (os.take n)) => toldJ (R := fun u W => Rw 3 iV W u (os.take n)) (times_any (.slice a2 n p2) (os.take n) W (by rw [List.length_take]; omega) h) (fun _ _ h => h.rw iV_len))
                   have TPl2 := Lib.hid (fun vm vo W (hm : Rw 4 mV W vm ms) (ho : Rw 3 iV W vo (os.take n)) => toldG (g := fun u => .tuple #[u, .int .i64 (planC ms (os.take n)), .int .i64 (planE ms (os.take n))]) (Plan_any vm vo ms (os.take n) W hmL hmS (by rw [List.length_take]; omega) hm ho))
                   obtain ⟨ol, hol2⟩ : ∃ l, l = os.take n := ⟨_, rfl⟩
                   rw [← hol2] at hf hO2 TT2 TPl2
                   obtain ⟨PC3, hPC3⟩ : ∃ e, e = planC ms ol := ⟨_, rfl⟩
                   obtain ⟨PE3, hPE3⟩ : ∃ e, e = planE ms ol := ⟨_, rfl⟩
                   rw [← hPC3, ← hPE3] at TPl2 hf
                   have c4 := (I4.out.carry HKB.out).cell (j := 0) (v := .slice a2 NO p2) rfl
                   have HF := Lib.hid hf
                   clear hf hol2 hPC3 hPE3 hn h0
                   go_upto_region 32 with fail
                   refine wp_region_E 99 (by kernel_rfl) ?_
                   obtain ⟨wz, hwz⟩ : ∃ v, v = wc.drew := ⟨_, rfl⟩
                   rw [← hwz]
                   have hlz : Below wc.heap.size wc wz := by rw [hwz]; exact (Below.refl _ _).drew
                   have hbz := bthen (Below.refl _ _) hlz
                   have c4 := cellb c4 hlz
                   have hA := hA.carry hlz
                   have hO2 := hO2.carry hlz
                   clear hwz hlz
                   refine zV 0 ⟨some 263, .move (.tmp 0), 48, "law.go:583", #[], none⟩ rfl ?_
                   simp only [Act.put, zS]
                   refine zV 2 ⟨some 265, .load 49 (.tmp 4), 49, "law.go:583", #[], none⟩ rfl ?_ (hv := fun w hE => by have c4 := cellb c4 hE; (try dsimp only); go_simp; try rfl)
                   simp only [Act.put, zS]
                   refine zV 3 ⟨some 266, .load 49 (.tmp 4), 49, "law.go:583", #[], none⟩ rfl ?_ (hv := fun w hE => by have c4 := cellb c4 hE; (try dsimp only); go_simp; try rfl)
                   simp only [Act.put, zS]
                   refine zV 4 ⟨some 267, .call ⟨.builtin .len, #[.tmp 266], #[49]⟩, 3, "law.go:583", #[⟨3, .data⟩], none⟩ rfl ?_ (hv := fun w hE => by have c4 := cellb c4 hE; (try dsimp only); go_simp; try rfl)
                   simp only [Act.put, zS]
                   refine zV 5 ⟨some 268, .binOp .sub 3 (.tmp 267) (.const (.int .i64 1)) 3, 3, "law.go:583", #[⟨4, .data⟩], none⟩ rfl ?_
                   simp only [Act.put, zS]
                   refine zV 6 ⟨some 269, .slice 49 (.tmp 265) none (some (.tmp 268)) none, 49, "law.go:583", #[⟨2, .data⟩, ⟨5, .data⟩], none⟩ rfl ?_ (hv := fun w hE => by have c4 := cellb c4 hE; (try dsimp only); go_simp; try rfl)
                   simp only [Act.put, zS]
                   refine wpAnyE_call1 (i := 1) (R := (fun u W => Rw 4 mV W u ms)) (by kernel_rfl) (show _ = some ⟨some 264, .call ⟨.value (.func 23), #[.tmp 263], #[48]⟩, 58, "law.go:583", #[⟨0, .data⟩], none⟩ from rfl) (yieldsR (fun w hE => TU.out w (hA.carry hE)))  (fun v1 wj1 hE j1 => ?_)
                   have c4 := cellb c4 hE
                   have hA := hA.carry hE
                   have hO2 := hO2.carry hE
                   have hbj1 := bthen hbz hE
                   clear hE
                   try simp only [Act.put, zS]
                   refine wpAnyE_call1 (i := 7) (R := (fun u W => Rw 3 iV W u ol)) (by kernel_rfl) (show _ = some ⟨some 270, .call ⟨.value (.func 24), #[.tmp 269], #[49]⟩, 60, "law.go:583", #[⟨6, .data⟩, ⟨1, .chain⟩], none⟩ from rfl) (yieldsR (fun w hE => TT2.out w (hO2.carry hE)))  (fun v7 wj2 hE j7 => ?_)
                   have c4 := cellb c4 hE
                   have hA := hA.carry hE
                   have hO2 := hO2.carry hE
                   have j1 := j1.carry hE
                   have hbj2 := bthen hbj1 hE
                   clear hE
                   try simp only [Act.put, zS]
                   refine wpAnyE_call1 (i := 8) (R := (fun v W => ∃ u, v = .tuple #[u, .int .i64 PC3, .int .i64 PE3] ∧ Ints W u (planR ms ol))) (by kernel_rfl) (show _ = some ⟨some 271, .call ⟨.value (.func 26), #[.tmp 264, .tmp 270], #[58, 60]⟩, 63, "law.go:583", #[⟨1, .data⟩, ⟨7, .data⟩, ⟨7, .chain⟩], none⟩ from rfl) (yieldsR (fun w hE => TPl2.out v1 v7 w (j1.carry hE) (j7.carry hE)))  (fun v8 wj3 hE j8 => ?_)
                   have c4 := cellb c4 hE
                   have hA := hA.carry hE
                   have hO2 := hO2.carry hE
                   have j1 := j1.carry hE
                   have j7 := j7.carry hE
                   have hbj3 := bthen hbj2 hE
                   clear hE
                   try simp only [Act.put, zS]
                   obtain ⟨u27', rfl, -⟩ := j8
                   refine zV 9 ⟨some 262, .move (.tmp 271), 63, "law.go:583", #[⟨8, .data⟩], none⟩ rfl ?_
                   simp only [Act.put, zS]
                   refine zV 10 ⟨some 272, .extract (.tmp 262) 0, 41, "law.go:583", #[⟨9, .data⟩], none⟩ rfl ?_
                   simp only [Act.put, zS]
                   refine zV 11 ⟨some 273, .extract (.tmp 262) 1, 3, "law.go:583", #[⟨9, .data⟩, { on := 13, ground := Ground.gcOnly Departure.lateStores }], none⟩ rfl ?_
                   simp only [Act.put, zS]
                   refine zV 12 ⟨some 274, .extract (.tmp 262) 2, 29, "law.go:583", #[⟨9, .data⟩, { on := 14, ground := Ground.gcOnly Departure.lateStores }], none⟩ rfl ?_
                   simp only [Act.put, zS]
                   refine zV 13 ⟨some 27, .assign (.tmp 272), 41, "law.go:583", #[⟨10, .data⟩, ⟨8, .chain⟩, ⟨0, .phase⟩, ⟨1, .phase⟩, ⟨2, .phase⟩, ⟨3, .phase⟩, ⟨4, .phase⟩, ⟨5, .phase⟩, ⟨6, .phase⟩, ⟨7, .phase⟩, ⟨8, .phase⟩, ⟨9, .phase⟩, ⟨10, .phase⟩, { on := 11, ground := Ground.textOnly Departure.lateStores }, { on := 12, ground := Ground.textOnly Departure.lateStores }], none⟩ rfl ?_
                   simp only [Act.put, zS]
                   refine zV 14 ⟨some 28, .assign (.tmp 273), 3, "law.go:583", #[⟨11, .data⟩, ⟨13, .chain⟩, ⟨0, .phase⟩, ⟨1, .phase⟩, ⟨2, .phase⟩, ⟨3, .phase⟩, ⟨4, .phase⟩, ⟨5, .phase⟩, ⟨6, .phase⟩, ⟨7, .phase⟩, ⟨8, .phase⟩, ⟨9, .phase⟩, ⟨10, .phase⟩, ⟨11, .phase⟩, { on := 12, ground := Ground.textOnly Departure.lateStores }, ⟨13, .phase⟩], none⟩ rfl ?_
                   simp only [Act.put, zS]
                   refine zV 15 ⟨some 29, .assign (.tmp 274), 29, "law.go:583", #[⟨12, .data⟩, ⟨14, .chain⟩, ⟨0, .phase⟩, ⟨1, .phase⟩, ⟨2, .phase⟩, ⟨3, .phase⟩, ⟨4, .phase⟩, ⟨5, .phase⟩, ⟨6, .phase⟩, ⟨7, .phase⟩, ⟨8, .phase⟩, ⟨9, .phase⟩, ⟨10, .phase⟩, ⟨11, .phase⟩, ⟨12, .phase⟩, ⟨13, .phase⟩, ⟨14, .phase⟩], none⟩ rfl ?_
                   simp only [Act.put, zS]
                   refine wpAnyE_done (by kernel_rfl) (fun wy4 hE => ?_) _
                   have hbz4 := bthen hbj3 hE
                   have c4 := cellb c4 hE
                   have hA := hA.carry hE
                   have hO2 := hO2.carry hE
                   have j1 := j1.carry hE
                   have j7 := j7.carry hE
                   clear hE
                   have hb2 := hbz4
                   obtain ⟨W17, hW17⟩ : ∃ v, v = wy4 := ⟨_, rfl⟩
                   rw [← hW17] at hb2 ⊢
                   clear hW17
                   clear hA hO2 c4 j1 j7 qn qw qw2
                   by_cases hz : PE3 = 0
                   ·have hl := HF.out hz
                    have d9 : decide (PC3 < PC) = false := by rw [decide_eq_false_iff_not]; omega
                    subst hz
                    go_wp2_with fail
                    go_meet
                    exact hb2
                   ·have z : (PE3 == 0) = false := by rw [beq_eq_false_iff_ne]; exact hz
                    clear hz
                    go_wp2_with fail
                    go_meet
                    exact hb2
                  ·have d0 : ¬ (0 : Int) < (NO : Int) := by omega
                   go_wp2_with fail
                   go_meet
                   exact Below.refl _ _
                 case rest =>
                  have HKC := Lib.hid (bthen HKB.out hcut)
                  clear hcut HKB
                  go_upto_if 284 with fail
                  go_cut [30, 31, 32] from 284 to 304 (fun u30 u31 u32 wn => Below wc.heap.size wc wn)
                  case first =>
                   by_cases h0 : 0 < k
                   ·have d0 : (0 : Int) < (k : Int) := by omega
                    obtain ⟨n, hn⟩ : ∃ n, n = k - 1 := ⟨_, rfl⟩
                    have qn : (k : Int) - 1 = (n : Int) := by omega
                    have qw : IntKind.i64.wrap ((k : Int) - 1) = (n : Int) := by rw [qn]; exact IntWalk.i64_in _ (by omega)
                    have qw2 : IntKind.i64.wrap (n : Int) = (n : Int) := IntWalk.i64_in _ (by omega)
                    have hn3 : (n : Int) ≤ (p1 : Int) := by have := HC1.out; omega
                    have hn0 : (0 : Int) ≤ (n : Int) := by omega
                    have hn1 : (n : Int) ≤ (k : Int) := by omega
                    have hn2 : (k : Int) ≤ (p1 : Int) := by have := HC1.out; omega
                    have hnl : n ≤ k := by omega
                    obtain ⟨hf1, hf2⟩ := HFM.out n hnl
                    have hA2 := (HA.out.carry (bthen K2.out HKC.out)).takeA HNM.out n hnl
                    have hO := HO.out.carry (bthen K2.out HKC.out)
                    have hmS2 : ∀ m ∈ ms.take n, m.1.size ≤ 1000000 := fun m hm => hmS m (List.mem_of_mem_take hm)
                    have TU2 := Lib.hid (fun W (h : Rw 4 mV W (.slice a1 n p1) (ms.take n)) => toldJ (R := fun u W => Rw 4 mV W u (ms.take n)) (units_any (.slice a1 n p1) (ms.take n) W (by rw [List.length_take]; omega) h) (fun _ _ h => h.rw mV_len))
                    have TPl2 := Lib.hid (fun vm vo W (hm : Rw 4 mV W vm (ms.take n)) (ho : Rw 3 iV W vo os) => toldG (g := fun u => .tuple #[u, .int .i64 (planC (ms.take n) os), .int .i64 (planE (ms.take n) os)]) (Plan_any vm vo (ms.take n) os W (by rw [List.length_take]; omega) hmS2 hoL hm ho))
                    rw [hf1] at TPl2
                    obtain ⟨ml, hml2⟩ : ∃ l, l = ms.take n := ⟨_, rfl⟩
                    rw [← hml2] at hf2 hA2 TU2 TPl2
                    obtain ⟨PC4, hPC4⟩ : ∃ e, e = planC ml os := ⟨_, rfl⟩
                    rw [← hPC4] at TPl2 hf2
                    have d9 : decide (PC < PC4) = false := by rw [decide_eq_false_iff_not]; omega
                    have c4 := (I4.out.carry HKC.out).cell (j := 0) (v := .slice a2 NO p2) rfl
                    clear hf1 hf2 hml2 hPC4 hn h0 hmS2
                    go_upto_region 36 with fail
                    refine wp_region_E 99 (by kernel_rfl) ?_
                    obtain ⟨wz, hwz⟩ : ∃ v, v = wc.drew := ⟨_, rfl⟩
                    rw [← hwz]
                    have hlz : Below wc.heap.size wc wz := by rw [hwz]; exact (Below.refl _ _).drew
                    have hbz := bthen (Below.refl _ _) hlz
                    have c4 := cellb c4 hlz
                    have hA2 := hA2.carry hlz
                    have hO := hO.carry hlz
                    clear hwz hlz
                    refine zV 0 ⟨some 286, .move (.tmp 0), 48, "law.go:588", #[], none⟩ rfl ?_
                    simp only [Act.put, zS]
                    refine zV 1 ⟨some 287, .move (.tmp 0), 48, "law.go:588", #[], none⟩ rfl ?_
                    simp only [Act.put, zS]
                    refine zV 2 ⟨some 288, .call ⟨.builtin .len, #[.tmp 287], #[48]⟩, 3, "law.go:588", #[⟨1, .data⟩], none⟩ rfl ?_ (hv := fun w hE => by have c4 := cellb c4 hE; (try dsimp only); go_simp; try rfl)
                    simp only [Act.put, zS]
                    refine zV 3 ⟨some 289, .binOp .sub 3 (.tmp 288) (.const (.int .i64 1)) 3, 3, "law.go:588", #[⟨2, .data⟩], none⟩ rfl ?_
                    simp only [Act.put, zS]
                    refine zV 4 ⟨some 290, .slice 48 (.tmp 286) none (some (.tmp 289)) none, 48, "law.go:588", #[⟨0, .data⟩, ⟨3, .data⟩], none⟩ rfl ?_ (hv := fun w hE => by have c4 := cellb c4 hE; (try dsimp only); go_simp; try rfl)
                    simp only [Act.put, zS]
                    refine zV 6 ⟨some 292, .load 49 (.tmp 4), 49, "law.go:588", #[], none⟩ rfl ?_ (hv := fun w hE => by have c4 := cellb c4 hE; (try dsimp only); go_simp; try rfl)
                    simp only [Act.put, zS]
                    refine wpAnyE_call1 (i := 5) (R := (fun u W => Rw 4 mV W u ml)) (by kernel_rfl) (show _ = some ⟨some 291, .call ⟨.value (.func 23), #[.tmp 290], #[48]⟩, 58, "law.go:588", #[⟨4, .data⟩], none⟩ from rfl) (yieldsR (fun w hE => TU2.out w (hA2.carry hE)))  (fun v5 wj1 hE j5 => ?_)
                    have c4 := cellb c4 hE
                    have hA2 := hA2.carry hE
                    have hO := hO.carry hE
                    have hbj1 := bthen hbz hE
                    clear hE
                    try simp only [Act.put, zS]
                    refine wpAnyE_call1 (i := 7) (R := (fun u W => Rw 3 iV W u os)) (by kernel_rfl) (show _ = some ⟨some 293, .call ⟨.value (.func 24), #[.tmp 292], #[49]⟩, 60, "law.go:588", #[⟨6, .data⟩, ⟨5, .chain⟩], none⟩ from rfl) (yieldsR (fun w hE => TT.out w (hO.carry hE)))  (fun v7 wj2 hE j7 => ?_)
                    have c4 := cellb c4 hE
                    have hA2 := hA2.carry hE
                    have hO := hO.carry hE
                    have j5 := j5.carry hE
                    have hbj2 := bthen hbj1 hE
                    clear hE
                    try simp only [Act.put, zS]
                    refine wpAnyE_call1 (i := 8) (R := (fun v W => ∃ u, v = .tuple #[u, .int .i64 PC4, .int .i64 0] ∧ Ints W u (planR ml os))) (by kernel_rfl) (show _ = some ⟨some 294, .call ⟨.value (.func 26), #[.tmp 291, .tmp 293], #[58, 60]⟩, 63, "law.go:588", #[⟨5, .data⟩, ⟨7, .data⟩, ⟨7, .chain⟩], none⟩ from rfl) (yieldsR (fun w hE => TPl2.out v5 v7 w (j5.carry hE) (j7.carry hE)))  (fun v8 wj3 hE j8 => ?_)
                    have c4 := cellb c4 hE
                    have hA2 := hA2.carry hE
                    have hO := hO.carry hE
                    have j5 := j5.carry hE
                    have j7 := j7.carry hE
                    have hbj3 := bthen hbj2 hE
                    clear hE
                    try simp only [Act.put, zS]
                    obtain ⟨u30', rfl, -⟩ := j8
                    refine zV 9 ⟨some 285, .move (.tmp 294), 63, "law.go:588", #[⟨8, .data⟩], none⟩ rfl ?_
                    simp only [Act.put, zS]
                    refine zV 10 ⟨some 295, .extract (.tmp 285) 0, 41, "law.go:588", #[⟨9, .data⟩], none⟩ rfl ?_
                    simp only [Act.put, zS]
                    refine zV 11 ⟨some 296, .extract (.tmp 285) 1, 3, "law.go:588", #[⟨9, .data⟩, { on := 13, ground := Ground.gcOnly Departure.lateStores }], none⟩ rfl ?_
                    simp only [Act.put, zS]
                    refine zV 12 ⟨some 297, .extract (.tmp 285) 2, 29, "law.go:588", #[⟨9, .data⟩, { on := 14, ground := Ground.gcOnly Departure.lateStores }], none⟩ rfl ?_
                    simp only [Act.put, zS]
                    refine zV 13 ⟨some 30, .assign (.tmp 295), 41, "law.go:588", #[⟨10, .data⟩, ⟨8, .chain⟩, ⟨0, .phase⟩, ⟨1, .phase⟩, ⟨2, .phase⟩, ⟨3, .phase⟩, ⟨4, .phase⟩, ⟨5, .phase⟩, ⟨6, .phase⟩, ⟨7, .phase⟩, ⟨8, .phase⟩, ⟨9, .phase⟩, ⟨10, .phase⟩, { on := 11, ground := Ground.textOnly Departure.lateStores }, { on := 12, ground := Ground.textOnly Departure.lateStores }], none⟩ rfl ?_
                    simp only [Act.put, zS]
                    refine zV 14 ⟨some 31, .assign (.tmp 296), 3, "law.go:588", #[⟨11, .data⟩, ⟨13, .chain⟩, ⟨0, .phase⟩, ⟨1, .phase⟩, ⟨2, .phase⟩, ⟨3, .phase⟩, ⟨4, .phase⟩, ⟨5, .phase⟩, ⟨6, .phase⟩, ⟨7, .phase⟩, ⟨8, .phase⟩, ⟨9, .phase⟩, ⟨10, .phase⟩, ⟨11, .phase⟩, { on := 12, ground := Ground.textOnly Departure.lateStores }, ⟨13, .phase⟩], none⟩ rfl ?_
                    simp only [Act.put, zS]
                    refine zV 15 ⟨some 32, .assign (.tmp 297), 29, "law.go:588", #[⟨12, .data⟩, ⟨14, .chain⟩, ⟨0, .phase⟩, ⟨1, .phase⟩, ⟨2, .phase⟩, ⟨3, .phase⟩, ⟨4, .phase⟩, ⟨5, .phase⟩, ⟨6, .phase⟩, ⟨7, .phase⟩, ⟨8, .phase⟩, ⟨9, .phase⟩, ⟨10, .phase⟩, ⟨11, .phase⟩, ⟨12, .phase⟩, ⟨13, .phase⟩, ⟨14, .phase⟩], none⟩ rfl ?_
                    simp only [Act.put, zS]
                    refine wpAnyE_done (by kernel_rfl) (fun wy4 hE => ?_) _
                    have hbz4 := bthen hbj3 hE
                    have c4 := cellb c4 hE
                    have hA2 := hA2.carry hE
                    have hO := hO.carry hE
                    have j5 := j5.carry hE
                    have j7 := j7.carry hE
                    clear hE
                    have hb2 := hbz4
                    obtain ⟨W18, hW18⟩ : ∃ v, v = wy4 := ⟨_, rfl⟩
                    rw [← hW18] at hb2 ⊢
                    clear hW18
                    clear hA2 hO c4 j5 j7 qn qw qw2
                    go_wp2_with fail
                    go_meet
                    exact hb2
                   ·have d0 : ¬ (0 : Int) < (k : Int) := by omega
                    go_wp2_with fail
                    go_meet
                    exact Below.refl _ _
                  case rest =>
                   have KD := bthen HKC.out hcut
                   go_wp2
                   go_ret
                   exact ⟨rfl, bthen K2.out KD⟩
          ·have z : (E != 0) = true := by rw [bne_iff_ne]; exact hE0
           clear hE0
           go_wp2_with fail
           refine (TA.out W4 (HP.out.carry (bthen K2.out hb)) (HH.out.carry (bthen K2.out hb))).mono ?_
           rintro e w2 ⟨rfl, hb2⟩
           go_wp2
           go_ret
           exact ⟨rfl, bthen K2.out (bthen hb hb2)⟩
end Go.Proofs.YtjcmohfpenfepaaGreatDoor

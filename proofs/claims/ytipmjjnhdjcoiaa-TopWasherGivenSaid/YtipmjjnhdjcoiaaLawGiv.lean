/- The law TopWasherGiven. Printed by gen/gvL.py. -/
import Derived.Test.YtipmjjnhdjcoiaaGvX
import Derived.Test.YtipmjjnhdjcoiaaOrdJ
namespace Go.Proofs.Ytipmjjnhdjcoiaa
set_option linter.unusedSimpArgs false
set_option linter.unusedVariables false
open Go.RowKit

theorem toldJ {P : Program} {f : FuncId} {args : Array Value} {w : World} {S R : Value → World → Prop} (h : Calls P f args w fun r w' => (∃ u, r = .returned u ∧ S u w') ∧ Below w.heap.size w w') (hc : ∀ u w', S u w' → R u w') :
    Calls P f args w (fun e w'' => ∃ v, e = .returned v ∧ R v w'' ∧ Ext w w'') :=
  h.mono fun _ _ ⟨⟨u, hu, hs⟩, hb⟩ => ⟨u, hu, hc _ _ hs, hb⟩
/-- what Merged answers. -/
def MrgR (l1 l2 : List P2) (v : Value) (w : World) : Prop := ∃ u e, v = .tuple #[u, .int .i64 e] ∧ ((lrgB l1 l2 = true ∧ e = 4) ∨ (lrgB l1 l2 = false ∧ e = 0 ∧ Prs w u (mrgL l1 l2)))
structure MgD (l1 l2 : List P2) (e : Int) (u : Value) (w : World) : Prop where
  d : (lrgB l1 l2 = true ∧ e = 4) ∨ (lrgB l1 l2 = false ∧ e = 0 ∧ Prs w u (mrgL l1 l2))
theorem MgD.carry {l1 l2 : List P2} {e : Int} {u : Value} {w w' : World} (h : MgD l1 l2 e u w) (hb : Below w.heap.size w w') : MgD l1 l2 e u w' := by
  rcases h.d with h | ⟨h1, h2, h3⟩
  · exact ⟨.inl h⟩
  · exact ⟨.inr ⟨h1, h2, h3.carry hb⟩⟩
theorem Blk.twoG {w : World} {B : Nat} {T : TypeId} {a b : Value} (h : Blk w B T [a, b]) : w.cell? ⟨B, 0, none⟩ = some a ∧ w.cell? ⟨B, 1, none⟩ = some b := ⟨h.cell rfl, h.cell rfl⟩
theorem neqIv (x y : Int) (w : World) : Sem.run Try.prog (binOp .neq 45 (.agg #[.int .i64 x, .int .i64 y]) (.agg #[.int .i64 x, .int .i64 y])) w = .ok (.bool false) w := by
  go_simp
/-- an order as the law wants it. -/
def GoodO (x : P2) : Prop := (1 ≤ x.1 ∧ x.1 ≤ 60) ∧ 0 ≤ x.2
theorem Try.infORef : (Try.prog.info? 33).map (fun i => (i.zero, i.size, i.bytes)) = some (some (.agg #[.int .i64 0, .int .i64 0]), 2, 16) := by kernel_rfl
theorem Try.undORef : Try.prog.underlying 24 = some (.slice 33) := by kernel_rfl
set_option maxRecDepth 100000 in
set_option maxHeartbeats 16000000 in
theorem giv_law (a b c : Int) (v1 v2 v3 : Value) (l1 l2 : List P2) (l3 : List Int) (w : World) (h1 : Prs w v1 l1) (h2 : Prs w v2 l2) (h3 : Ints w v3 l3) :
    Calls Try.prog 3 #[.agg #[.int .i64 a, .int .i64 b, .int .i64 c], .agg #[v1, v2], v3] w fun e w' => e = .returned (.bool true) ∧ Below w.heap.size w w' := by
  have TD := Lib.hid (fun W => washerDroop_any W)
  have TL := Lib.hid (fun W => CheckLossesR_any a b c W)
  have HZ := Lib.hid (losE_zero (a := a) (b := b) (c := c))
  obtain ⟨E, hE⟩ : ∃ e, e = losE a b c := ⟨_, rfl⟩
  rw [← hE] at TL HZ
  clear hE
  have HV1 := Lib.hid h1
  have HV2 := Lib.hid h2
  have HV3 := Lib.hid h3
  obtain ⟨s1, c1, rfl, -⟩ := h1.slice
  obtain ⟨s2, c2, rfl, -⟩ := h2.slice
  obtain ⟨s3, c3, rfl, -⟩ := id h3
  obtain ⟨n1, hn1⟩ : ∃ n, n = l1.length := ⟨_, rfl⟩
  obtain ⟨n2, hn2⟩ : ∃ n, n = l2.length := ⟨_, rfl⟩
  obtain ⟨n3, hn3⟩ : ∃ n, n = l3.length := ⟨_, rfl⟩
  rw [← hn1] at HV1 ⊢
  rw [← hn2] at HV2 ⊢
  rw [← hn3] at HV3 ⊢
  have HN1 := Lib.hid hn1
  have HN2 := Lib.hid hn2
  have HN3 := Lib.hid hn3
  clear h1 h2 h3 hn1 hn2 hn3
  go_enter Try.func3, Try.ntmps3
  go_upto_region 1 with fail
  obtain ⟨W1, hW1⟩ : ∃ v, v = World.alloc w (Obj.cells #[.int .i64 a, .int .i64 b, .int .i64 c] 23) := ⟨_, rfl⟩
  have kW1 : Below w.heap.size w W1 := by rw [hW1]; exact below_new _ _
  have iW1 : Blk W1 (w.heap.size) 23 [.int .i64 a, .int .i64 b, .int .i64 c] := by rw [hW1]; exact Blk.new _ _ _
  have sW1 : W1.heap.size = w.heap.size + 1 := by rw [hW1]; simp
  rw [← hW1]
  clear hW1
  obtain ⟨W2, hW2⟩ : ∃ v, v = World.alloc W1 (Obj.cells #[.slice s1 n1 c1, .slice s2 n2 c2] 25) := ⟨_, rfl⟩
  have kW2 : Below W1.heap.size W1 W2 := by rw [hW2]; exact below_new _ _
  have iW2 : Blk W2 (w.heap.size + 1) 25 [.slice s1 n1 c1, .slice s2 n2 c2] := by rw [hW2, ← sW1]; exact Blk.new _ _ _
  have sW2 : W2.heap.size = w.heap.size + 1 + 1 := by rw [hW2]; simp [sW1]
  rw [← hW2]
  clear hW2
  have hB := bthen kW1 kW2
  have iX := iW1.carry kW2
  have iL := iW2
  clear iW1 iW2 kW1 kW2 sW1 sW2
  have x0 := iX.cell (j := 0) (v := .int .i64 a) rfl
  have x1 := iX.cell (j := 1) (v := .int .i64 b) rfl
  have x2 := iX.cell (j := 2) (v := .int .i64 c) rfl
  go_wp2_with fail
  refine (TL.out _).mono ?_
  rintro e w3 ⟨rfl, hb3⟩
  have iX := iX.carry hb3
  have iL := iL.carry hb3
  have hB := bthen hB hb3
  clear TL hb3 x0 x1 x2
  have y0 := iL.cell (j := 0) (v := .slice s1 n1 c1) rfl
  have y1 := iL.cell (j := 1) (v := .slice s2 n2 c2) rfl
  by_cases hz : E = 0
  · have HOK := Lib.hid (HZ.out.1 hz)
    subst hz
    by_cases hg1 : n1 ≤ 6
    · have g1 : decide ((6 : Int) < (n1 : Int)) = false := decide_eq_false (by omega)
      by_cases hg2 : n2 ≤ 6
      · have g2 : decide ((6 : Int) < (n2 : Int)) = false := decide_eq_false (by omega)
        have TO1 := Lib.hid (CheckOrdersR_any (.slice s1 n1 c1) l1 w3 (by rw [← HN1.out]; omega) (HV1.out.carry hB))
        go_wp2_with fail
        refine TO1.out.mono ?_
        rintro e w4 ⟨⟨e1, rfl, he1⟩, hb4⟩
        have iX := iX.carry hb4
        have iL := iL.carry hb4
        have hB := bthen hB hb4
        have HE1 := Lib.hid he1
        clear TO1 hb4 y0 y1 he1
        have y0 := iL.cell (j := 0) (v := .slice s1 n1 c1) rfl
        have y1 := iL.cell (j := 1) (v := .slice s2 n2 c2) rfl
        by_cases hz1 : e1 = 0
        · subst hz1
          have HO1 := Lib.hid (HE1.out.1 rfl)
          clear HE1
          have TO2 := Lib.hid (CheckOrdersR_any (.slice s2 n2 c2) l2 w4 (by rw [← HN2.out]; omega) (HV2.out.carry hB))
          go_wp2_with fail
          refine TO2.out.mono ?_
          rintro e w5 ⟨⟨e2, rfl, he2⟩, hb5⟩
          have iX := iX.carry hb5
          have iL := iL.carry hb5
          have hB := bthen hB hb5
          have HE2 := Lib.hid he2
          clear TO2 hb5 y0 y1 he2
          have y0 := iL.cell (j := 0) (v := .slice s1 n1 c1) rfl
          have y1 := iL.cell (j := 1) (v := .slice s2 n2 c2) rfl
          by_cases hz2 : e2 = 0
          · subst hz2
            have HO2 := Lib.hid (HE2.out.1 rfl)
            clear HE2
            by_cases hg3 : n3 ≤ 10
            · have g3 : decide ((10 : Int) < (n3 : Int)) = false := decide_eq_false (by omega)
              have TP := Lib.hid (CheckPowersR_any a b c (.slice s3 n3 c3) l3 w5 (by rw [← HN3.out]; omega) (HV3.out.below hB) HOK.out)
              have x0 := iX.cell (j := 0) (v := .int .i64 a) rfl
              have x1 := iX.cell (j := 1) (v := .int .i64 b) rfl
              have x2 := iX.cell (j := 2) (v := .int .i64 c) rfl
              go_wp2_with fail
              refine TP.out.mono ?_
              rintro e w6 ⟨⟨e3, rfl, he3⟩, hb6⟩
              have iX := iX.carry hb6
              have iL := iL.carry hb6
              have hB := bthen hB hb6
              have HE3 := Lib.hid he3
              clear TP hb6 y0 y1 he3 x0 x1 x2 g1 g2 g3
              by_cases hz3 : e3 = 0
              · subst hz3
                have HP3 := Lib.hid (HE3.out.1 rfl)
                clear HE3
                have y0 := iL.cell (j := 0) (v := .slice s1 n1 c1) rfl
                have y1 := iL.cell (j := 1) (v := .slice s2 n2 c2) rfl
                obtain ⟨i5, hi5, hz5, hz6, hz7⟩ := info_parts Try.infORef
                have hV1 := HV1.out.carry hB
                have hV2 := HV2.out.carry hB
                go_upto_region 4 with fail
                refine wp_region_held_drew (S := (fun W => W.cell? ⟨w.heap.size + 1, 0, none⟩ = some (.slice s1 n1 c1) ∧ W.cell? ⟨w.heap.size + 1, 1, none⟩ = some (.slice s2 n2 c2))) (by kernel_rfl) ⟨cellb y0 (Below.refl _ _).drew, cellb y1 (Below.refl _ _).drew⟩ (fun hHeld0 => ?_)
                obtain ⟨wzd, hwz⟩ : ∃ v, v = w6.drew := ⟨_, rfl⟩
                rw [← hwz] at hHeld0 ⊢
                have hbzd : Below w6.heap.size w6 wzd := by rw [hwz]; exact (Below.refl _ _).drew
                have hlzd : Below w6.heap.size w6 wzd := by rw [hwz]; exact (Below.refl _ _).drew
                clear hwz hlzd
                refine wpAnyH_take (i := 1) (oi := { dst := some 72, op := Op.indexAddr 25 (Operand.tmp 4) (Operand.const (Value.int IntKind.i64 0)), type := 0, pos := "top05_wt47d.go:85", after := #[], guard := none }) (v := ?_) rfl (by kernel_rfl) (by kernel_rfl) (by kernel_rfl) (fun _ _ _ h => h) (Or.inl ⟨by rfl, ?_⟩) (by assumption) ?_
                rotate_left
                · (intro w hSw; (try dsimp only at hSw); go_simp); (try with_reducible rfl)
                try simp only [Act.put, List.setIfInBounds_toArray, List.set_cons_zero, List.set_cons_succ]
                refine wpAnyH_take (i := 2) (oi := { dst := some 73, op := Op.load 24 (Operand.tmp 72), type := 24, pos := "top05_wt47d.go:85", after := #[{ on := 1, ground := Ground.data }], guard := none }) (v := ?_) rfl (by kernel_rfl) (by kernel_rfl) (by kernel_rfl) (fun _ _ _ h => h) (Or.inl ⟨by rfl, ?_⟩) (by assumption) ?_
                rotate_left
                · (intro w hSw; (try dsimp only at hSw); go_simp); (try with_reducible rfl)
                try simp only [Act.put, List.setIfInBounds_toArray, List.set_cons_zero, List.set_cons_succ]
                refine wpAnyH_take (i := 4) (oi := { dst := some 75, op := Op.indexAddr 25 (Operand.tmp 4) (Operand.const (Value.int IntKind.i64 1)), type := 0, pos := "top05_wt47d.go:85", after := #[], guard := none }) (v := ?_) rfl (by kernel_rfl) (by kernel_rfl) (by kernel_rfl) (fun _ _ _ h => h) (Or.inl ⟨by rfl, ?_⟩) (by assumption) ?_
                rotate_left
                · (intro w hSw; (try dsimp only at hSw); go_simp); (try with_reducible rfl)
                try simp only [Act.put, List.setIfInBounds_toArray, List.set_cons_zero, List.set_cons_succ]
                refine wpAnyH_take (i := 5) (oi := { dst := some 76, op := Op.load 24 (Operand.tmp 75), type := 24, pos := "top05_wt47d.go:85", after := #[{ on := 4, ground := Ground.data }], guard := none }) (v := ?_) rfl (by kernel_rfl) (by kernel_rfl) (by kernel_rfl) (fun _ _ _ h => h) (Or.inl ⟨by rfl, ?_⟩) (by assumption) ?_
                rotate_left
                · (intro w hSw; (try dsimp only at hSw); go_simp); (try with_reducible rfl)
                try simp only [Act.put, List.setIfInBounds_toArray, List.set_cons_zero, List.set_cons_succ]
                refine wpAnyH_take (i := 8) (oi := { dst := some 79, op := Op.move (Operand.const (Value.int IntKind.i64 0)), type := 3, pos := "top05_wt47d.go:85", after := #[], guard := none }) (v := ?_) rfl (by kernel_rfl) (by kernel_rfl) (by kernel_rfl) (fun _ _ _ h => h) (Or.inl ⟨by rfl, ?_⟩) (by assumption) ?_
                rotate_left
                · (intro w hSw; (try dsimp only at hSw); go_simp); (try with_reducible rfl)
                try simp only [Act.put, List.setIfInBounds_toArray, List.set_cons_zero, List.set_cons_succ]
                refine wpAnyH_ready (rs := [0]) (by kernel_rfl) (by simp) ?_
                refine (AllReadyH.cons (o := { dst := some 71, op := Op.buildSlice 24 0 #[], type := 24, pos := "top05_wt47d.go:85", after := #[], guard := none }) rfl (fun K hK => ?_) AllReadyH.nil)
                go_simp
                obtain ⟨wz0, hwz⟩ : ∃ v, v = wzd.alloc (Obj.cells #[] 33) := ⟨_, rfl⟩
                rw [← hwz]
                have hl : Below wzd.heap.size wzd wz0 := by rw [hwz]; exact below_new _ _
                have hbz0 := bthen hbzd hl
                have iN : Blk wz0 wzd.heap.size 33 [] := by rw [hwz]; exact Blk.new _ _ _
                have hGg : w6.heap.size ≤ wzd.heap.size := (hbzd).size
                generalize wzd.heap.size = G at iN hGg ⊢
                clear hwz
                clear hl
                refine hK.out _ _ ⟨cellb y0 hbz0, cellb y1 hbz0⟩ (fun hHeld1 => ?_)
                clear hK K hHeld0
                try simp only [Act.put, List.setIfInBounds_toArray, List.set_cons_zero, List.set_cons_succ]
                refine wpAnyH_ready (rs := [3]) (by kernel_rfl) (by simp) ?_
                refine (AllReadyH.cons (o := { dst := some 74, op := Op.call { callee := Callee.builtin Builtin.append, args := #[Operand.tmp 71, Operand.tmp 73], argTypes := #[24, 24] }, type := 24, pos := "top05_wt47d.go:85", after := #[{ on := 0, ground := Ground.data }, { on := 2, ground := Ground.data }], guard := none }) rfl (fun K hK => ?_) AllReadyH.nil)
                obtain ⟨u3, wz3, hr3, ho3, hl3⟩ := run_append_freshP wz0 24 24 33 i5 _ Try.undORef hi5 hz5 hz6 hz7 rfl w6.heap.size G iN hGg (.slice s1 n1 c1) l1 (hV1.carry hbz0) (by rw [← HN1.out]; omega)
                refine wp_append_run (.tmp 71) (.tmp 73) 24 rfl rfl rfl hr3 ?_
                have hbz3 := bthen hbz0 hl3
                refine hK.out _ _ ⟨cellb y0 hbz3, cellb y1 hbz3⟩ (fun hHeld2 => ?_)
                clear hK K hHeld1
                try simp only [Act.put, List.setIfInBounds_toArray, List.set_cons_zero, List.set_cons_succ]
                refine wpAnyH_ready (rs := [6]) (by kernel_rfl) (by simp) ?_
                refine (AllReadyH.cons (o := { dst := some 77, op := Op.call { callee := Callee.builtin Builtin.append, args := #[Operand.tmp 74, Operand.tmp 76], argTypes := #[24, 24] }, type := 24, pos := "top05_wt47d.go:85", after := #[{ on := 3, ground := Ground.data }, { on := 5, ground := Ground.data }, { on := 3, ground := Ground.chain }], guard := none }) rfl (fun K hK => ?_) AllReadyH.nil)
                obtain ⟨u6, wz6, hr6, ho6, hl6⟩ := run_append_ontoP wz3 24 24 33 i5 _ Try.undORef hi5 hz5 hz6 hz7 rfl w6.heap.size (hbz3).size u3 (.slice s2 n2 c2) l1 l2 ho3 (hV2.carry hbz3) (by rw [← HN1.out]; omega) (by rw [← HN2.out]; omega)
                obtain ⟨NF, hNF⟩ : ∃ n, n = (l1 ++ l2).length := ⟨_, rfl⟩
                rw [← hNF] at ho6
                have HNF := Lib.hid hNF
                clear hNF
                obtain ⟨a6, q6, rfl⟩ := own_slice ho6
                refine wp_append_run (.tmp 74) (.tmp 76) 24 rfl rfl rfl hr6 ?_
                have hbz6 := (hbz3).trans hl6
                refine hK.out _ _ ⟨cellb y0 hbz6, cellb y1 hbz6⟩ (fun hHeld3 => ?_)
                clear hK K hHeld2
                try simp only [Act.put, List.setIfInBounds_toArray, List.set_cons_zero, List.set_cons_succ]
                refine wpAnyH_take (i := 7) (oi := { dst := some 78, op := Op.call { callee := Callee.builtin Builtin.len, args := #[Operand.tmp 77], argTypes := #[24] }, type := 3, pos := "top05_wt47d.go:85", after := #[{ on := 6, ground := Ground.data }], guard := none }) (v := ?_) rfl (by kernel_rfl) (by kernel_rfl) (by kernel_rfl) (fun _ _ _ h => h) (Or.inl ⟨by rfl, ?_⟩) (by assumption) ?_
                rotate_left
                · (intro w hSw; (try dsimp only at hSw); go_simp); (try with_reducible rfl)
                try simp only [Act.put, List.setIfInBounds_toArray, List.set_cons_zero, List.set_cons_succ]
                refine wpAnyH_done (by kernel_rfl) ?_ _
                clear hHeld3
                have hb7 := hbz6
                obtain ⟨w7, hw7⟩ : ∃ v, v = wz6 := ⟨_, rfl⟩
                rw [← hw7] at hb7 ho6 ⊢
                clear hw7
                have iX := iX.carry hb7
                have iL := iL.carry hb7
                have hB := bthen hB hb7
                have hP7 : Prs w7 (.slice a6 NF q6) (l1 ++ l2) := Rw.of_own pV_len ho6 HNF.out
                have hfl : NF ≤ 12 := by rw [HNF.out, List.length_append, ← HN1.out, ← HN2.out]; omega
                obtain ⟨FL, hFL⟩ : ∃ l, l = l1 ++ l2 := ⟨_, rfl⟩
                rw [← hFL] at hP7 HNF
                have HFL := Lib.hid hFL
                have HP7 := Lib.hid hP7
                clear hFL hP7 ho6 hb7 y0 y1 hV1 hV2 hi5 hz5 hz6 hz7
                go_wp2_with fail
                go_loopw [79] (fun i wr => ∃ k : Nat, k ≤ NF ∧ i = .int .i64 k ∧ (∀ x ∈ FL.take k, GoodO x) ∧ Below w7.heap.size w7 wr) (fun i _ => NF - (intOf i).toNat)
                case atStart => exact ⟨0, by omega, rfl, by simp, Below.refl _ _⟩
                case round =>
                  obtain ⟨k, hk, rfl, hgood, hbel⟩ := hrel
                  by_cases hlt : k < NF
                  · have hdk : (k : Int) < (NF : Int) := by omega
                    obtain ⟨x, hx⟩ : ∃ x, FL[k]? = some x := ⟨_, List.getElem?_eq_getElem (by rw [← HNF.out]; exact hlt)⟩
                    obtain ⟨b9, off, cp', he, hcs⟩ := (HP7.out.carry hbel).head (by rw [← HNF.out]; omega)
                    simp only [Value.slice.injEq] at he
                    obtain ⟨rfl, -, rfl⟩ := he
                    obtain ⟨d0, d1⟩ := rw2 (hcs k x hx) (show pV x = [.int .i64 x.1, .int .i64 x.2] from rfl)
                    have HG1 := Lib.hid (fun (h : GoodO x) (y : P2) (hy : y ∈ FL.take (k + 1)) => (by
                      rw [List.take_add_one, hx, List.mem_append] at hy
                      rcases hy with hy | hy
                      · exact hgood y hy
                      · simp at hy; subst hy; exact h : GoodO y))
                    clear hcs hx hgood
                    go_upto_region 7 with fail
                    obtain ⟨V1, hV1⟩ : ∃ v, v = World.alloc wr (Obj.cells #[.int .i64 x.1, .int .i64 x.2] 33) := ⟨_, rfl⟩
                    have kV1 : Below wr.heap.size wr V1 := by rw [hV1]; exact below_new _ _
                    have iV1 : Blk V1 (wr.heap.size) 33 [.int .i64 x.1, .int .i64 x.2] := by rw [hV1]; exact Blk.new _ _ _
                    have sV1 : V1.heap.size = wr.heap.size + 1 := by rw [hV1]; simp
                    rw [← hV1]
                    clear hV1
                    have e0 := iV1.cell (j := 0) (v := .int .i64 x.1) rfl
                    have e1 := iV1.cell (j := 1) (v := .int .i64 x.2) rfl
                    have hbel := bthen hbel kV1
                    have hBB := bthen hB hbel
                    clear d0 d1 kV1 iV1 sV1
                    by_cases p0 : x.2 < 0
                    · have q0 : decide (x.2 < 0) = true := decide_eq_true p0
                      go_wp2_with fail
                      refine (TD.out _).mono ?_
                      rintro e w9 ⟨rfl, hb9⟩
                      go_wp2
                      go_ret
                      exact ⟨rfl, bthen hBB hb9⟩
                    · have q0 : decide (x.2 < 0) = false := decide_eq_false p0
                      by_cases p1 : 60 < x.1
                      · have q1 : decide (60 < x.1) = true := decide_eq_true p1
                        go_wp2_with fail
                        refine (TD.out _).mono ?_
                        rintro e w9 ⟨rfl, hb9⟩
                        go_wp2
                        go_ret
                        exact ⟨rfl, bthen hBB hb9⟩
                      · have q1 : decide (60 < x.1) = false := decide_eq_false p1
                        by_cases p2 : x.1 < 1
                        · have q2 : decide (x.1 < 1) = true := decide_eq_true p2
                          go_wp2_with fail
                          refine (TD.out _).mono ?_
                          rintro e w9 ⟨rfl, hb9⟩
                          go_wp2
                          go_ret
                          exact ⟨rfl, bthen hBB hb9⟩
                        · have q2 : decide (x.1 < 1) = false := decide_eq_false p2
                          have HG2 := Lib.hid (HG1.out ⟨by omega, by omega⟩)
                          go_wp2
                          go_roundw
                          case rel => exact ⟨k + 1, by omega, by go_num, HG2.out, hbel⟩
                          case measure => simp [intOf]; omega
                  · obtain rfl : k = NF := by omega
                    have hdk : ¬ (k : Int) < (k : Int) := by omega
                    rw [List.take_of_length_le (by rw [HNF.out]; exact Nat.le_refl _)] at hgood
                    have HGD := Lib.hid hgood
                    have iX := iX.carry hbel
                    have iL := iL.carry hbel
                    have hB := bthen hB hbel
                    obtain ⟨W8, hW8⟩ : ∃ W, W = wr := ⟨_, rfl⟩
                    subst hW8
                    clear hgood hbel
                    have y0 := iL.cell (j := 0) (v := .slice s1 n1 c1) rfl
                    have y1 := iL.cell (j := 1) (v := .slice s2 n2 c2) rfl
                    have hV1 := HV1.out.carry hB
                    have hV2 := HV2.out.carry hB
                    have TO1 := Lib.hid (fun W (h : Prs W (.slice s1 n1 c1) l1) => toldJ (R := fun u W => Prs W u l1) (ordersC_any (.slice s1 n1 c1) l1 W (by rw [← HN1.out]; omega) h) (fun _ _ h => h.rw pV_len))
                    have TO2 := Lib.hid (fun W (h : Prs W (.slice s2 n2 c2) l2) => toldJ (R := fun u W => Prs W u l2) (ordersC_any (.slice s2 n2 c2) l2 W (by rw [← HN2.out]; omega) h) (fun _ _ h => h.rw pV_len))
                    have TMg := Lib.hid (fun u1 u2 W (hh1 : Prs W u1 l1) (hh2 : Prs W u2 l2) => ((Merged_any u1 u2 l1 l2 W hh1 hh2 HO1.out HO2.out (by rw [← HN1.out]; exact hg1) (by rw [← HN2.out]; exact hg2)).mono (fun _ _ ⟨⟨u, e, hr, hs⟩, hb⟩ => ⟨_, hr, ⟨u, e, rfl, hs⟩, hb⟩) : Calls _ _ _ W fun e w'' => ∃ v, e = .returned v ∧ MrgR l1 l2 v w'' ∧ Ext W w''))
                    have hent := Try.enterGiv1
                    go_upto_region 10 with fail
                    refine wp_region_E 99 (by kernel_rfl) ?_
                    obtain ⟨wz, hwz⟩ : ∃ v, v = W8.drew := ⟨_, rfl⟩
                    rw [← hwz]
                    have hlz : Below W8.heap.size W8 wz := by rw [hwz]; exact (Below.refl _ _).drew
                    have hbz := bthen (Below.refl _ _) hlz
                    have y0 := cellb y0 hlz
                    have y1 := cellb y1 hlz
                    have hV1 := hV1.carry hlz
                    have hV2 := hV2.carry hlz
                    clear hwz hlz
                    refine wpAnyE_take (i := 0) (oi := { dst := some 99, op := Op.move (Operand.tmp 7), type := 35, pos := "top05_wt47d.go:90", after := #[], guard := none }) (v := ?_) rfl (by kernel_rfl) (by kernel_rfl) (by kernel_rfl) (by kernel_rfl) (fun _ _ _ h => h) (Or.inl ⟨by rfl, ?_⟩) ?_
                    rotate_left
                    · (intro w hE; (try dsimp only); go_simp); (try with_reducible rfl)
                    try simp only [Act.put, List.setIfInBounds_toArray, List.set_cons_zero, List.set_cons_succ]
                    refine wpAnyE_take (i := 1) (oi := { dst := some 100, op := Op.indexAddr 25 (Operand.tmp 4) (Operand.const (Value.int IntKind.i64 0)), type := 0, pos := "top05_wt47d.go:90", after := #[], guard := none }) (v := ?_) rfl (by kernel_rfl) (by kernel_rfl) (by kernel_rfl) (by kernel_rfl) (fun _ _ _ h => h) (Or.inl ⟨by rfl, ?_⟩) ?_
                    rotate_left
                    · (intro w hE; (try dsimp only); go_simp); (try with_reducible rfl)
                    try simp only [Act.put, List.setIfInBounds_toArray, List.set_cons_zero, List.set_cons_succ]
                    refine wpAnyE_take (i := 2) (oi := { dst := some 101, op := Op.load 24 (Operand.tmp 100), type := 24, pos := "top05_wt47d.go:90", after := #[{ on := 1, ground := Ground.data }], guard := none }) (v := ?_) rfl (by kernel_rfl) (by kernel_rfl) (by kernel_rfl) (by kernel_rfl) (fun _ _ _ h => h) (Or.inl ⟨by rfl, ?_⟩) ?_
                    rotate_left
                    · (intro w hE; have y0 := cellb y0 hE; have y1 := cellb y1 hE; (try dsimp only); go_simp); (try with_reducible rfl)
                    try simp only [Act.put, List.setIfInBounds_toArray, List.set_cons_zero, List.set_cons_succ]
                    refine wpAnyE_take (i := 4) (oi := { dst := some 103, op := Op.move (Operand.tmp 7), type := 35, pos := "top05_wt47d.go:90", after := #[], guard := none }) (v := ?_) rfl (by kernel_rfl) (by kernel_rfl) (by kernel_rfl) (by kernel_rfl) (fun _ _ _ h => h) (Or.inl ⟨by rfl, ?_⟩) ?_
                    rotate_left
                    · (intro w hE; (try dsimp only); go_simp); (try with_reducible rfl)
                    try simp only [Act.put, List.setIfInBounds_toArray, List.set_cons_zero, List.set_cons_succ]
                    refine wpAnyE_take (i := 5) (oi := { dst := some 104, op := Op.indexAddr 25 (Operand.tmp 4) (Operand.const (Value.int IntKind.i64 1)), type := 0, pos := "top05_wt47d.go:90", after := #[], guard := none }) (v := ?_) rfl (by kernel_rfl) (by kernel_rfl) (by kernel_rfl) (by kernel_rfl) (fun _ _ _ h => h) (Or.inl ⟨by rfl, ?_⟩) ?_
                    rotate_left
                    · (intro w hE; (try dsimp only); go_simp); (try with_reducible rfl)
                    try simp only [Act.put, List.setIfInBounds_toArray, List.set_cons_zero, List.set_cons_succ]
                    refine wpAnyE_take (i := 6) (oi := { dst := some 105, op := Op.load 24 (Operand.tmp 104), type := 24, pos := "top05_wt47d.go:90", after := #[{ on := 5, ground := Ground.data }], guard := none }) (v := ?_) rfl (by kernel_rfl) (by kernel_rfl) (by kernel_rfl) (by kernel_rfl) (fun _ _ _ h => h) (Or.inl ⟨by rfl, ?_⟩) ?_
                    rotate_left
                    · (intro w hE; have y0 := cellb y0 hE; have y1 := cellb y1 hE; (try dsimp only); go_simp); (try with_reducible rfl)
                    try simp only [Act.put, List.setIfInBounds_toArray, List.set_cons_zero, List.set_cons_succ]
                    refine wpAnyE_call1 (i := 3) (R := (fun u W => Prs W u l1)) (by kernel_rfl) (show _ = some { dst := some 102, op := Op.call { callee := Callee.value (Operand.tmp 99), args := #[Operand.tmp 101], argTypes := #[24] }, type := 31, pos := "top05_wt47d.go:90", after := #[{ on := 0, ground := Ground.data }, { on := 2, ground := Ground.data }], guard := none } from rfl) (yieldsR (fun w hE => TO1.out w (hV1.carry hE)))  (fun v3 wj1 hE j3 => ?_) 
                    have y0 := cellb y0 hE
                    have y1 := cellb y1 hE
                    have hV1 := hV1.carry hE
                    have hV2 := hV2.carry hE
                    have hbj1 := bthen hbz hE
                    clear hE
                    try simp only [Act.put, List.setIfInBounds_toArray, List.set_cons_zero, List.set_cons_succ]
                    refine wpAnyE_call1 (i := 7) (R := (fun u W => Prs W u l2)) (by kernel_rfl) (show _ = some { dst := some 106, op := Op.call { callee := Callee.value (Operand.tmp 103), args := #[Operand.tmp 105], argTypes := #[24] }, type := 31, pos := "top05_wt47d.go:90", after := #[{ on := 4, ground := Ground.data }, { on := 6, ground := Ground.data }, { on := 3, ground := Ground.chain }], guard := none } from rfl) (yieldsR (fun w hE => TO2.out w (hV2.carry hE)))  (fun v7 wj2 hE j7 => ?_) 
                    have y0 := cellb y0 hE
                    have y1 := cellb y1 hE
                    have hV1 := hV1.carry hE
                    have hV2 := hV2.carry hE
                    have j3 := j3.carry hE
                    have hbj2 := bthen hbj1 hE
                    clear hE
                    try simp only [Act.put, List.setIfInBounds_toArray, List.set_cons_zero, List.set_cons_succ]
                    refine wpAnyE_call1 (i := 8) (R := (fun u W => MrgR l1 l2 u W)) (by kernel_rfl) (show _ = some { dst := some 107, op := Op.call { callee := Callee.value (Operand.func 9), args := #[Operand.tmp 102, Operand.tmp 106], argTypes := #[31, 31] }, type := 37, pos := "top05_wt47d.go:90", after := #[{ on := 3, ground := Ground.data }, { on := 7, ground := Ground.data }, { on := 7, ground := Ground.chain }], guard := none } from rfl) (yieldsR (fun w hE => TMg.out v3 v7 w (j3.carry hE) (j7.carry hE)))  (fun v8 wj3 hE j8 => ?_) 
                    have y0 := cellb y0 hE
                    have y1 := cellb y1 hE
                    have hV1 := hV1.carry hE
                    have hV2 := hV2.carry hE
                    have j3 := j3.carry hE
                    have j7 := j7.carry hE
                    have hbj3 := bthen hbj2 hE
                    clear hE
                    try simp only [Act.put, List.setIfInBounds_toArray, List.set_cons_zero, List.set_cons_succ]
                    obtain ⟨mu, me, rfl, hme0⟩ := j8
                    have hme : MgD l1 l2 me mu wj3 := ⟨hme0⟩
                    clear hme0
                    refine wpAnyE_take (i := 9) (oi := { dst := some 98, op := Op.move (Operand.tmp 107), type := 37, pos := "top05_wt47d.go:90", after := #[{ on := 8, ground := Ground.data }], guard := none }) (v := ?_) rfl (by kernel_rfl) (by kernel_rfl) (by kernel_rfl) (by kernel_rfl) (fun _ _ _ h => h) (Or.inl ⟨by rfl, ?_⟩) ?_
                    rotate_left
                    · (intro w hE; (try dsimp only); go_simp); (try with_reducible rfl)
                    try simp only [Act.put, List.setIfInBounds_toArray, List.set_cons_zero, List.set_cons_succ]
                    refine wpAnyE_take (i := 10) (oi := { dst := some 108, op := Op.extract (Operand.tmp 98) 0, type := 31, pos := "top05_wt47d.go:90", after := #[{ on := 9, ground := Ground.data }], guard := none }) (v := ?_) rfl (by kernel_rfl) (by kernel_rfl) (by kernel_rfl) (by kernel_rfl) (fun _ _ _ h => h) (Or.inl ⟨by rfl, ?_⟩) ?_
                    rotate_left
                    · (intro w hE; (try dsimp only); go_simp); (try with_reducible rfl)
                    try simp only [Act.put, List.setIfInBounds_toArray, List.set_cons_zero, List.set_cons_succ]
                    refine wpAnyE_take (i := 11) (oi := { dst := some 109, op := Op.extract (Operand.tmp 98) 1, type := 36, pos := "top05_wt47d.go:90", after := #[{ on := 9, ground := Ground.data }, { on := 12, ground := Ground.gcOnly Departure.lateStores }], guard := none }) (v := ?_) rfl (by kernel_rfl) (by kernel_rfl) (by kernel_rfl) (by kernel_rfl) (fun _ _ _ h => h) (Or.inl ⟨by rfl, ?_⟩) ?_
                    rotate_left
                    · (intro w hE; (try dsimp only); go_simp); (try with_reducible rfl)
                    try simp only [Act.put, List.setIfInBounds_toArray, List.set_cons_zero, List.set_cons_succ]
                    refine wpAnyE_take (i := 12) (oi := { dst := some 10, op := Op.assign (Operand.tmp 108), type := 31, pos := "top05_wt47d.go:90", after := #[{ on := 10, ground := Ground.data }, { on := 8, ground := Ground.chain }, { on := 0, ground := Ground.phase }, { on := 1, ground := Ground.phase }, { on := 2, ground := Ground.phase }, { on := 3, ground := Ground.phase }, { on := 4, ground := Ground.phase }, { on := 5, ground := Ground.phase }, { on := 6, ground := Ground.phase }, { on := 7, ground := Ground.phase }, { on := 8, ground := Ground.phase }, { on := 9, ground := Ground.phase }, { on := 10, ground := Ground.phase }, { on := 11, ground := Ground.textOnly Departure.lateStores }], guard := none }) (v := ?_) rfl (by kernel_rfl) (by kernel_rfl) (by kernel_rfl) (by kernel_rfl) (fun _ _ _ h => h) (Or.inl ⟨by rfl, ?_⟩) ?_
                    rotate_left
                    · (intro w hE; (try dsimp only); go_simp); (try with_reducible rfl)
                    try simp only [Act.put, List.setIfInBounds_toArray, List.set_cons_zero, List.set_cons_succ]
                    refine wpAnyE_take (i := 13) (oi := { dst := some 11, op := Op.assign (Operand.tmp 109), type := 36, pos := "top05_wt47d.go:90", after := #[{ on := 11, ground := Ground.data }, { on := 12, ground := Ground.chain }, { on := 0, ground := Ground.phase }, { on := 1, ground := Ground.phase }, { on := 2, ground := Ground.phase }, { on := 3, ground := Ground.phase }, { on := 4, ground := Ground.phase }, { on := 5, ground := Ground.phase }, { on := 6, ground := Ground.phase }, { on := 7, ground := Ground.phase }, { on := 8, ground := Ground.phase }, { on := 9, ground := Ground.phase }, { on := 10, ground := Ground.phase }, { on := 11, ground := Ground.phase }, { on := 12, ground := Ground.phase }], guard := none }) (v := ?_) rfl (by kernel_rfl) (by kernel_rfl) (by kernel_rfl) (by kernel_rfl) (fun _ _ _ h => h) (Or.inl ⟨by rfl, ?_⟩) ?_
                    rotate_left
                    · (intro w hE; (try dsimp only); go_simp); (try with_reducible rfl)
                    try simp only [Act.put, List.setIfInBounds_toArray, List.set_cons_zero, List.set_cons_succ]
                    refine wpAnyE_done (by kernel_rfl) (fun wy4 hE => ?_) _
                    have hbz4 := bthen hbj3 hE
                    have y0 := cellb y0 hE
                    have y1 := cellb y1 hE
                    have hV1 := hV1.carry hE
                    have hV2 := hV2.carry hE
                    have j3 := j3.carry hE
                    have j7 := j7.carry hE
                    have hme := hme.carry hE
                    clear hE
                    have hb9 := hbz4
                    obtain ⟨W9, hW9⟩ : ∃ v, v = wy4 := ⟨_, rfl⟩
                    rw [← hW9] at hb9 hme ⊢
                    clear hW9
                    have iX := iX.carry hb9
                    have iL := iL.carry hb9
                    have hB := bthen hB hb9
                    clear hb9 y0 y1 hV1 hV2 TO1 TO2 TMg hent
                    rcases hme.d with ⟨hlr, rfl⟩ | ⟨hlr, rfl, hmp⟩
                    · clear hme
                      go_wp2_with fail
                      refine (TD.out _).mono ?_
                      rintro e w9 ⟨rfl, hb9⟩
                      go_wp2
                      go_ret
                      exact ⟨rfl, bthen hB hb9⟩
                    · clear hme
                      have hgo : ∀ x ∈ l1 ++ l2, (1 ≤ x.1 ∧ x.1 ≤ 60) ∧ 0 ≤ x.2 ∧ x.2 ≤ 1000 := fun x hx => by
                        have hh1 := HGD.out x (by rw [HFL.out]; exact hx)
                        have hh2 : x.2 ≤ 1000 := by
                          rcases List.mem_append.1 hx with h | h
                          · exact (HO1.out.mem h).2.2
                          · exact (HO2.out.mem h).2.2
                        exact ⟨hh1.1, hh1.2, hh2⟩
                      have hrp := mrg_rp (by rw [← HN1.out]; exact hg1) (by rw [← HN2.out]; exact hg2) hgo hlr
                      have HMEM := Lib.hid (mem_mrgL l1 l2)
                      have hra1 := fun t => askL_rng (l := l1) (a := -1000) (b := 1000) (by omega) (fun x hx => (HO1.out.mem hx).2) t
                      have hra2 := fun t => askL_rng (l := l2) (a := -1000) (b := 1000) (by omega) (fun x hx => (HO2.out.mem hx).2) t
                      have HRA1 := Lib.hid hra1
                      have HRA2 := Lib.hid hra2
                      obtain ⟨M, hM⟩ : ∃ m, m = mrgL l1 l2 := ⟨_, rfl⟩
                      rw [← hM] at hmp hrp HMEM
                      have HRP := Lib.hid hrp
                      obtain ⟨ma, mc, rfl, -⟩ := hmp.slice
                      have hm12 := hrp.len
                      obtain ⟨NM, hNM⟩ : ∃ n, n = M.length := ⟨_, rfl⟩
                      rw [← hNM] at hmp hm12 ⊢
                      have HNM := Lib.hid hNM
                      have HMP := Lib.hid hmp
                      obtain ⟨i0, hi, hz0, hz1, hz2⟩ := info_parts Try.infZflowOrder
                      have kn := below_new W9 (.cells #[] 34)
                      obtain ⟨u13, w13, hr13, ho13, hl13⟩ := run_append_freshP (P := Try.prog) (W9.alloc (.cells #[] 34)) 31 31 34 i0 _ Try.undZflowOrder hi hz0 hz1 hz2 rfl 0 W9.heap.size (Blk.new W9 34 []) (Nat.zero_le _) (.slice ma NM mc) M (hmp.carry kn) (by rw [← hNM]; omega)
                      have hb13 := bthen kn hl13
                      have hp13 : Prs w13 u13 M := Rw.of_own pV_len ho13 rfl
                      have HR13 := Lib.hid hr13
                      have TR := Lib.hid (RampG_any u13 M w13 hp13 hrp)
                      have iX := iX.carry hb13
                      have iL := iL.carry hb13
                      have hB := bthen hB hb13
                      have hM13 := hmp.carry hb13
                      clear hgo hlr hrp hM hNM hmp hi hz0 hz1 hz2 kn hr13 ho13 hl13 hp13 hra1 hra2
                      go_wp2_with (at_builtin; refine Lib.wpList_append_run _ rfl _ _ _ _ rfl _ _ rfl rfl _ _ HR13.out ?_)
                      refine TR.out.mono ?_
                      rintro e w14 ⟨⟨ur, rfl, hur⟩, hb14⟩
                      have iX := iX.carry hb14
                      have iL := iL.carry hb14
                      have hB := bthen hB hb14
                      have hM14 := hM13.carry hb14
                      have hrl := gmpL_len M 62
                      have hrg : ∀ k : Nat, k < 62 → (gmpL M 62)[k]? = some (rmpG M (k : Int)) := fun k hk => by simp [gmpL, hk]
                      have hrr : ∀ x ∈ gmpL M 62, 0 ≤ x ∧ x ≤ 1000 := fun x hx => by
                        unfold gmpL at hx
                        obtain ⟨k, -, rfl⟩ := List.mem_map.1 hx
                        exact rmpG_rng HRP.out _
                      obtain ⟨RL, hRL⟩ : ∃ l, l = gmpL M 62 := ⟨_, rfl⟩
                      rw [← hRL] at hur hrl hrg hrr
                      obtain ⟨ra, rc, hre, -⟩ := id hur
                      rw [hrl] at hre
                      subst hre
                      have HUR := Lib.hid hur
                      have HRL := Lib.hid hrl
                      have HRG := Lib.hid hrg
                      have HRR := Lib.hid hrr
                      have HM14 := Lib.hid hM14
                      have HX := Lib.hid iX
                      have HL := Lib.hid iL
                      have HB := Lib.hid hB
                      clear TR HR13 hb13 hb14 hM13 hM14 hur hrl hrg hrr hRL iX iL hB
                      go_wp2_with fail
                      go_loopw [134] (fun i wr => ∃ k : Nat, k ≤ NM ∧ i = .int .i64 k ∧ Below w14.heap.size w14 wr) (fun i _ => NM - (intOf i).toNat)
                      case atStart => exact ⟨0, by omega, rfl, Below.refl _ _⟩
                      case round =>
                        obtain ⟨k, hk, rfl, hbel⟩ := hrel
                        by_cases hlt : k < NM
                        · have hdk : (k : Int) < (NM : Int) := by omega
                          obtain ⟨y, hy⟩ : ∃ y, M[k]? = some y := ⟨_, List.getElem?_eq_getElem (by rw [← HNM.out]; exact hlt)⟩
                          obtain ⟨b9, off, cp', he, hcs⟩ := (HM14.out.carry hbel).head (by rw [← HNM.out]; omega)
                          simp only [Value.slice.injEq] at he
                          obtain ⟨rfl, -, rfl⟩ := he
                          obtain ⟨d0, d1⟩ := rw2 (hcs k y hy) (show pV y = [.int .i64 y.1, .int .i64 y.2] from rfl)
                          have hyr := (HRP.out.rng k y hy).1
                          have hyv := rmpG_at HRP.out hy
                          have hys := ((HMEM.out y).1 (List.mem_of_getElem? hy)).2
                          obtain ⟨t, p⟩ := y
                          dsimp only at d0 d1 hyr hyv hys
                          obtain ⟨T, rfl⟩ := Int.eq_ofNat_of_zero_le (show 0 ≤ t by omega)
                          have hcr := HRG.out T (by omega)
                          rw [hyv] at hcr
                          obtain ⟨rb, ro, rcap, hre, hrcs⟩ := (HUR.out.below hbel).head (by rw [HRL.out]; omega)
                          rw [HRL.out] at hre
                          simp only [Value.slice.injEq] at hre
                          obtain ⟨rfl, -, rfl⟩ := hre
                          have cr := hrcs T (by rw [HRL.out]; omega)
                          rw [hcr, Option.getD_some] at cr
                          have iL := HL.out.carry hbel
                          have y0 := iL.cell (j := 0) (v := .slice s1 n1 c1) rfl
                          have y1 := iL.cell (j := 1) (v := .slice s2 n2 c2) rfl
                          have hB := bthen HB.out hbel
                          have hV1 := HV1.out.carry hB
                          have hV2 := HV2.out.carry hB
                          have TA1 := Lib.hid (fun W (h : Prs W (.slice s1 n1 c1) l1) => AskedR_any (.slice s1 n1 c1) l1 (T : Int) W (by rw [← HN1.out]; omega) h)
                          have TA2 := Lib.hid (fun W (h : Prs W (.slice s2 n2 c2) l2) => AskedR_any (.slice s2 n2 c2) l2 (T : Int) W (by rw [← HN2.out]; omega) h)
                          have hq1 := HRA1.out (T : Int)
                          have hq2 := HRA2.out (T : Int)
                          obtain ⟨QA, hQA⟩ : ∃ q, q = askL l1 (T : Int) := ⟨_, rfl⟩
                          obtain ⟨QB, hQB⟩ : ∃ q, q = askL l2 (T : Int) := ⟨_, rfl⟩
                          rw [← hQA] at TA1 hys hq1
                          rw [← hQB] at TA2 hys hq2
                          have q1 : IntKind.i64.wrap (QA + QB) = p := by rw [show p = QA + QB from hys]; exact IntWalk.i64_in _ (by omega)
                          have q2 : decide ((T : Int) < 0) = false := by simp
                          have q3 : decide ((61 : Int) < (T : Int)) = false := decide_eq_false (by omega)
                          have q4 : (0 : Int) ≤ (T : Int) := by omega
                          have q5 : (T : Int) < 62 := by omega
                          have Q1 := Lib.hid q1
                          clear hcs hy hyr hyv hys hcr hrcs hq1 hq2 hQA hQB iL q1
                          go_upto_region 19 with fail
                          obtain ⟨V1, hV1⟩ : ∃ v, v = World.alloc wr (Obj.cells #[.int .i64 (T : Int), .int .i64 p] 34) := ⟨_, rfl⟩
                          have kV1 : Below wr.heap.size wr V1 := by rw [hV1]; exact below_new _ _
                          have iV1 : Blk V1 (wr.heap.size) 34 [.int .i64 (T : Int), .int .i64 p] := by rw [hV1]; exact Blk.new _ _ _
                          have sV1 : V1.heap.size = wr.heap.size + 1 := by rw [hV1]; simp
                          rw [← hV1]
                          clear hV1
                          have e0 := iV1.cell (j := 0) (v := .int .i64 (T : Int)) rfl
                          have hbel := bthen hbel kV1
                          have y0 := cellb y0 kV1
                          have y1 := cellb y1 kV1
                          have cr := cellb cr kV1
                          have hV1 := hV1.carry kV1
                          have hV2 := hV2.carry kV1
                          have q1 := Q1.out
                          clear d0 d1 kV1 iV1 sV1 hB
                          refine wp_region_E 99 (by kernel_rfl) ?_
                          obtain ⟨wz, hwz⟩ : ∃ v, v = V1.drew := ⟨_, rfl⟩
                          rw [← hwz]
                          have hlz : Below V1.heap.size V1 wz := by rw [hwz]; exact (Below.refl _ _).drew
                          have hbz := bthen hbel hlz
                          have e0 := cellb e0 hlz
                          have y0 := cellb y0 hlz
                          have y1 := cellb y1 hlz
                          have cr := cellb cr hlz
                          have hV1 := hV1.carry hlz
                          have hV2 := hV2.carry hlz
                          clear hwz hlz
                          refine wpAnyE_take (i := 0) (oi := { dst := some 138, op := Op.fieldAddr 34 (Operand.tmp 15) 0, type := 0, pos := "top05_wt47d.go:99", after := #[], guard := none }) (v := ?_) rfl (by kernel_rfl) (by kernel_rfl) (by kernel_rfl) (by kernel_rfl) (fun _ _ _ h => h) (Or.inl ⟨by rfl, ?_⟩) ?_
                          rotate_left
                          · (intro w hE; (try dsimp only); go_simp); (try with_reducible rfl)
                          try simp only [Act.put, List.setIfInBounds_toArray, List.set_cons_zero, List.set_cons_succ]
                          refine wpAnyE_take (i := 1) (oi := { dst := some 139, op := Op.load 3 (Operand.tmp 138), type := 3, pos := "top05_wt47d.go:99", after := #[{ on := 0, ground := Ground.data }], guard := none }) (v := ?_) rfl (by kernel_rfl) (by kernel_rfl) (by kernel_rfl) (by kernel_rfl) (fun _ _ _ h => h) (Or.inl ⟨by rfl, ?_⟩) ?_
                          rotate_left
                          · (intro w hE; have e0 := cellb e0 hE; have y0 := cellb y0 hE; have y1 := cellb y1 hE; have cr := cellb cr hE; (try dsimp only); go_simp); (try with_reducible rfl)
                          try simp only [Act.put, List.setIfInBounds_toArray, List.set_cons_zero, List.set_cons_succ]
                          refine wpAnyE_take (i := 2) (oi := { dst := some 140, op := Op.binOp BinOp.lss 3 (Operand.tmp 139) (Operand.const (Value.int IntKind.i64 0)) 3, type := 4, pos := "top05_wt47d.go:99", after := #[{ on := 1, ground := Ground.data }], guard := none }) (v := ?_) rfl (by kernel_rfl) (by kernel_rfl) (by kernel_rfl) (by kernel_rfl) (fun _ _ _ h => h) (Or.inl ⟨by rfl, ?_⟩) ?_
                          rotate_left
                          · (intro w hE; (try dsimp only); go_simp); (try with_reducible rfl)
                          try simp only [Act.put, List.setIfInBounds_toArray, List.set_cons_zero, List.set_cons_succ]
                          refine wpAnyE_take (i := 3) (oi := { dst := some 141, op := Op.move (Operand.tmp 140), type := 4, pos := "top05_wt47d.go:99", after := #[{ on := 2, ground := Ground.data }], guard := none }) (v := ?_) rfl (by kernel_rfl) (by kernel_rfl) (by kernel_rfl) (by kernel_rfl) (fun _ _ _ h => h) (Or.inl ⟨by rfl, ?_⟩) ?_
                          rotate_left
                          · (intro w hE; (try dsimp only); go_simp); (try with_reducible rfl)
                          try simp only [Act.put, List.setIfInBounds_toArray, List.set_cons_zero, List.set_cons_succ]
                          refine wpAnyE_take (i := 4) (oi := { dst := some 142, op := Op.fieldAddr 34 (Operand.tmp 15) 0, type := 0, pos := "top05_wt47d.go:99", after := #[{ on := 3, ground := Ground.guard }], guard := some (3, false) }) (v := ?_) rfl (by kernel_rfl) (by kernel_rfl) (by kernel_rfl) (by kernel_rfl) (fun _ _ _ h => h) (Or.inl ⟨by rfl, ?_⟩) ?_
                          rotate_left
                          · (intro w hE; (try dsimp only); go_simp); (try with_reducible rfl)
                          try simp only [Act.put, List.setIfInBounds_toArray, List.set_cons_zero, List.set_cons_succ]
                          refine wpAnyE_take (i := 5) (oi := { dst := some 143, op := Op.load 3 (Operand.tmp 142), type := 3, pos := "top05_wt47d.go:99", after := #[{ on := 4, ground := Ground.data }, { on := 3, ground := Ground.guard }], guard := some (3, false) }) (v := ?_) rfl (by kernel_rfl) (by kernel_rfl) (by kernel_rfl) (by kernel_rfl) (fun _ _ _ h => h) (Or.inl ⟨by rfl, ?_⟩) ?_
                          rotate_left
                          · (intro w hE; have e0 := cellb e0 hE; have y0 := cellb y0 hE; have y1 := cellb y1 hE; have cr := cellb cr hE; (try dsimp only); go_simp); (try with_reducible rfl)
                          try simp only [Act.put, List.setIfInBounds_toArray, List.set_cons_zero, List.set_cons_succ]
                          refine wpAnyE_take (i := 6) (oi := { dst := some 144, op := Op.binOp BinOp.gtr 3 (Operand.tmp 143) (Operand.const (Value.int IntKind.i64 61)) 3, type := 4, pos := "top05_wt47d.go:99", after := #[{ on := 5, ground := Ground.data }, { on := 3, ground := Ground.guard }], guard := some (3, false) }) (v := ?_) rfl (by kernel_rfl) (by kernel_rfl) (by kernel_rfl) (by kernel_rfl) (fun _ _ _ h => h) (Or.inl ⟨by rfl, ?_⟩) ?_
                          rotate_left
                          · (intro w hE; (try dsimp only); go_simp); (try with_reducible rfl)
                          try simp only [Act.put, List.setIfInBounds_toArray, List.set_cons_zero, List.set_cons_succ]
                          refine wpAnyE_take (i := 7) (oi := { dst := some 145, op := Op.pick (Operand.tmp 141) (Operand.const (Value.bool true)) (Operand.tmp 144), type := 4, pos := "top05_wt47d.go:99", after := #[{ on := 3, ground := Ground.data }, { on := 6, ground := Ground.data }], guard := none }) (v := ?_) rfl (by kernel_rfl) (by kernel_rfl) (by kernel_rfl) (by kernel_rfl) (fun _ _ _ h => h) (Or.inl ⟨by rfl, ?_⟩) ?_
                          rotate_left
                          · (intro w hE; (try dsimp only); go_simp); (try with_reducible rfl)
                          try simp only [Act.put, List.setIfInBounds_toArray, List.set_cons_zero, List.set_cons_succ]
                          refine wpAnyE_take (i := 8) (oi := { dst := some 146, op := Op.move (Operand.tmp 145), type := 4, pos := "top05_wt47d.go:99", after := #[{ on := 7, ground := Ground.data }, { on := 3, ground := Ground.chain }], guard := none }) (v := ?_) rfl (by kernel_rfl) (by kernel_rfl) (by kernel_rfl) (by kernel_rfl) (fun _ _ _ h => h) (Or.inl ⟨by rfl, ?_⟩) ?_
                          rotate_left
                          · (intro w hE; (try dsimp only); go_simp); (try with_reducible rfl)
                          try simp only [Act.put, List.setIfInBounds_toArray, List.set_cons_zero, List.set_cons_succ]
                          refine wpAnyE_take (i := 9) (oi := { dst := some 147, op := Op.move (Operand.tmp 12), type := 26, pos := "top05_wt47d.go:99", after := #[{ on := 8, ground := Ground.guard }], guard := some (8, false) }) (v := ?_) rfl (by kernel_rfl) (by kernel_rfl) (by kernel_rfl) (by kernel_rfl) (fun _ _ _ h => h) (Or.inl ⟨by rfl, ?_⟩) ?_
                          rotate_left
                          · (intro w hE; (try dsimp only); go_simp); (try with_reducible rfl)
                          try simp only [Act.put, List.setIfInBounds_toArray, List.set_cons_zero, List.set_cons_succ]
                          refine wpAnyE_take (i := 10) (oi := { dst := some 148, op := Op.fieldAddr 34 (Operand.tmp 15) 0, type := 0, pos := "top05_wt47d.go:99", after := #[{ on := 8, ground := Ground.guard }], guard := some (8, false) }) (v := ?_) rfl (by kernel_rfl) (by kernel_rfl) (by kernel_rfl) (by kernel_rfl) (fun _ _ _ h => h) (Or.inl ⟨by rfl, ?_⟩) ?_
                          rotate_left
                          · (intro w hE; (try dsimp only); go_simp); (try with_reducible rfl)
                          try simp only [Act.put, List.setIfInBounds_toArray, List.set_cons_zero, List.set_cons_succ]
                          refine wpAnyE_take (i := 11) (oi := { dst := some 149, op := Op.load 3 (Operand.tmp 148), type := 3, pos := "top05_wt47d.go:99", after := #[{ on := 10, ground := Ground.data }, { on := 8, ground := Ground.guard }], guard := some (8, false) }) (v := ?_) rfl (by kernel_rfl) (by kernel_rfl) (by kernel_rfl) (by kernel_rfl) (fun _ _ _ h => h) (Or.inl ⟨by rfl, ?_⟩) ?_
                          rotate_left
                          · (intro w hE; have e0 := cellb e0 hE; have y0 := cellb y0 hE; have y1 := cellb y1 hE; have cr := cellb cr hE; (try dsimp only); go_simp); (try with_reducible rfl)
                          try simp only [Act.put, List.setIfInBounds_toArray, List.set_cons_zero, List.set_cons_succ]
                          refine wpAnyE_take (i := 12) (oi := { dst := some 150, op := Op.indexAddr 26 (Operand.tmp 147) (Operand.tmp 149), type := 0, pos := "top05_wt47d.go:99", after := #[{ on := 9, ground := Ground.data }, { on := 11, ground := Ground.data }, { on := 8, ground := Ground.guard }], guard := some (8, false) }) (v := ?_) rfl (by kernel_rfl) (by kernel_rfl) (by kernel_rfl) (by kernel_rfl) (fun _ _ _ h => h) (Or.inl ⟨by rfl, ?_⟩) ?_
                          rotate_left
                          · (intro w hE; (try dsimp only); go_simp); (try with_reducible rfl)
                          try simp only [Act.put, List.setIfInBounds_toArray, List.set_cons_zero, List.set_cons_succ]
                          refine wpAnyE_take (i := 13) (oi := { dst := some 151, op := Op.load 3 (Operand.tmp 150), type := 3, pos := "top05_wt47d.go:99", after := #[{ on := 12, ground := Ground.data }, { on := 8, ground := Ground.guard }], guard := some (8, false) }) (v := ?_) rfl (by kernel_rfl) (by kernel_rfl) (by kernel_rfl) (by kernel_rfl) (fun _ _ _ h => h) (Or.inl ⟨by rfl, ?_⟩) ?_
                          rotate_left
                          · (intro w hE; have e0 := cellb e0 hE; have y0 := cellb y0 hE; have y1 := cellb y1 hE; have cr := cellb cr hE; (try dsimp only); go_simp); (try with_reducible rfl)
                          try simp only [Act.put, List.setIfInBounds_toArray, List.set_cons_zero, List.set_cons_succ]
                          refine wpAnyE_take (i := 14) (oi := { dst := some 152, op := Op.indexAddr 25 (Operand.tmp 4) (Operand.const (Value.int IntKind.i64 0)), type := 0, pos := "top05_wt47d.go:99", after := #[{ on := 8, ground := Ground.guard }], guard := some (8, false) }) (v := ?_) rfl (by kernel_rfl) (by kernel_rfl) (by kernel_rfl) (by kernel_rfl) (fun _ _ _ h => h) (Or.inl ⟨by rfl, ?_⟩) ?_
                          rotate_left
                          · (intro w hE; (try dsimp only); go_simp); (try with_reducible rfl)
                          try simp only [Act.put, List.setIfInBounds_toArray, List.set_cons_zero, List.set_cons_succ]
                          refine wpAnyE_take (i := 15) (oi := { dst := some 153, op := Op.load 24 (Operand.tmp 152), type := 24, pos := "top05_wt47d.go:99", after := #[{ on := 14, ground := Ground.data }, { on := 8, ground := Ground.guard }], guard := some (8, false) }) (v := ?_) rfl (by kernel_rfl) (by kernel_rfl) (by kernel_rfl) (by kernel_rfl) (fun _ _ _ h => h) (Or.inl ⟨by rfl, ?_⟩) ?_
                          rotate_left
                          · (intro w hE; have e0 := cellb e0 hE; have y0 := cellb y0 hE; have y1 := cellb y1 hE; have cr := cellb cr hE; (try dsimp only); go_simp); (try with_reducible rfl)
                          try simp only [Act.put, List.setIfInBounds_toArray, List.set_cons_zero, List.set_cons_succ]
                          refine wpAnyE_take (i := 16) (oi := { dst := some 154, op := Op.fieldAddr 34 (Operand.tmp 15) 0, type := 0, pos := "top05_wt47d.go:99", after := #[{ on := 8, ground := Ground.guard }], guard := some (8, false) }) (v := ?_) rfl (by kernel_rfl) (by kernel_rfl) (by kernel_rfl) (by kernel_rfl) (fun _ _ _ h => h) (Or.inl ⟨by rfl, ?_⟩) ?_
                          rotate_left
                          · (intro w hE; (try dsimp only); go_simp); (try with_reducible rfl)
                          try simp only [Act.put, List.setIfInBounds_toArray, List.set_cons_zero, List.set_cons_succ]
                          refine wpAnyE_take (i := 17) (oi := { dst := some 155, op := Op.load 3 (Operand.tmp 154), type := 3, pos := "top05_wt47d.go:99", after := #[{ on := 16, ground := Ground.data }, { on := 8, ground := Ground.guard }], guard := some (8, false) }) (v := ?_) rfl (by kernel_rfl) (by kernel_rfl) (by kernel_rfl) (by kernel_rfl) (fun _ _ _ h => h) (Or.inl ⟨by rfl, ?_⟩) ?_
                          rotate_left
                          · (intro w hE; have e0 := cellb e0 hE; have y0 := cellb y0 hE; have y1 := cellb y1 hE; have cr := cellb cr hE; (try dsimp only); go_simp); (try with_reducible rfl)
                          try simp only [Act.put, List.setIfInBounds_toArray, List.set_cons_zero, List.set_cons_succ]
                          refine wpAnyE_take (i := 19) (oi := { dst := some 157, op := Op.indexAddr 25 (Operand.tmp 4) (Operand.const (Value.int IntKind.i64 1)), type := 0, pos := "top05_wt47d.go:99", after := #[{ on := 8, ground := Ground.guard }], guard := some (8, false) }) (v := ?_) rfl (by kernel_rfl) (by kernel_rfl) (by kernel_rfl) (by kernel_rfl) (fun _ _ _ h => h) (Or.inl ⟨by rfl, ?_⟩) ?_
                          rotate_left
                          · (intro w hE; (try dsimp only); go_simp); (try with_reducible rfl)
                          try simp only [Act.put, List.setIfInBounds_toArray, List.set_cons_zero, List.set_cons_succ]
                          refine wpAnyE_take (i := 20) (oi := { dst := some 158, op := Op.load 24 (Operand.tmp 157), type := 24, pos := "top05_wt47d.go:99", after := #[{ on := 19, ground := Ground.data }, { on := 8, ground := Ground.guard }], guard := some (8, false) }) (v := ?_) rfl (by kernel_rfl) (by kernel_rfl) (by kernel_rfl) (by kernel_rfl) (fun _ _ _ h => h) (Or.inl ⟨by rfl, ?_⟩) ?_
                          rotate_left
                          · (intro w hE; have e0 := cellb e0 hE; have y0 := cellb y0 hE; have y1 := cellb y1 hE; have cr := cellb cr hE; (try dsimp only); go_simp); (try with_reducible rfl)
                          try simp only [Act.put, List.setIfInBounds_toArray, List.set_cons_zero, List.set_cons_succ]
                          refine wpAnyE_take (i := 21) (oi := { dst := some 159, op := Op.fieldAddr 34 (Operand.tmp 15) 0, type := 0, pos := "top05_wt47d.go:99", after := #[{ on := 8, ground := Ground.guard }], guard := some (8, false) }) (v := ?_) rfl (by kernel_rfl) (by kernel_rfl) (by kernel_rfl) (by kernel_rfl) (fun _ _ _ h => h) (Or.inl ⟨by rfl, ?_⟩) ?_
                          rotate_left
                          · (intro w hE; (try dsimp only); go_simp); (try with_reducible rfl)
                          try simp only [Act.put, List.setIfInBounds_toArray, List.set_cons_zero, List.set_cons_succ]
                          refine wpAnyE_take (i := 22) (oi := { dst := some 160, op := Op.load 3 (Operand.tmp 159), type := 3, pos := "top05_wt47d.go:99", after := #[{ on := 21, ground := Ground.data }, { on := 8, ground := Ground.guard }], guard := some (8, false) }) (v := ?_) rfl (by kernel_rfl) (by kernel_rfl) (by kernel_rfl) (by kernel_rfl) (fun _ _ _ h => h) (Or.inl ⟨by rfl, ?_⟩) ?_
                          rotate_left
                          · (intro w hE; have e0 := cellb e0 hE; have y0 := cellb y0 hE; have y1 := cellb y1 hE; have cr := cellb cr hE; (try dsimp only); go_simp); (try with_reducible rfl)
                          try simp only [Act.put, List.setIfInBounds_toArray, List.set_cons_zero, List.set_cons_succ]
                          refine wpAnyE_call (i := 18) (oi := { dst := some 156, op := Op.call { callee := Callee.value (Operand.func 11), args := #[Operand.tmp 153, Operand.tmp 155], argTypes := #[24, 3] }, type := 3, pos := "top05_wt47d.go:99", after := #[{ on := 15, ground := Ground.data }, { on := 17, ground := Ground.data }, { on := 8, ground := Ground.chain }, { on := 8, ground := Ground.guard }], guard := some (8, false) }) (fun w hE => ofPure (TA1.out w (hV1.carry hE))) rfl (by kernel_rfl) (by kernel_rfl) (by kernel_rfl) (by kernel_rfl) (fun _ _ _ h => h) (by rfl) (fun w hE => by (try dsimp only); go_simp) ?_
                          try simp only [Act.put, List.setIfInBounds_toArray, List.set_cons_zero, List.set_cons_succ]
                          refine wpAnyE_call (i := 23) (oi := { dst := some 161, op := Op.call { callee := Callee.value (Operand.func 11), args := #[Operand.tmp 158, Operand.tmp 160], argTypes := #[24, 3] }, type := 3, pos := "top05_wt47d.go:99", after := #[{ on := 20, ground := Ground.data }, { on := 22, ground := Ground.data }, { on := 18, ground := Ground.chain }, { on := 8, ground := Ground.guard }], guard := some (8, false) }) (fun w hE => ofPure (TA2.out w (hV2.carry hE))) rfl (by kernel_rfl) (by kernel_rfl) (by kernel_rfl) (by kernel_rfl) (fun _ _ _ h => h) (by rfl) (fun w hE => by (try dsimp only); go_simp) ?_
                          try simp only [Act.put, List.setIfInBounds_toArray, List.set_cons_zero, List.set_cons_succ]
                          refine wpAnyE_take (i := 24) (oi := { dst := some 162, op := Op.binOp BinOp.add 3 (Operand.tmp 156) (Operand.tmp 161) 3, type := 3, pos := "top05_wt47d.go:99", after := #[{ on := 18, ground := Ground.data }, { on := 23, ground := Ground.data }, { on := 8, ground := Ground.guard }], guard := some (8, false) }) (v := ?_) rfl (by kernel_rfl) (by kernel_rfl) (by kernel_rfl) (by kernel_rfl) (fun _ _ _ h => h) (Or.inl ⟨by rfl, ?_⟩) ?_
                          rotate_left
                          · (intro w hE; (try dsimp only); go_simp); (try with_reducible rfl)
                          try simp only [Act.put, List.setIfInBounds_toArray, List.set_cons_zero, List.set_cons_succ]
                          refine wpAnyE_take (i := 25) (oi := { dst := some 163, op := Op.binOp BinOp.neq 3 (Operand.tmp 151) (Operand.tmp 162) 3, type := 4, pos := "top05_wt47d.go:99", after := #[{ on := 13, ground := Ground.data }, { on := 24, ground := Ground.data }, { on := 8, ground := Ground.guard }], guard := some (8, false) }) (v := ?_) rfl (by kernel_rfl) (by kernel_rfl) (by kernel_rfl) (by kernel_rfl) (fun _ _ _ h => h) (Or.inl ⟨by rfl, ?_⟩) ?_
                          rotate_left
                          · (intro w hE; (try dsimp only); go_simp); (try with_reducible rfl)
                          try simp only [Act.put, List.setIfInBounds_toArray, List.set_cons_zero, List.set_cons_succ]
                          refine wpAnyE_take (i := 26) (oi := { dst := some 164, op := Op.pick (Operand.tmp 146) (Operand.const (Value.bool true)) (Operand.tmp 163), type := 4, pos := "top05_wt47d.go:99", after := #[{ on := 8, ground := Ground.data }, { on := 25, ground := Ground.data }], guard := none }) (v := ?_) rfl (by kernel_rfl) (by kernel_rfl) (by kernel_rfl) (by kernel_rfl) (fun _ _ _ h => h) (Or.inl ⟨by rfl, ?_⟩) ?_
                          rotate_left
                          · (intro w hE; (try dsimp only); go_simp); (try with_reducible rfl)
                          try simp only [Act.put, List.setIfInBounds_toArray, List.set_cons_zero, List.set_cons_succ]
                          refine wpAnyE_done (by kernel_rfl) (fun wy1 hE => ?_) _
                          have hbz1 := bthen hbz hE
                          have e0 := cellb e0 hE
                          have y0 := cellb y0 hE
                          have y1 := cellb y1 hE
                          have cr := cellb cr hE
                          have hV1 := hV1.carry hE
                          have hV2 := hV2.carry hE
                          clear hE
                          have hbel := hbz1
                          obtain ⟨W8, hW8⟩ : ∃ v, v = wy1 := ⟨_, rfl⟩
                          rw [← hW8] at hbel ⊢
                          clear hW8
                          go_wp2
                          go_roundw
                          case rel => exact ⟨k + 1, by omega, by go_num, hbel⟩
                          case measure => simp [intOf]; omega
                        · obtain rfl : k = NM := by omega
                          have hdk : ¬ (k : Int) < (k : Int) := by omega
                          have iX := HX.out.carry hbel
                          have hB := bthen HB.out hbel
                          have hur := HUR.out.below hbel
                          obtain ⟨W8, hW8⟩ : ∃ W, W = wr := ⟨_, rfl⟩
                          subst hW8
                          clear hbel
                          have x0 := iX.cell (j := 0) (v := .int .i64 a) rfl
                          have x1 := iX.cell (j := 1) (v := .int .i64 b) rfl
                          have x2 := iX.cell (j := 2) (v := .int .i64 c) rfl
                          obtain ⟨i0, hi, hz0, hz1, hz2⟩ := info_parts Try.infZint
                          have TB := Lib.hid (fun u W (h : Ints W u RL) => Balance_any a b c u RL W HOK.out (by rw [HRL.out]; decide) HRR.out h)
                          have hb1 := smL_rng (f := dlLo a b c) (l := RL) (m := 1000) (by omega) (fun y hy => (dl_rng HOK.out (HRR.out y hy)).1)
                          obtain ⟨S1, hS1⟩ : ∃ s, s = smL (dlLo a b c) RL := ⟨_, rfl⟩
                          obtain ⟨S2, hS2⟩ : ∃ s, s = smL (dlHi a b c) RL := ⟨_, rfl⟩
                          rw [← hS1, ← hS2] at TB
                          have HS1 := Lib.hid hS1
                          have HS2 := Lib.hid hS2
                          clear hS1 hS2 hb1
                          go_upto_region 22 with fail
                          refine wp_region_held_drew (S := (fun W => W.cell? ⟨w.heap.size, 0, none⟩ = some (.int .i64 a) ∧ W.cell? ⟨w.heap.size, 1, none⟩ = some (.int .i64 b) ∧ W.cell? ⟨w.heap.size, 2, none⟩ = some (.int .i64 c))) (by kernel_rfl) ⟨cellb x0 (Below.refl _ _).drew, cellb x1 (Below.refl _ _).drew, cellb x2 (Below.refl _ _).drew⟩ (fun hHeld0 => ?_)
                          obtain ⟨wzd, hwz⟩ : ∃ v, v = W8.drew := ⟨_, rfl⟩
                          rw [← hwz] at hHeld0 ⊢
                          have hbzd : Below W8.heap.size W8 wzd := by rw [hwz]; exact (Below.refl _ _).drew
                          have hlzd : Below W8.heap.size W8 wzd := by rw [hwz]; exact (Below.refl _ _).drew
                          clear hwz hlzd
                          refine wpAnyH_take (i := 0) (oi := { dst := some 167, op := Op.load 23 (Operand.tmp 3), type := 23, pos := "top05_wt47d.go:103", after := #[], guard := none }) (v := ?_) rfl (by kernel_rfl) (by kernel_rfl) (by kernel_rfl) (fun _ _ _ h => h) (Or.inl ⟨by rfl, ?_⟩) (by assumption) ?_
                          rotate_left
                          · (intro w hSw; (try dsimp only at hSw); go_simp); (try with_reducible rfl)
                          try simp only [Act.put, List.setIfInBounds_toArray, List.set_cons_zero, List.set_cons_succ]
                          refine wpAnyH_take (i := 2) (oi := { dst := some 169, op := Op.move (Operand.tmp 12), type := 26, pos := "top05_wt47d.go:103", after := #[], guard := none }) (v := ?_) rfl (by kernel_rfl) (by kernel_rfl) (by kernel_rfl) (fun _ _ _ h => h) (Or.inl ⟨by rfl, ?_⟩) (by assumption) ?_
                          rotate_left
                          · (intro w hSw; (try dsimp only at hSw); go_simp); (try with_reducible rfl)
                          try simp only [Act.put, List.setIfInBounds_toArray, List.set_cons_zero, List.set_cons_succ]
                          refine wpAnyH_ready (rs := [1, 8]) (by kernel_rfl) (by simp) ?_
                          refine (AllReadyH.cons (o := { dst := some 168, op := Op.buildSlice 26 0 #[], type := 26, pos := "top05_wt47d.go:103", after := #[], guard := none }) rfl (fun K hK => ?_) (AllReadyH.cons (o := { dst := some 16, op := Op.alloc 45, type := 0, pos := "top05_wt47d.go:103", after := #[], guard := none }) rfl (fun K hK => ?_) AllReadyH.nil))
                          · go_simp
                            obtain ⟨wz1, hwz⟩ : ∃ v, v = wzd.alloc (Obj.cells #[] 3) := ⟨_, rfl⟩
                            rw [← hwz]
                            have hl : Below wzd.heap.size wzd wz1 := by rw [hwz]; exact below_new _ _
                            have hbz1 := bthen hbzd hl
                            have iN : Blk wz1 wzd.heap.size 3 [] := by rw [hwz]; exact Blk.new _ _ _
                            generalize wzd.heap.size = G1 at iN ⊢
                            clear hwz
                            clear hl
                            refine hK.out _ _ ⟨cellb x0 hbz1, cellb x1 hbz1, cellb x2 hbz1⟩ (fun hHeld1 => ?_)
                            clear hK K hHeld0
                            try simp only [Act.put, List.setIfInBounds_toArray, List.set_cons_zero, List.set_cons_succ]
                            refine wpAnyH_ready (rs := [3, 8]) (by kernel_rfl) (by simp) ?_
                            refine (AllReadyH.cons (o := { dst := some 170, op := Op.call { callee := Callee.builtin Builtin.append, args := #[Operand.tmp 168, Operand.tmp 169], argTypes := #[26, 26] }, type := 26, pos := "top05_wt47d.go:103", after := #[{ on := 1, ground := Ground.data }, { on := 2, ground := Ground.data }], guard := none }) rfl (fun K hK => ?_) (AllReadyH.cons (o := { dst := some 16, op := Op.alloc 45, type := 0, pos := "top05_wt47d.go:103", after := #[], guard := none }) rfl (fun K hK => ?_) AllReadyH.nil))
                            · obtain ⟨u3, wz3, hr3, ho3, hl⟩ := run_append_freshI (P := Try.prog) wz1 26 26 26 3 i0 _ Try.undZint Try.undZint hi hz0 hz1 hz2 rfl G1 iN (.slice ra 62 rc) RL (hur.below hbz1) (by rw [HRL.out]; decide)
                              refine wp_append_run (.tmp 168) (.tmp 169) 26 rfl rfl rfl hr3 ?_
                              have hbz3 := bthen hbz1 hl
                              have iN := iN.carry hl
                              clear hl
                              refine hK.out _ _ ⟨cellb x0 hbz3, cellb x1 hbz3, cellb x2 hbz3⟩ (fun hHeld2 => ?_)
                              clear hK K hHeld1
                              try simp only [Act.put, List.setIfInBounds_toArray, List.set_cons_zero, List.set_cons_succ]
                              refine wpAnyH_ready (rs := [4, 8]) (by kernel_rfl) (by simp) ?_
                              refine (AllReadyH.cons (o := { dst := some 171, op := Op.call { callee := Callee.value (Operand.func 12), args := #[Operand.tmp 167, Operand.tmp 170], argTypes := #[48, 26] }, type := 46, pos := "top05_wt47d.go:103", after := #[{ on := 0, ground := Ground.data }, { on := 3, ground := Ground.data }, { on := 3, ground := Ground.chain }], guard := none }) rfl (fun K hK => ?_) (AllReadyH.cons (o := { dst := some 16, op := Op.alloc 45, type := 0, pos := "top05_wt47d.go:103", after := #[], guard := none }) rfl (fun K hK => ?_) AllReadyH.nil))
                              · go_simp
                                refine (TB.out u3 wz3 ho3.ints).mono ?_
                                rintro e wz4 ⟨rfl, hl⟩
                                (try go_wp2_with fail)
                                have hbz4 := bthen hbz3 hl
                                have iN := iN.carry hl
                                have ho3 := ho3.carry hl
                                clear hl
                                refine hK.out _ _ ⟨cellb x0 hbz4, cellb x1 hbz4, cellb x2 hbz4⟩ (fun hHeld3 => ?_)
                                clear hK K hHeld2
                                try simp only [Act.put, List.setIfInBounds_toArray, List.set_cons_zero, List.set_cons_succ]
                                refine wpAnyH_take (i := 5) (oi := { dst := some 166, op := Op.move (Operand.tmp 171), type := 46, pos := "top05_wt47d.go:103", after := #[{ on := 4, ground := Ground.data }], guard := none }) (v := ?_) rfl (by kernel_rfl) (by kernel_rfl) (by kernel_rfl) (fun _ _ _ h => h) (Or.inl ⟨by rfl, ?_⟩) (by assumption) ?_
                                rotate_left
                                · (intro w hSw; (try dsimp only at hSw); go_simp); (try with_reducible rfl)
                                try simp only [Act.put, List.setIfInBounds_toArray, List.set_cons_zero, List.set_cons_succ]
                                refine wpAnyH_take (i := 6) (oi := { dst := some 172, op := Op.extract (Operand.tmp 166) 0, type := 45, pos := "top05_wt47d.go:103", after := #[{ on := 5, ground := Ground.data }], guard := none }) (v := ?_) rfl (by kernel_rfl) (by kernel_rfl) (by kernel_rfl) (fun _ _ _ h => h) (Or.inl ⟨by rfl, ?_⟩) (by assumption) ?_
                                rotate_left
                                · (intro w hSw; (try dsimp only at hSw); go_simp); (try with_reducible rfl)
                                try simp only [Act.put, List.setIfInBounds_toArray, List.set_cons_zero, List.set_cons_succ]
                                refine wpAnyH_take (i := 7) (oi := { dst := some 173, op := Op.extract (Operand.tmp 166) 1, type := 36, pos := "top05_wt47d.go:103", after := #[{ on := 5, ground := Ground.data }, { on := 9, ground := Ground.gcOnly Departure.lateStores }], guard := none }) (v := ?_) rfl (by kernel_rfl) (by kernel_rfl) (by kernel_rfl) (fun _ _ _ h => h) (Or.inl ⟨by rfl, ?_⟩) (by assumption) ?_
                                rotate_left
                                · (intro w hSw; (try dsimp only at hSw); go_simp); (try with_reducible rfl)
                                try simp only [Act.put, List.setIfInBounds_toArray, List.set_cons_zero, List.set_cons_succ]
                                refine wpAnyH_ready (rs := [8]) (by kernel_rfl) (by simp) ?_
                                refine (AllReadyH.cons (o := { dst := some 16, op := Op.alloc 45, type := 0, pos := "top05_wt47d.go:103", after := #[], guard := none }) rfl (fun K hK => ?_) AllReadyH.nil)
                                go_simp
                                obtain ⟨wz8, hwz⟩ : ∃ v, v = wz4.alloc (Obj.cells #[.int .i64 0, .int .i64 0] 45) := ⟨_, rfl⟩
                                rw [← hwz]
                                have hl : Below wz4.heap.size wz4 wz8 := by rw [hwz]; exact below_new _ _
                                have hbz8 := bthen hbz4 hl
                                have iC : Blk wz8 wz4.heap.size 45 [.int .i64 0, .int .i64 0] := by rw [hwz]; exact Blk.new _ _ _
                                have hGc : W8.heap.size ≤ wz4.heap.size := (hbz4).size
                                generalize wz4.heap.size = GC at iC hGc ⊢
                                clear hwz
                                have iN := iN.carry hl
                                have ho3 := ho3.carry hl
                                clear hl
                                refine hK.out _ _ ⟨cellb x0 hbz8, cellb x1 hbz8, cellb x2 hbz8⟩ (fun hHeld4 => ?_)
                                clear hK K hHeld3
                                try simp only [Act.put, List.setIfInBounds_toArray, List.set_cons_zero, List.set_cons_succ]
                                refine wpAnyH_ready (rs := [9]) (by kernel_rfl) (by simp) ?_
                                refine (AllReadyH.cons (o := { dst := none, op := Op.store 45 (Operand.tmp 16) (Operand.tmp 172), type := 0, pos := "top05_wt47d.go:103", after := #[{ on := 8, ground := Ground.data }, { on := 6, ground := Ground.data }, { on := 4, ground := Ground.chain }, { on := 0, ground := Ground.phase }, { on := 1, ground := Ground.phase }, { on := 2, ground := Ground.phase }, { on := 3, ground := Ground.phase }, { on := 4, ground := Ground.phase }, { on := 5, ground := Ground.phase }, { on := 6, ground := Ground.phase }, { on := 7, ground := Ground.textOnly Departure.lateStores }, { on := 8, ground := Ground.phase }], guard := none }) rfl (fun K hK => ?_) AllReadyH.nil)
                                have c0 := iC.cell (j := 0) (v := .int .i64 0) rfl
                                have c1 := iC.cell (j := 1) (v := .int .i64 0) rfl
                                have f0 := iC.frozen 0
                                have f1 := iC.frozen 1
                                go_simp
                                obtain ⟨wz9, hwz⟩ : ∃ v, v = (wz8.setCell ⟨GC, 0, none⟩ (.int .i64 S1)).setCell ⟨GC, 1, none⟩ (.int .i64 S2) := ⟨_, rfl⟩
                                rw [← hwz]
                                have hbz9 : Below W8.heap.size W8 wz9 := by rw [hwz]; exact (hbz8.setCell (p := ⟨GC, 0, none⟩) (by simp only; exact hGc) _).setCell (p := ⟨GC, 1, none⟩) (by simp only; exact hGc) _
                                have iC := iC.set2 (.int .i64 S1) (.int .i64 S2)
                                rw [← hwz] at iC
                                clear hwz
                                refine hK.out _ _ ⟨cellb x0 hbz9, cellb x1 hbz9, cellb x2 hbz9⟩ (fun hHeld5 => ?_)
                                clear hK K hHeld4
                                try simp only [Act.put, List.setIfInBounds_toArray, List.set_cons_zero, List.set_cons_succ]
                                refine wpAnyH_take (i := 10) (oi := { dst := some 17, op := Op.assign (Operand.tmp 173), type := 36, pos := "top05_wt47d.go:103", after := #[{ on := 7, ground := Ground.data }, { on := 9, ground := Ground.chain }, { on := 0, ground := Ground.phase }, { on := 1, ground := Ground.phase }, { on := 2, ground := Ground.phase }, { on := 3, ground := Ground.phase }, { on := 4, ground := Ground.phase }, { on := 5, ground := Ground.phase }, { on := 6, ground := Ground.phase }, { on := 7, ground := Ground.phase }, { on := 8, ground := Ground.phase }, { on := 9, ground := Ground.phase }], guard := none }) (v := ?_) rfl (by kernel_rfl) (by kernel_rfl) (by kernel_rfl) (fun _ _ _ h => h) (Or.inl ⟨by rfl, ?_⟩) (by assumption) ?_
                                rotate_left
                                · (intro w hSw; (try dsimp only at hSw); go_simp); (try with_reducible rfl)
                                try simp only [Act.put, List.setIfInBounds_toArray, List.set_cons_zero, List.set_cons_succ]
                                refine wpAnyH_done (by kernel_rfl) ?_ _
                                clear hHeld5
                                have hb20 := hbz9
                                obtain ⟨w20, hW20⟩ : ∃ v, v = wz9 := ⟨_, rfl⟩
                                rw [← hW20] at hb20 iC ⊢
                                clear hW20
                                have hX2 := iX.carry hb20
                                have hB2 := bthen hB hb20
                                have hU2 := hur.below hb20
                                have HX2 := Lib.hid hX2
                                have HB2 := Lib.hid hB2
                                have HU2 := Lib.hid hU2
                                have HC := Lib.hid iC
                                have TLs := Lib.hid (fun p hp W => Loss_any a b c p W HOK.out hp)
                                clear x0 x1 x2 hX2 hB2 hU2 iX hB hur hb20 iC TB hi hz0 hz1 hz2
                                go_wp2_with fail
                                go_loopw [18, 19, 178] (fun z1 z2 i wr => ∃ k : Nat, k ≤ 62 ∧ i = .int .i64 k ∧ z1 = .int .i64 (smL (dlLo a b c) (RL.take k)) ∧ z2 = .int .i64 (smL (dlHi a b c) (RL.take k)) ∧ Below w20.heap.size w20 wr) (fun _ _ i _ => 62 - (intOf i).toNat)
                                case atStart => exact ⟨0, by omega, rfl, rfl, rfl, Below.refl _ _⟩
                                case round =>
                                  obtain ⟨k, hk, rfl, rfl, rfl, hbel⟩ := hrel
                                  have b1 := smL_rng (f := dlLo a b c) (l := RL.take k) (m := 1000) (by omega) (fun y hy => (dl_rng HOK.out (HRR.out y (List.mem_of_mem_take hy))).1)
                                  have b2 := smL_rng (f := dlHi a b c) (l := RL.take k) (m := 1000) (by omega) (fun y hy => (dl_rng HOK.out (HRR.out y (List.mem_of_mem_take hy))).2)
                                  rw [List.length_take, HRL.out, Nat.min_eq_left hk] at b1 b2
                                  have iX := HX2.out.carry hbel
                                  by_cases hlt : k < 62
                                  · have hdk : (k : Int) < 62 := by omega
                                    obtain ⟨p, hp⟩ : ∃ p, RL[k]? = some p := ⟨_, List.getElem?_eq_getElem (by rw [HRL.out]; exact hlt)⟩
                                    obtain ⟨rb, ro, rcap, hre, hrcs⟩ := (HU2.out.below hbel).head (by rw [HRL.out]; omega)
                                    rw [HRL.out] at hre
                                    simp only [Value.slice.injEq] at hre
                                    obtain ⟨rfl, -, rfl⟩ := hre
                                    have c0 := hrcs k (by rw [HRL.out]; exact hlt)
                                    rw [hp, Option.getD_some] at c0
                                    have hpr := HRR.out p (List.mem_of_getElem? hp)
                                    have e1 := smL_take (dlLo a b c) hp
                                    have e2 := smL_take (dlHi a b c) hp
                                    rw [show dlLo a b c p = max 0 (p - losHi a b c p) from rfl] at e1
                                    rw [show dlHi a b c p = max 0 (p - losLo a b c p) from rfl] at e2
                                    have hlr := los_rng HOK.out hpr
                                    have TN := Lib.hid (TLs.out p hpr)
                                    obtain ⟨A1, hA1⟩ : ∃ s, s = smL (dlLo a b c) (RL.take k) := ⟨_, rfl⟩
                                    obtain ⟨A2, hA2⟩ : ∃ s, s = smL (dlHi a b c) (RL.take k) := ⟨_, rfl⟩
                                    obtain ⟨LO, hLO⟩ : ∃ s, s = losLo a b c p := ⟨_, rfl⟩
                                    obtain ⟨HI, hHI⟩ : ∃ s, s = losHi a b c p := ⟨_, rfl⟩
                                    rw [← hA1] at b1 e1 ⊢
                                    rw [← hA2] at b2 e2 ⊢
                                    rw [← hLO] at hlr e2 TN
                                    rw [← hHI] at hlr e1 TN
                                    have E1 := Lib.hid e1
                                    have E2 := Lib.hid e2
                                    have k1 : IntKind.i64.wrap (p - HI) = p - HI := IntWalk.i64_in _ (by omega)
                                    have k2 : IntKind.i64.wrap (p - LO) = p - LO := IntWalk.i64_in _ (by omega)
                                    have k3 : IntKind.i64.wrap (A1 + max 0 (p - HI)) = A1 + max 0 (p - HI) := IntWalk.i64_in _ (by omega)
                                    have k4 : IntKind.i64.wrap (A2 + max 0 (p - LO)) = A2 + max 0 (p - LO) := IntWalk.i64_in _ (by omega)
                                    have x0 := iX.cell (j := 0) (v := .int .i64 a) rfl
                                    have x1 := iX.cell (j := 1) (v := .int .i64 b) rfl
                                    have x2 := iX.cell (j := 2) (v := .int .i64 c) rfl
                                    clear hrcs hp hpr e1 e2 hlr hA1 hA2 hLO hHI b1 b2 iX
                                    go_wp2_with fail
                                    refine (TN.out _).mono ?_
                                    rintro e w5 ⟨rfl, hb5⟩
                                    have hbel := bthen hbel hb5
                                    clear c0 x0 x1 x2 TN hb5
                                    go_upto_region 30 with fail
                                    obtain ⟨V1, hV1⟩ : ∃ v, v = World.alloc w5 (Obj.cells #[.int .i64 LO, .int .i64 HI] 45) := ⟨_, rfl⟩
                                    have kV1 : Below w5.heap.size w5 V1 := by rw [hV1]; exact below_new _ _
                                    have iV1 : Blk V1 (w5.heap.size) 45 [.int .i64 LO, .int .i64 HI] := by rw [hV1]; exact Blk.new _ _ _
                                    have sV1 : V1.heap.size = w5.heap.size + 1 := by rw [hV1]; simp
                                    rw [← hV1]
                                    clear hV1
                                    have d0 := iV1.cell (j := 0) (v := .int .i64 LO) rfl
                                    have d1 := iV1.cell (j := 1) (v := .int .i64 HI) rfl
                                    have hbel := bthen hbel kV1
                                    clear kV1 iV1 sV1
                                    go_upto_region 32 with fail
                                    refine wp_region_held_drew (S := (fun W => W.cell? ⟨w5.heap.size, 0, none⟩ = some (.int .i64 LO) ∧ W.cell? ⟨w5.heap.size, 1, none⟩ = some (.int .i64 HI))) (by kernel_rfl) ⟨cellb d0 (Below.refl _ _).drew, cellb d1 (Below.refl _ _).drew⟩ (fun hHeld0 => ?_)
                                    obtain ⟨wzd, hwz⟩ : ∃ v, v = V1.drew := ⟨_, rfl⟩
                                    rw [← hwz] at hHeld0 ⊢
                                    have hbzd : Below V1.heap.size V1 wzd := by rw [hwz]; exact (Below.refl _ _).drew
                                    have hlzd : Below V1.heap.size V1 wzd := by rw [hwz]; exact (Below.refl _ _).drew
                                    clear hwz hlzd
                                    refine wpAnyH_take (i := 0) (oi := { dst := some 190, op := Op.move (Operand.tmp 18), type := 3, pos := "top05_wt47d.go:113", after := #[], guard := none }) (v := ?_) rfl (by kernel_rfl) (by kernel_rfl) (by kernel_rfl) (fun _ _ _ h => h) (Or.inl ⟨by rfl, ?_⟩) (by assumption) ?_
                                    rotate_left
                                    · (intro w hSw; (try dsimp only at hSw); go_simp); (try with_reducible rfl)
                                    try simp only [Act.put, List.setIfInBounds_toArray, List.set_cons_zero, List.set_cons_succ]
                                    refine wpAnyH_take (i := 1) (oi := { dst := some 191, op := Op.move (Operand.tmp 21), type := 3, pos := "top05_wt47d.go:113", after := #[], guard := none }) (v := ?_) rfl (by kernel_rfl) (by kernel_rfl) (by kernel_rfl) (fun _ _ _ h => h) (Or.inl ⟨by rfl, ?_⟩) (by assumption) ?_
                                    rotate_left
                                    · (intro w hSw; (try dsimp only at hSw); go_simp); (try with_reducible rfl)
                                    try simp only [Act.put, List.setIfInBounds_toArray, List.set_cons_zero, List.set_cons_succ]
                                    refine wpAnyH_take (i := 2) (oi := { dst := some 192, op := Op.fieldAddr 45 (Operand.tmp 22) 1, type := 0, pos := "top05_wt47d.go:113", after := #[], guard := none }) (v := ?_) rfl (by kernel_rfl) (by kernel_rfl) (by kernel_rfl) (fun _ _ _ h => h) (Or.inl ⟨by rfl, ?_⟩) (by assumption) ?_
                                    rotate_left
                                    · (intro w hSw; (try dsimp only at hSw); go_simp); (try with_reducible rfl)
                                    try simp only [Act.put, List.setIfInBounds_toArray, List.set_cons_zero, List.set_cons_succ]
                                    refine wpAnyH_take (i := 3) (oi := { dst := some 193, op := Op.load 3 (Operand.tmp 192), type := 3, pos := "top05_wt47d.go:113", after := #[{ on := 2, ground := Ground.data }], guard := none }) (v := ?_) rfl (by kernel_rfl) (by kernel_rfl) (by kernel_rfl) (fun _ _ _ h => h) (Or.inl ⟨by rfl, ?_⟩) (by assumption) ?_
                                    rotate_left
                                    · (intro w hSw; (try dsimp only at hSw); go_simp); (try with_reducible rfl)
                                    try simp only [Act.put, List.setIfInBounds_toArray, List.set_cons_zero, List.set_cons_succ]
                                    refine wpAnyH_take (i := 4) (oi := { dst := some 194, op := Op.binOp BinOp.sub 3 (Operand.tmp 191) (Operand.tmp 193) 3, type := 3, pos := "top05_wt47d.go:113", after := #[{ on := 1, ground := Ground.data }, { on := 3, ground := Ground.data }], guard := none }) (v := ?_) rfl (by kernel_rfl) (by kernel_rfl) (by kernel_rfl) (fun _ _ _ h => h) (Or.inl ⟨by rfl, ?_⟩) (by assumption) ?_
                                    rotate_left
                                    · (intro w hSw; (try dsimp only at hSw); go_simp); (try with_reducible rfl)
                                    try simp only [Act.put, List.setIfInBounds_toArray, List.set_cons_zero, List.set_cons_succ]
                                    refine wpAnyH_take (i := 5) (oi := { dst := some 195, op := Op.call { callee := Callee.builtin Builtin.max, args := #[Operand.const (Value.int IntKind.i64 0), Operand.tmp 194], argTypes := #[3, 3] }, type := 3, pos := "top05_wt47d.go:113", after := #[{ on := 4, ground := Ground.data }], guard := none }) (v := ?_) rfl (by kernel_rfl) (by kernel_rfl) (by kernel_rfl) (fun _ _ _ h => h) (Or.inl ⟨by rfl, ?_⟩) (by assumption) ?_
                                    rotate_left
                                    · (intro w hSw; (try dsimp only at hSw); go_simp); (try with_reducible rfl)
                                    try simp only [Act.put, List.setIfInBounds_toArray, List.set_cons_zero, List.set_cons_succ]
                                    refine wpAnyH_take (i := 6) (oi := { dst := some 196, op := Op.binOp BinOp.add 3 (Operand.tmp 190) (Operand.tmp 195) 3, type := 3, pos := "top05_wt47d.go:113", after := #[{ on := 0, ground := Ground.data }, { on := 5, ground := Ground.data }], guard := none }) (v := ?_) rfl (by kernel_rfl) (by kernel_rfl) (by kernel_rfl) (fun _ _ _ h => h) (Or.inl ⟨by rfl, ?_⟩) (by assumption) ?_
                                    rotate_left
                                    · (intro w hSw; (try dsimp only at hSw); go_simp); (try with_reducible rfl)
                                    try simp only [Act.put, List.setIfInBounds_toArray, List.set_cons_zero, List.set_cons_succ]
                                    refine wpAnyH_take (i := 7) (oi := { dst := some 197, op := Op.move (Operand.tmp 19), type := 3, pos := "top05_wt47d.go:113", after := #[{ on := 14, ground := Ground.gcOnly Departure.lateStores }], guard := none }) (v := ?_) rfl (by kernel_rfl) (by kernel_rfl) (by kernel_rfl) (fun _ _ _ h => h) (Or.inl ⟨by rfl, ?_⟩) (by assumption) ?_
                                    rotate_left
                                    · (intro w hSw; (try dsimp only at hSw); go_simp); (try with_reducible rfl)
                                    try simp only [Act.put, List.setIfInBounds_toArray, List.set_cons_zero, List.set_cons_succ]
                                    refine wpAnyH_take (i := 8) (oi := { dst := some 198, op := Op.move (Operand.tmp 21), type := 3, pos := "top05_wt47d.go:113", after := #[], guard := none }) (v := ?_) rfl (by kernel_rfl) (by kernel_rfl) (by kernel_rfl) (fun _ _ _ h => h) (Or.inl ⟨by rfl, ?_⟩) (by assumption) ?_
                                    rotate_left
                                    · (intro w hSw; (try dsimp only at hSw); go_simp); (try with_reducible rfl)
                                    try simp only [Act.put, List.setIfInBounds_toArray, List.set_cons_zero, List.set_cons_succ]
                                    refine wpAnyH_take (i := 9) (oi := { dst := some 199, op := Op.fieldAddr 45 (Operand.tmp 22) 0, type := 0, pos := "top05_wt47d.go:113", after := #[], guard := none }) (v := ?_) rfl (by kernel_rfl) (by kernel_rfl) (by kernel_rfl) (fun _ _ _ h => h) (Or.inl ⟨by rfl, ?_⟩) (by assumption) ?_
                                    rotate_left
                                    · (intro w hSw; (try dsimp only at hSw); go_simp); (try with_reducible rfl)
                                    try simp only [Act.put, List.setIfInBounds_toArray, List.set_cons_zero, List.set_cons_succ]
                                    refine wpAnyH_take (i := 10) (oi := { dst := some 200, op := Op.load 3 (Operand.tmp 199), type := 3, pos := "top05_wt47d.go:113", after := #[{ on := 9, ground := Ground.data }], guard := none }) (v := ?_) rfl (by kernel_rfl) (by kernel_rfl) (by kernel_rfl) (fun _ _ _ h => h) (Or.inl ⟨by rfl, ?_⟩) (by assumption) ?_
                                    rotate_left
                                    · (intro w hSw; (try dsimp only at hSw); go_simp); (try with_reducible rfl)
                                    try simp only [Act.put, List.setIfInBounds_toArray, List.set_cons_zero, List.set_cons_succ]
                                    refine wpAnyH_take (i := 11) (oi := { dst := some 201, op := Op.binOp BinOp.sub 3 (Operand.tmp 198) (Operand.tmp 200) 3, type := 3, pos := "top05_wt47d.go:113", after := #[{ on := 8, ground := Ground.data }, { on := 10, ground := Ground.data }], guard := none }) (v := ?_) rfl (by kernel_rfl) (by kernel_rfl) (by kernel_rfl) (fun _ _ _ h => h) (Or.inl ⟨by rfl, ?_⟩) (by assumption) ?_
                                    rotate_left
                                    · (intro w hSw; (try dsimp only at hSw); go_simp); (try with_reducible rfl)
                                    try simp only [Act.put, List.setIfInBounds_toArray, List.set_cons_zero, List.set_cons_succ]
                                    refine wpAnyH_take (i := 12) (oi := { dst := some 202, op := Op.call { callee := Callee.builtin Builtin.max, args := #[Operand.const (Value.int IntKind.i64 0), Operand.tmp 201], argTypes := #[3, 3] }, type := 3, pos := "top05_wt47d.go:113", after := #[{ on := 11, ground := Ground.data }], guard := none }) (v := ?_) rfl (by kernel_rfl) (by kernel_rfl) (by kernel_rfl) (fun _ _ _ h => h) (Or.inl ⟨by rfl, ?_⟩) (by assumption) ?_
                                    rotate_left
                                    · (intro w hSw; (try dsimp only at hSw); go_simp); (try with_reducible rfl)
                                    try simp only [Act.put, List.setIfInBounds_toArray, List.set_cons_zero, List.set_cons_succ]
                                    refine wpAnyH_take (i := 13) (oi := { dst := some 203, op := Op.binOp BinOp.add 3 (Operand.tmp 197) (Operand.tmp 202) 3, type := 3, pos := "top05_wt47d.go:113", after := #[{ on := 7, ground := Ground.data }, { on := 12, ground := Ground.data }, { on := 14, ground := Ground.gcOnly Departure.lateStores }], guard := none }) (v := ?_) rfl (by kernel_rfl) (by kernel_rfl) (by kernel_rfl) (fun _ _ _ h => h) (Or.inl ⟨by rfl, ?_⟩) (by assumption) ?_
                                    rotate_left
                                    · (intro w hSw; (try dsimp only at hSw); go_simp); (try with_reducible rfl)
                                    try simp only [Act.put, List.setIfInBounds_toArray, List.set_cons_zero, List.set_cons_succ]
                                    refine wpAnyH_take (i := 14) (oi := { dst := some 18, op := Op.assign (Operand.tmp 196), type := 3, pos := "top05_wt47d.go:113", after := #[{ on := 6, ground := Ground.data }, { on := 0, ground := Ground.phase }, { on := 1, ground := Ground.phase }, { on := 2, ground := Ground.phase }, { on := 3, ground := Ground.phase }, { on := 4, ground := Ground.phase }, { on := 5, ground := Ground.phase }, { on := 6, ground := Ground.phase }, { on := 7, ground := Ground.textOnly Departure.lateStores }, { on := 8, ground := Ground.textOnly Departure.lateStores }, { on := 9, ground := Ground.textOnly Departure.lateStores }, { on := 10, ground := Ground.textOnly Departure.lateStores }, { on := 11, ground := Ground.textOnly Departure.lateStores }, { on := 12, ground := Ground.textOnly Departure.lateStoresUnsure }, { on := 13, ground := Ground.textOnly Departure.lateStores }], guard := none }) (v := ?_) rfl (by kernel_rfl) (by kernel_rfl) (by kernel_rfl) (fun _ _ _ h => h) (Or.inl ⟨by rfl, ?_⟩) (by assumption) ?_
                                    rotate_left
                                    · (intro w hSw; (try dsimp only at hSw); go_simp); (try with_reducible rfl)
                                    try simp only [Act.put, List.setIfInBounds_toArray, List.set_cons_zero, List.set_cons_succ]
                                    refine wpAnyH_take (i := 15) (oi := { dst := some 19, op := Op.assign (Operand.tmp 203), type := 3, pos := "top05_wt47d.go:113", after := #[{ on := 13, ground := Ground.data }, { on := 14, ground := Ground.chain }, { on := 0, ground := Ground.phase }, { on := 1, ground := Ground.phase }, { on := 2, ground := Ground.phase }, { on := 3, ground := Ground.phase }, { on := 4, ground := Ground.phase }, { on := 5, ground := Ground.phase }, { on := 6, ground := Ground.phase }, { on := 7, ground := Ground.phase }, { on := 8, ground := Ground.phase }, { on := 9, ground := Ground.phase }, { on := 10, ground := Ground.phase }, { on := 11, ground := Ground.phase }, { on := 12, ground := Ground.phase }, { on := 13, ground := Ground.phase }, { on := 14, ground := Ground.phase }], guard := none }) (v := ?_) rfl (by kernel_rfl) (by kernel_rfl) (by kernel_rfl) (fun _ _ _ h => h) (Or.inl ⟨by rfl, ?_⟩) (by assumption) ?_
                                    rotate_left
                                    · (intro w hSw; (try dsimp only at hSw); go_simp); (try with_reducible rfl)
                                    try simp only [Act.put, List.setIfInBounds_toArray, List.set_cons_zero, List.set_cons_succ]
                                    refine wpAnyH_done (by kernel_rfl) ?_ _
                                    clear hHeld0
                                    have hbel := bthen hbel hbzd
                                    obtain ⟨w6', hw6⟩ : ∃ v, v = wzd := ⟨_, rfl⟩
                                    rw [← hw6] at hbel ⊢
                                    clear hw6
                                    go_wp2
                                    go_roundw
                                    case rel => exact ⟨k + 1, by omega, by go_num, by rw [E1.out], by rw [E2.out], hbel⟩
                                    case measure => simp [intOf]; omega
                                  · obtain rfl : k = 62 := by omega
                                    have hdk : ¬ ((62 : Nat) : Int) < 62 := by omega
                                    have et : RL.take 62 = RL := List.take_of_length_le (by rw [HRL.out]; exact Nat.le_refl _)
                                    rw [et, ← HS1.out, ← HS2.out]
                                    have iC := HC.out.carry hbel
                                    have g0 := iC.cell (j := 0) (v := .int .i64 S1) rfl
                                    have g1 := iC.cell (j := 1) (v := .int .i64 S2) rfl
                                    have hneq := neqIv S1 S2
                                    have hB3 := bthen HB2.out hbel
                                    have HX3 := Lib.hid iX
                                    have HB3 := Lib.hid hB3
                                    have TNd := Lib.hid (fun q hq W => Needed_any a b c q W HOK.out hq)
                                    obtain ⟨w30, hw30⟩ : ∃ W, W = wr := ⟨_, rfl⟩
                                    subst hw30
                                    clear b1 b2 iX hbel hB3 et
                                    go_wp2_with fail
                                    clear g0 g1 iC hneq
                                    go_loopw [24, 25, 212] (fun o s i wx => ∃ (k : Nat) (P : List Int) (sm : Int), k ≤ n3 ∧ i = .int .i64 k ∧ s = .int .i64 sm ∧ Ned a b c P sm k ∧ wx.ownsRow w30.heap.size 3 1 o P.length (P.map (Value.int .i64)) ∧ Below w30.heap.size w30 wx) (fun _ _ i _ => n3 - (intOf i).toNat)
                                    case atStart => exact ⟨0, [], 0, by omega, rfl, rfl, Ned.zero a b c, World.ownsRow_nil _ _ _ _, Below.refl _ _⟩
                                    case round =>
                                      obtain ⟨k, P, sm, hk, rfl, rfl, hned, hown, hbel⟩ := hrel
                                      have hlw := hned.low
                                      have hln := hned.len
                                      have iX := HX3.out.carry hbel
                                      have x0 := iX.cell (j := 0) (v := .int .i64 a) rfl
                                      have x1 := iX.cell (j := 1) (v := .int .i64 b) rfl
                                      have x2 := iX.cell (j := 2) (v := .int .i64 c) rfl
                                      by_cases hlt : k < n3
                                      · have hdk : (k : Int) < (n3 : Int) := by omega
                                        obtain ⟨q, hq⟩ : ∃ q, l3[k]? = some q := ⟨_, List.getElem?_eq_getElem (by rw [← HN3.out]; exact hlt)⟩
                                        obtain ⟨rb3, ro3, rcap3, hre, hrcs⟩ := (HV3.out.below (bthen HB3.out hbel)).head (by rw [← HN3.out]; omega)
                                        simp only [Value.slice.injEq] at hre
                                        obtain ⟨rfl, -, rfl⟩ := hre
                                        have c0 := hrcs k (by rw [← HN3.out]; exact hlt)
                                        rw [hq, Option.getD_some] at c0
                                        have hqr := HP3.out.rng k q hq
                                        have TN := Lib.hid (TNd.out q hqr)
                                        clear hrcs hq iX
                                        go_wp2_with fail
                                        refine (TN.out _).mono ?_
                                        rintro e w5 ⟨⟨n, e5, rfl, hne⟩, hb5⟩
                                        have hown := own_below hown hb5
                                        have hbel := bthen hbel hb5
                                        clear c0 x0 x1 x2 TN hb5
                                        rcases hne with rfl | ⟨rfl, hn1, hn2⟩
                                        · have HS := Lib.hid hned.skip
                                          clear hned
                                          go_wp2
                                          go_roundw
                                          case rel => exact ⟨k + 1, P, sm, by omega, by go_num, by trivial, HS.out, hown, hbel⟩
                                          case measure => simp [intOf]; omega
                                        · have HT := Lib.hid (hned.take hqr hn1 hn2)
                                          have q1 : decide (n < q) = false := decide_eq_false (by omega)
                                          have q2 : IntKind.i64.wrap (sm + q) = sm + q := IntWalk.i64_in _ (by omega)
                                          obtain ⟨oa, oc, rfl⟩ := own_slice hown
                                          obtain ⟨i0, hi, hz0, hz1, hz2⟩ := info_parts Try.infZint
                                          have hs5 := hbel.size
                                          clear hned hn1 hn2
                                          go_wp2_with (at_builtin; refine wpList_append_own _ rfl (.tmp 231) (.tmp 233) 26 rfl w30.heap.size 3 i0 _ 1 8 Try.undZint hi hz0 hz1 hz2 rfl (by decide) (.slice oa P.length oc) P.length _ rfl (own_below hown (below_new _ _)) ⟨w5.heap.size, 0, none⟩ 1 1 [.int .i64 n] rfl rfl (cell_one_new _ _ _) (by simp [Value.oneCell']) (by unfold maxLen; omega) (by omega) (by simp; omega) ?_; intro v9 W4 hown9 hgrow9 _)
                                          have hB9 : Below w30.heap.size w30 W4 := (bthen hbel (below_new w5 (.cells #[.int .i64 n] 3))).trans ((Below.refl _ _).grown hgrow9 (by simp; omega) (fun k hk => (World.ownsRow.lt hown k hk).1))
                                          have hown4 : W4.ownsRow w30.heap.size 3 1 v9 (P ++ [n]).length ((P ++ [n]).map (Value.int .i64)) := by
                                            rw [List.length_append, List.length_singleton, List.map_append]; exact hown9
                                          clear hown9 hown hbel hgrow9
                                          go_wp2_with fail
                                          go_roundw
                                          case rel => exact ⟨k + 1, P ++ [n], sm + q, by omega, by go_num, by trivial, HT.out, hown4, hB9⟩
                                          case measure => simp [intOf]; omega
                                      · obtain rfl : k = n3 := by omega
                                        have hdk : ¬ (k : Int) < (k : Int) := by omega
                                        have hP := Ints.of_own hown rfl
                                        have TB2 := Lib.hid (Balance_any a b c u24 P wr HOK.out (by omega) hned.rng hP)
                                        have hge := hned.sum
                                        obtain ⟨S3, hS3⟩ : ∃ s, s = smL (dlLo a b c) P := ⟨_, rfl⟩
                                        obtain ⟨S4, hS4⟩ : ∃ s, s = smL (dlHi a b c) P := ⟨_, rfl⟩
                                        rw [← hS3] at hge TB2
                                        rw [← hS4] at TB2
                                        have q1 : decide (sm ≤ S3) = true := decide_eq_true hge
                                        have hBB := bthen HB3.out hbel
                                        clear hP hned hown hS3 hS4 hge iX hbel
                                        go_wp2_with fail
                                        refine TB2.out.mono ?_
                                        rintro e w6 ⟨rfl, hb6⟩
                                        have hBB := bthen hBB hb6
                                        clear TB2 hb6 x0 x1 x2
                                        go_upto_region 49 with fail
                                        obtain ⟨V6, hV6⟩ : ∃ v, v = World.alloc w6 (Obj.cells #[.int .i64 S3, .int .i64 S4] 45) := ⟨_, rfl⟩
                                        have kV6 : Below w6.heap.size w6 V6 := by rw [hV6]; exact below_new _ _
                                        have iV6 : Blk V6 (w6.heap.size) 45 [.int .i64 S3, .int .i64 S4] := by rw [hV6]; exact Blk.new _ _ _
                                        have sV6 : V6.heap.size = w6.heap.size + 1 := by rw [hV6]; simp
                                        rw [← hV6]
                                        clear hV6
                                        have d0 := iV6.cell (j := 0) (v := .int .i64 S3) rfl
                                        have hBB := bthen hBB kV6
                                        clear kV6 iV6 sV6
                                        go_wp2_with fail
                                        refine (TD.out _).mono ?_
                                        rintro e w9 ⟨rfl, hb9⟩
                                        go_wp2
                                        go_ret
                                        exact ⟨rfl, bthen hBB hb9⟩
                              · go_simp
                                obtain ⟨wz8, hwz⟩ : ∃ v, v = wz3.alloc (Obj.cells #[.int .i64 0, .int .i64 0] 45) := ⟨_, rfl⟩
                                rw [← hwz]
                                have hl : Below wz3.heap.size wz3 wz8 := by rw [hwz]; exact below_new _ _
                                have hbz8 := bthen hbz3 hl
                                have iC : Blk wz8 wz3.heap.size 45 [.int .i64 0, .int .i64 0] := by rw [hwz]; exact Blk.new _ _ _
                                have hGc : W8.heap.size ≤ wz3.heap.size := (hbz3).size
                                generalize wz3.heap.size = GC at iC hGc ⊢
                                clear hwz
                                have iN := iN.carry hl
                                have ho3 := ho3.carry hl
                                clear hl
                                refine hK.out _ _ ⟨cellb x0 hbz8, cellb x1 hbz8, cellb x2 hbz8⟩ (fun hHeld3 => ?_)
                                clear hK K hHeld2
                                try simp only [Act.put, List.setIfInBounds_toArray, List.set_cons_zero, List.set_cons_succ]
                                refine wpAnyH_ready (rs := [4]) (by kernel_rfl) (by simp) ?_
                                refine (AllReadyH.cons (o := { dst := some 171, op := Op.call { callee := Callee.value (Operand.func 12), args := #[Operand.tmp 167, Operand.tmp 170], argTypes := #[48, 26] }, type := 46, pos := "top05_wt47d.go:103", after := #[{ on := 0, ground := Ground.data }, { on := 3, ground := Ground.data }, { on := 3, ground := Ground.chain }], guard := none }) rfl (fun K hK => ?_) AllReadyH.nil)
                                go_simp
                                refine (TB.out u3 wz8 ho3.ints).mono ?_
                                rintro e wz4 ⟨rfl, hl⟩
                                (try go_wp2_with fail)
                                have hbz4 := bthen hbz8 hl
                                have iN := iN.carry hl
                                have ho3 := ho3.carry hl
                                have iC := iC.carry hl
                                clear hl
                                refine hK.out _ _ ⟨cellb x0 hbz4, cellb x1 hbz4, cellb x2 hbz4⟩ (fun hHeld4 => ?_)
                                clear hK K hHeld3
                                try simp only [Act.put, List.setIfInBounds_toArray, List.set_cons_zero, List.set_cons_succ]
                                refine wpAnyH_take (i := 5) (oi := { dst := some 166, op := Op.move (Operand.tmp 171), type := 46, pos := "top05_wt47d.go:103", after := #[{ on := 4, ground := Ground.data }], guard := none }) (v := ?_) rfl (by kernel_rfl) (by kernel_rfl) (by kernel_rfl) (fun _ _ _ h => h) (Or.inl ⟨by rfl, ?_⟩) (by assumption) ?_
                                rotate_left
                                · (intro w hSw; (try dsimp only at hSw); go_simp); (try with_reducible rfl)
                                try simp only [Act.put, List.setIfInBounds_toArray, List.set_cons_zero, List.set_cons_succ]
                                refine wpAnyH_take (i := 6) (oi := { dst := some 172, op := Op.extract (Operand.tmp 166) 0, type := 45, pos := "top05_wt47d.go:103", after := #[{ on := 5, ground := Ground.data }], guard := none }) (v := ?_) rfl (by kernel_rfl) (by kernel_rfl) (by kernel_rfl) (fun _ _ _ h => h) (Or.inl ⟨by rfl, ?_⟩) (by assumption) ?_
                                rotate_left
                                · (intro w hSw; (try dsimp only at hSw); go_simp); (try with_reducible rfl)
                                try simp only [Act.put, List.setIfInBounds_toArray, List.set_cons_zero, List.set_cons_succ]
                                refine wpAnyH_take (i := 7) (oi := { dst := some 173, op := Op.extract (Operand.tmp 166) 1, type := 36, pos := "top05_wt47d.go:103", after := #[{ on := 5, ground := Ground.data }, { on := 9, ground := Ground.gcOnly Departure.lateStores }], guard := none }) (v := ?_) rfl (by kernel_rfl) (by kernel_rfl) (by kernel_rfl) (fun _ _ _ h => h) (Or.inl ⟨by rfl, ?_⟩) (by assumption) ?_
                                rotate_left
                                · (intro w hSw; (try dsimp only at hSw); go_simp); (try with_reducible rfl)
                                try simp only [Act.put, List.setIfInBounds_toArray, List.set_cons_zero, List.set_cons_succ]
                                refine wpAnyH_ready (rs := [9]) (by kernel_rfl) (by simp) ?_
                                refine (AllReadyH.cons (o := { dst := none, op := Op.store 45 (Operand.tmp 16) (Operand.tmp 172), type := 0, pos := "top05_wt47d.go:103", after := #[{ on := 8, ground := Ground.data }, { on := 6, ground := Ground.data }, { on := 4, ground := Ground.chain }, { on := 0, ground := Ground.phase }, { on := 1, ground := Ground.phase }, { on := 2, ground := Ground.phase }, { on := 3, ground := Ground.phase }, { on := 4, ground := Ground.phase }, { on := 5, ground := Ground.phase }, { on := 6, ground := Ground.phase }, { on := 7, ground := Ground.textOnly Departure.lateStores }, { on := 8, ground := Ground.phase }], guard := none }) rfl (fun K hK => ?_) AllReadyH.nil)
                                have c0 := iC.cell (j := 0) (v := .int .i64 0) rfl
                                have c1 := iC.cell (j := 1) (v := .int .i64 0) rfl
                                have f0 := iC.frozen 0
                                have f1 := iC.frozen 1
                                go_simp
                                obtain ⟨wz9, hwz⟩ : ∃ v, v = (wz4.setCell ⟨GC, 0, none⟩ (.int .i64 S1)).setCell ⟨GC, 1, none⟩ (.int .i64 S2) := ⟨_, rfl⟩
                                rw [← hwz]
                                have hbz9 : Below W8.heap.size W8 wz9 := by rw [hwz]; exact (hbz4.setCell (p := ⟨GC, 0, none⟩) (by simp only; exact hGc) _).setCell (p := ⟨GC, 1, none⟩) (by simp only; exact hGc) _
                                have iC := iC.set2 (.int .i64 S1) (.int .i64 S2)
                                rw [← hwz] at iC
                                clear hwz
                                refine hK.out _ _ ⟨cellb x0 hbz9, cellb x1 hbz9, cellb x2 hbz9⟩ (fun hHeld5 => ?_)
                                clear hK K hHeld4
                                try simp only [Act.put, List.setIfInBounds_toArray, List.set_cons_zero, List.set_cons_succ]
                                refine wpAnyH_take (i := 10) (oi := { dst := some 17, op := Op.assign (Operand.tmp 173), type := 36, pos := "top05_wt47d.go:103", after := #[{ on := 7, ground := Ground.data }, { on := 9, ground := Ground.chain }, { on := 0, ground := Ground.phase }, { on := 1, ground := Ground.phase }, { on := 2, ground := Ground.phase }, { on := 3, ground := Ground.phase }, { on := 4, ground := Ground.phase }, { on := 5, ground := Ground.phase }, { on := 6, ground := Ground.phase }, { on := 7, ground := Ground.phase }, { on := 8, ground := Ground.phase }, { on := 9, ground := Ground.phase }], guard := none }) (v := ?_) rfl (by kernel_rfl) (by kernel_rfl) (by kernel_rfl) (fun _ _ _ h => h) (Or.inl ⟨by rfl, ?_⟩) (by assumption) ?_
                                rotate_left
                                · (intro w hSw; (try dsimp only at hSw); go_simp); (try with_reducible rfl)
                                try simp only [Act.put, List.setIfInBounds_toArray, List.set_cons_zero, List.set_cons_succ]
                                refine wpAnyH_done (by kernel_rfl) ?_ _
                                clear hHeld5
                                have hb20 := hbz9
                                obtain ⟨w20, hW20⟩ : ∃ v, v = wz9 := ⟨_, rfl⟩
                                rw [← hW20] at hb20 iC ⊢
                                clear hW20
                                have hX2 := iX.carry hb20
                                have hB2 := bthen hB hb20
                                have hU2 := hur.below hb20
                                have HX2 := Lib.hid hX2
                                have HB2 := Lib.hid hB2
                                have HU2 := Lib.hid hU2
                                have HC := Lib.hid iC
                                have TLs := Lib.hid (fun p hp W => Loss_any a b c p W HOK.out hp)
                                clear x0 x1 x2 hX2 hB2 hU2 iX hB hur hb20 iC TB hi hz0 hz1 hz2
                                go_wp2_with fail
                                go_loopw [18, 19, 178] (fun z1 z2 i wr => ∃ k : Nat, k ≤ 62 ∧ i = .int .i64 k ∧ z1 = .int .i64 (smL (dlLo a b c) (RL.take k)) ∧ z2 = .int .i64 (smL (dlHi a b c) (RL.take k)) ∧ Below w20.heap.size w20 wr) (fun _ _ i _ => 62 - (intOf i).toNat)
                                case atStart => exact ⟨0, by omega, rfl, rfl, rfl, Below.refl _ _⟩
                                case round =>
                                  obtain ⟨k, hk, rfl, rfl, rfl, hbel⟩ := hrel
                                  have b1 := smL_rng (f := dlLo a b c) (l := RL.take k) (m := 1000) (by omega) (fun y hy => (dl_rng HOK.out (HRR.out y (List.mem_of_mem_take hy))).1)
                                  have b2 := smL_rng (f := dlHi a b c) (l := RL.take k) (m := 1000) (by omega) (fun y hy => (dl_rng HOK.out (HRR.out y (List.mem_of_mem_take hy))).2)
                                  rw [List.length_take, HRL.out, Nat.min_eq_left hk] at b1 b2
                                  have iX := HX2.out.carry hbel
                                  by_cases hlt : k < 62
                                  · have hdk : (k : Int) < 62 := by omega
                                    obtain ⟨p, hp⟩ : ∃ p, RL[k]? = some p := ⟨_, List.getElem?_eq_getElem (by rw [HRL.out]; exact hlt)⟩
                                    obtain ⟨rb, ro, rcap, hre, hrcs⟩ := (HU2.out.below hbel).head (by rw [HRL.out]; omega)
                                    rw [HRL.out] at hre
                                    simp only [Value.slice.injEq] at hre
                                    obtain ⟨rfl, -, rfl⟩ := hre
                                    have c0 := hrcs k (by rw [HRL.out]; exact hlt)
                                    rw [hp, Option.getD_some] at c0
                                    have hpr := HRR.out p (List.mem_of_getElem? hp)
                                    have e1 := smL_take (dlLo a b c) hp
                                    have e2 := smL_take (dlHi a b c) hp
                                    rw [show dlLo a b c p = max 0 (p - losHi a b c p) from rfl] at e1
                                    rw [show dlHi a b c p = max 0 (p - losLo a b c p) from rfl] at e2
                                    have hlr := los_rng HOK.out hpr
                                    have TN := Lib.hid (TLs.out p hpr)
                                    obtain ⟨A1, hA1⟩ : ∃ s, s = smL (dlLo a b c) (RL.take k) := ⟨_, rfl⟩
                                    obtain ⟨A2, hA2⟩ : ∃ s, s = smL (dlHi a b c) (RL.take k) := ⟨_, rfl⟩
                                    obtain ⟨LO, hLO⟩ : ∃ s, s = losLo a b c p := ⟨_, rfl⟩
                                    obtain ⟨HI, hHI⟩ : ∃ s, s = losHi a b c p := ⟨_, rfl⟩
                                    rw [← hA1] at b1 e1 ⊢
                                    rw [← hA2] at b2 e2 ⊢
                                    rw [← hLO] at hlr e2 TN
                                    rw [← hHI] at hlr e1 TN
                                    have E1 := Lib.hid e1
                                    have E2 := Lib.hid e2
                                    have k1 : IntKind.i64.wrap (p - HI) = p - HI := IntWalk.i64_in _ (by omega)
                                    have k2 : IntKind.i64.wrap (p - LO) = p - LO := IntWalk.i64_in _ (by omega)
                                    have k3 : IntKind.i64.wrap (A1 + max 0 (p - HI)) = A1 + max 0 (p - HI) := IntWalk.i64_in _ (by omega)
                                    have k4 : IntKind.i64.wrap (A2 + max 0 (p - LO)) = A2 + max 0 (p - LO) := IntWalk.i64_in _ (by omega)
                                    have x0 := iX.cell (j := 0) (v := .int .i64 a) rfl
                                    have x1 := iX.cell (j := 1) (v := .int .i64 b) rfl
                                    have x2 := iX.cell (j := 2) (v := .int .i64 c) rfl
                                    clear hrcs hp hpr e1 e2 hlr hA1 hA2 hLO hHI b1 b2 iX
                                    go_wp2_with fail
                                    refine (TN.out _).mono ?_
                                    rintro e w5 ⟨rfl, hb5⟩
                                    have hbel := bthen hbel hb5
                                    clear c0 x0 x1 x2 TN hb5
                                    go_upto_region 30 with fail
                                    obtain ⟨V1, hV1⟩ : ∃ v, v = World.alloc w5 (Obj.cells #[.int .i64 LO, .int .i64 HI] 45) := ⟨_, rfl⟩
                                    have kV1 : Below w5.heap.size w5 V1 := by rw [hV1]; exact below_new _ _
                                    have iV1 : Blk V1 (w5.heap.size) 45 [.int .i64 LO, .int .i64 HI] := by rw [hV1]; exact Blk.new _ _ _
                                    have sV1 : V1.heap.size = w5.heap.size + 1 := by rw [hV1]; simp
                                    rw [← hV1]
                                    clear hV1
                                    have d0 := iV1.cell (j := 0) (v := .int .i64 LO) rfl
                                    have d1 := iV1.cell (j := 1) (v := .int .i64 HI) rfl
                                    have hbel := bthen hbel kV1
                                    clear kV1 iV1 sV1
                                    go_upto_region 32 with fail
                                    refine wp_region_held_drew (S := (fun W => W.cell? ⟨w5.heap.size, 0, none⟩ = some (.int .i64 LO) ∧ W.cell? ⟨w5.heap.size, 1, none⟩ = some (.int .i64 HI))) (by kernel_rfl) ⟨cellb d0 (Below.refl _ _).drew, cellb d1 (Below.refl _ _).drew⟩ (fun hHeld0 => ?_)
                                    obtain ⟨wzd, hwz⟩ : ∃ v, v = V1.drew := ⟨_, rfl⟩
                                    rw [← hwz] at hHeld0 ⊢
                                    have hbzd : Below V1.heap.size V1 wzd := by rw [hwz]; exact (Below.refl _ _).drew
                                    have hlzd : Below V1.heap.size V1 wzd := by rw [hwz]; exact (Below.refl _ _).drew
                                    clear hwz hlzd
                                    refine wpAnyH_take (i := 0) (oi := { dst := some 190, op := Op.move (Operand.tmp 18), type := 3, pos := "top05_wt47d.go:113", after := #[], guard := none }) (v := ?_) rfl (by kernel_rfl) (by kernel_rfl) (by kernel_rfl) (fun _ _ _ h => h) (Or.inl ⟨by rfl, ?_⟩) (by assumption) ?_
                                    rotate_left
                                    · (intro w hSw; (try dsimp only at hSw); go_simp); (try with_reducible rfl)
                                    try simp only [Act.put, List.setIfInBounds_toArray, List.set_cons_zero, List.set_cons_succ]
                                    refine wpAnyH_take (i := 1) (oi := { dst := some 191, op := Op.move (Operand.tmp 21), type := 3, pos := "top05_wt47d.go:113", after := #[], guard := none }) (v := ?_) rfl (by kernel_rfl) (by kernel_rfl) (by kernel_rfl) (fun _ _ _ h => h) (Or.inl ⟨by rfl, ?_⟩) (by assumption) ?_
                                    rotate_left
                                    · (intro w hSw; (try dsimp only at hSw); go_simp); (try with_reducible rfl)
                                    try simp only [Act.put, List.setIfInBounds_toArray, List.set_cons_zero, List.set_cons_succ]
                                    refine wpAnyH_take (i := 2) (oi := { dst := some 192, op := Op.fieldAddr 45 (Operand.tmp 22) 1, type := 0, pos := "top05_wt47d.go:113", after := #[], guard := none }) (v := ?_) rfl (by kernel_rfl) (by kernel_rfl) (by kernel_rfl) (fun _ _ _ h => h) (Or.inl ⟨by rfl, ?_⟩) (by assumption) ?_
                                    rotate_left
                                    · (intro w hSw; (try dsimp only at hSw); go_simp); (try with_reducible rfl)
                                    try simp only [Act.put, List.setIfInBounds_toArray, List.set_cons_zero, List.set_cons_succ]
                                    refine wpAnyH_take (i := 3) (oi := { dst := some 193, op := Op.load 3 (Operand.tmp 192), type := 3, pos := "top05_wt47d.go:113", after := #[{ on := 2, ground := Ground.data }], guard := none }) (v := ?_) rfl (by kernel_rfl) (by kernel_rfl) (by kernel_rfl) (fun _ _ _ h => h) (Or.inl ⟨by rfl, ?_⟩) (by assumption) ?_
                                    rotate_left
                                    · (intro w hSw; (try dsimp only at hSw); go_simp); (try with_reducible rfl)
                                    try simp only [Act.put, List.setIfInBounds_toArray, List.set_cons_zero, List.set_cons_succ]
                                    refine wpAnyH_take (i := 4) (oi := { dst := some 194, op := Op.binOp BinOp.sub 3 (Operand.tmp 191) (Operand.tmp 193) 3, type := 3, pos := "top05_wt47d.go:113", after := #[{ on := 1, ground := Ground.data }, { on := 3, ground := Ground.data }], guard := none }) (v := ?_) rfl (by kernel_rfl) (by kernel_rfl) (by kernel_rfl) (fun _ _ _ h => h) (Or.inl ⟨by rfl, ?_⟩) (by assumption) ?_
                                    rotate_left
                                    · (intro w hSw; (try dsimp only at hSw); go_simp); (try with_reducible rfl)
                                    try simp only [Act.put, List.setIfInBounds_toArray, List.set_cons_zero, List.set_cons_succ]
                                    refine wpAnyH_take (i := 5) (oi := { dst := some 195, op := Op.call { callee := Callee.builtin Builtin.max, args := #[Operand.const (Value.int IntKind.i64 0), Operand.tmp 194], argTypes := #[3, 3] }, type := 3, pos := "top05_wt47d.go:113", after := #[{ on := 4, ground := Ground.data }], guard := none }) (v := ?_) rfl (by kernel_rfl) (by kernel_rfl) (by kernel_rfl) (fun _ _ _ h => h) (Or.inl ⟨by rfl, ?_⟩) (by assumption) ?_
                                    rotate_left
                                    · (intro w hSw; (try dsimp only at hSw); go_simp); (try with_reducible rfl)
                                    try simp only [Act.put, List.setIfInBounds_toArray, List.set_cons_zero, List.set_cons_succ]
                                    refine wpAnyH_take (i := 6) (oi := { dst := some 196, op := Op.binOp BinOp.add 3 (Operand.tmp 190) (Operand.tmp 195) 3, type := 3, pos := "top05_wt47d.go:113", after := #[{ on := 0, ground := Ground.data }, { on := 5, ground := Ground.data }], guard := none }) (v := ?_) rfl (by kernel_rfl) (by kernel_rfl) (by kernel_rfl) (fun _ _ _ h => h) (Or.inl ⟨by rfl, ?_⟩) (by assumption) ?_
                                    rotate_left
                                    · (intro w hSw; (try dsimp only at hSw); go_simp); (try with_reducible rfl)
                                    try simp only [Act.put, List.setIfInBounds_toArray, List.set_cons_zero, List.set_cons_succ]
                                    refine wpAnyH_take (i := 7) (oi := { dst := some 197, op := Op.move (Operand.tmp 19), type := 3, pos := "top05_wt47d.go:113", after := #[{ on := 14, ground := Ground.gcOnly Departure.lateStores }], guard := none }) (v := ?_) rfl (by kernel_rfl) (by kernel_rfl) (by kernel_rfl) (fun _ _ _ h => h) (Or.inl ⟨by rfl, ?_⟩) (by assumption) ?_
                                    rotate_left
                                    · (intro w hSw; (try dsimp only at hSw); go_simp); (try with_reducible rfl)
                                    try simp only [Act.put, List.setIfInBounds_toArray, List.set_cons_zero, List.set_cons_succ]
                                    refine wpAnyH_take (i := 8) (oi := { dst := some 198, op := Op.move (Operand.tmp 21), type := 3, pos := "top05_wt47d.go:113", after := #[], guard := none }) (v := ?_) rfl (by kernel_rfl) (by kernel_rfl) (by kernel_rfl) (fun _ _ _ h => h) (Or.inl ⟨by rfl, ?_⟩) (by assumption) ?_
                                    rotate_left
                                    · (intro w hSw; (try dsimp only at hSw); go_simp); (try with_reducible rfl)
                                    try simp only [Act.put, List.setIfInBounds_toArray, List.set_cons_zero, List.set_cons_succ]
                                    refine wpAnyH_take (i := 9) (oi := { dst := some 199, op := Op.fieldAddr 45 (Operand.tmp 22) 0, type := 0, pos := "top05_wt47d.go:113", after := #[], guard := none }) (v := ?_) rfl (by kernel_rfl) (by kernel_rfl) (by kernel_rfl) (fun _ _ _ h => h) (Or.inl ⟨by rfl, ?_⟩) (by assumption) ?_
                                    rotate_left
                                    · (intro w hSw; (try dsimp only at hSw); go_simp); (try with_reducible rfl)
                                    try simp only [Act.put, List.setIfInBounds_toArray, List.set_cons_zero, List.set_cons_succ]
                                    refine wpAnyH_take (i := 10) (oi := { dst := some 200, op := Op.load 3 (Operand.tmp 199), type := 3, pos := "top05_wt47d.go:113", after := #[{ on := 9, ground := Ground.data }], guard := none }) (v := ?_) rfl (by kernel_rfl) (by kernel_rfl) (by kernel_rfl) (fun _ _ _ h => h) (Or.inl ⟨by rfl, ?_⟩) (by assumption) ?_
                                    rotate_left
                                    · (intro w hSw; (try dsimp only at hSw); go_simp); (try with_reducible rfl)
                                    try simp only [Act.put, List.setIfInBounds_toArray, List.set_cons_zero, List.set_cons_succ]
                                    refine wpAnyH_take (i := 11) (oi := { dst := some 201, op := Op.binOp BinOp.sub 3 (Operand.tmp 198) (Operand.tmp 200) 3, type := 3, pos := "top05_wt47d.go:113", after := #[{ on := 8, ground := Ground.data }, { on := 10, ground := Ground.data }], guard := none }) (v := ?_) rfl (by kernel_rfl) (by kernel_rfl) (by kernel_rfl) (fun _ _ _ h => h) (Or.inl ⟨by rfl, ?_⟩) (by assumption) ?_
                                    rotate_left
                                    · (intro w hSw; (try dsimp only at hSw); go_simp); (try with_reducible rfl)
                                    try simp only [Act.put, List.setIfInBounds_toArray, List.set_cons_zero, List.set_cons_succ]
                                    refine wpAnyH_take (i := 12) (oi := { dst := some 202, op := Op.call { callee := Callee.builtin Builtin.max, args := #[Operand.const (Value.int IntKind.i64 0), Operand.tmp 201], argTypes := #[3, 3] }, type := 3, pos := "top05_wt47d.go:113", after := #[{ on := 11, ground := Ground.data }], guard := none }) (v := ?_) rfl (by kernel_rfl) (by kernel_rfl) (by kernel_rfl) (fun _ _ _ h => h) (Or.inl ⟨by rfl, ?_⟩) (by assumption) ?_
                                    rotate_left
                                    · (intro w hSw; (try dsimp only at hSw); go_simp); (try with_reducible rfl)
                                    try simp only [Act.put, List.setIfInBounds_toArray, List.set_cons_zero, List.set_cons_succ]
                                    refine wpAnyH_take (i := 13) (oi := { dst := some 203, op := Op.binOp BinOp.add 3 (Operand.tmp 197) (Operand.tmp 202) 3, type := 3, pos := "top05_wt47d.go:113", after := #[{ on := 7, ground := Ground.data }, { on := 12, ground := Ground.data }, { on := 14, ground := Ground.gcOnly Departure.lateStores }], guard := none }) (v := ?_) rfl (by kernel_rfl) (by kernel_rfl) (by kernel_rfl) (fun _ _ _ h => h) (Or.inl ⟨by rfl, ?_⟩) (by assumption) ?_
                                    rotate_left
                                    · (intro w hSw; (try dsimp only at hSw); go_simp); (try with_reducible rfl)
                                    try simp only [Act.put, List.setIfInBounds_toArray, List.set_cons_zero, List.set_cons_succ]
                                    refine wpAnyH_take (i := 14) (oi := { dst := some 18, op := Op.assign (Operand.tmp 196), type := 3, pos := "top05_wt47d.go:113", after := #[{ on := 6, ground := Ground.data }, { on := 0, ground := Ground.phase }, { on := 1, ground := Ground.phase }, { on := 2, ground := Ground.phase }, { on := 3, ground := Ground.phase }, { on := 4, ground := Ground.phase }, { on := 5, ground := Ground.phase }, { on := 6, ground := Ground.phase }, { on := 7, ground := Ground.textOnly Departure.lateStores }, { on := 8, ground := Ground.textOnly Departure.lateStores }, { on := 9, ground := Ground.textOnly Departure.lateStores }, { on := 10, ground := Ground.textOnly Departure.lateStores }, { on := 11, ground := Ground.textOnly Departure.lateStores }, { on := 12, ground := Ground.textOnly Departure.lateStoresUnsure }, { on := 13, ground := Ground.textOnly Departure.lateStores }], guard := none }) (v := ?_) rfl (by kernel_rfl) (by kernel_rfl) (by kernel_rfl) (fun _ _ _ h => h) (Or.inl ⟨by rfl, ?_⟩) (by assumption) ?_
                                    rotate_left
                                    · (intro w hSw; (try dsimp only at hSw); go_simp); (try with_reducible rfl)
                                    try simp only [Act.put, List.setIfInBounds_toArray, List.set_cons_zero, List.set_cons_succ]
                                    refine wpAnyH_take (i := 15) (oi := { dst := some 19, op := Op.assign (Operand.tmp 203), type := 3, pos := "top05_wt47d.go:113", after := #[{ on := 13, ground := Ground.data }, { on := 14, ground := Ground.chain }, { on := 0, ground := Ground.phase }, { on := 1, ground := Ground.phase }, { on := 2, ground := Ground.phase }, { on := 3, ground := Ground.phase }, { on := 4, ground := Ground.phase }, { on := 5, ground := Ground.phase }, { on := 6, ground := Ground.phase }, { on := 7, ground := Ground.phase }, { on := 8, ground := Ground.phase }, { on := 9, ground := Ground.phase }, { on := 10, ground := Ground.phase }, { on := 11, ground := Ground.phase }, { on := 12, ground := Ground.phase }, { on := 13, ground := Ground.phase }, { on := 14, ground := Ground.phase }], guard := none }) (v := ?_) rfl (by kernel_rfl) (by kernel_rfl) (by kernel_rfl) (fun _ _ _ h => h) (Or.inl ⟨by rfl, ?_⟩) (by assumption) ?_
                                    rotate_left
                                    · (intro w hSw; (try dsimp only at hSw); go_simp); (try with_reducible rfl)
                                    try simp only [Act.put, List.setIfInBounds_toArray, List.set_cons_zero, List.set_cons_succ]
                                    refine wpAnyH_done (by kernel_rfl) ?_ _
                                    clear hHeld0
                                    have hbel := bthen hbel hbzd
                                    obtain ⟨w6', hw6⟩ : ∃ v, v = wzd := ⟨_, rfl⟩
                                    rw [← hw6] at hbel ⊢
                                    clear hw6
                                    go_wp2
                                    go_roundw
                                    case rel => exact ⟨k + 1, by omega, by go_num, by rw [E1.out], by rw [E2.out], hbel⟩
                                    case measure => simp [intOf]; omega
                                  · obtain rfl : k = 62 := by omega
                                    have hdk : ¬ ((62 : Nat) : Int) < 62 := by omega
                                    have et : RL.take 62 = RL := List.take_of_length_le (by rw [HRL.out]; exact Nat.le_refl _)
                                    rw [et, ← HS1.out, ← HS2.out]
                                    have iC := HC.out.carry hbel
                                    have g0 := iC.cell (j := 0) (v := .int .i64 S1) rfl
                                    have g1 := iC.cell (j := 1) (v := .int .i64 S2) rfl
                                    have hneq := neqIv S1 S2
                                    have hB3 := bthen HB2.out hbel
                                    have HX3 := Lib.hid iX
                                    have HB3 := Lib.hid hB3
                                    have TNd := Lib.hid (fun q hq W => Needed_any a b c q W HOK.out hq)
                                    obtain ⟨w30, hw30⟩ : ∃ W, W = wr := ⟨_, rfl⟩
                                    subst hw30
                                    clear b1 b2 iX hbel hB3 et
                                    go_wp2_with fail
                                    clear g0 g1 iC hneq
                                    go_loopw [24, 25, 212] (fun o s i wx => ∃ (k : Nat) (P : List Int) (sm : Int), k ≤ n3 ∧ i = .int .i64 k ∧ s = .int .i64 sm ∧ Ned a b c P sm k ∧ wx.ownsRow w30.heap.size 3 1 o P.length (P.map (Value.int .i64)) ∧ Below w30.heap.size w30 wx) (fun _ _ i _ => n3 - (intOf i).toNat)
                                    case atStart => exact ⟨0, [], 0, by omega, rfl, rfl, Ned.zero a b c, World.ownsRow_nil _ _ _ _, Below.refl _ _⟩
                                    case round =>
                                      obtain ⟨k, P, sm, hk, rfl, rfl, hned, hown, hbel⟩ := hrel
                                      have hlw := hned.low
                                      have hln := hned.len
                                      have iX := HX3.out.carry hbel
                                      have x0 := iX.cell (j := 0) (v := .int .i64 a) rfl
                                      have x1 := iX.cell (j := 1) (v := .int .i64 b) rfl
                                      have x2 := iX.cell (j := 2) (v := .int .i64 c) rfl
                                      by_cases hlt : k < n3
                                      · have hdk : (k : Int) < (n3 : Int) := by omega
                                        obtain ⟨q, hq⟩ : ∃ q, l3[k]? = some q := ⟨_, List.getElem?_eq_getElem (by rw [← HN3.out]; exact hlt)⟩
                                        obtain ⟨rb3, ro3, rcap3, hre, hrcs⟩ := (HV3.out.below (bthen HB3.out hbel)).head (by rw [← HN3.out]; omega)
                                        simp only [Value.slice.injEq] at hre
                                        obtain ⟨rfl, -, rfl⟩ := hre
                                        have c0 := hrcs k (by rw [← HN3.out]; exact hlt)
                                        rw [hq, Option.getD_some] at c0
                                        have hqr := HP3.out.rng k q hq
                                        have TN := Lib.hid (TNd.out q hqr)
                                        clear hrcs hq iX
                                        go_wp2_with fail
                                        refine (TN.out _).mono ?_
                                        rintro e w5 ⟨⟨n, e5, rfl, hne⟩, hb5⟩
                                        have hown := own_below hown hb5
                                        have hbel := bthen hbel hb5
                                        clear c0 x0 x1 x2 TN hb5
                                        rcases hne with rfl | ⟨rfl, hn1, hn2⟩
                                        · have HS := Lib.hid hned.skip
                                          clear hned
                                          go_wp2
                                          go_roundw
                                          case rel => exact ⟨k + 1, P, sm, by omega, by go_num, by trivial, HS.out, hown, hbel⟩
                                          case measure => simp [intOf]; omega
                                        · have HT := Lib.hid (hned.take hqr hn1 hn2)
                                          have q1 : decide (n < q) = false := decide_eq_false (by omega)
                                          have q2 : IntKind.i64.wrap (sm + q) = sm + q := IntWalk.i64_in _ (by omega)
                                          obtain ⟨oa, oc, rfl⟩ := own_slice hown
                                          obtain ⟨i0, hi, hz0, hz1, hz2⟩ := info_parts Try.infZint
                                          have hs5 := hbel.size
                                          clear hned hn1 hn2
                                          go_wp2_with (at_builtin; refine wpList_append_own _ rfl (.tmp 231) (.tmp 233) 26 rfl w30.heap.size 3 i0 _ 1 8 Try.undZint hi hz0 hz1 hz2 rfl (by decide) (.slice oa P.length oc) P.length _ rfl (own_below hown (below_new _ _)) ⟨w5.heap.size, 0, none⟩ 1 1 [.int .i64 n] rfl rfl (cell_one_new _ _ _) (by simp [Value.oneCell']) (by unfold maxLen; omega) (by omega) (by simp; omega) ?_; intro v9 W4 hown9 hgrow9 _)
                                          have hB9 : Below w30.heap.size w30 W4 := (bthen hbel (below_new w5 (.cells #[.int .i64 n] 3))).trans ((Below.refl _ _).grown hgrow9 (by simp; omega) (fun k hk => (World.ownsRow.lt hown k hk).1))
                                          have hown4 : W4.ownsRow w30.heap.size 3 1 v9 (P ++ [n]).length ((P ++ [n]).map (Value.int .i64)) := by
                                            rw [List.length_append, List.length_singleton, List.map_append]; exact hown9
                                          clear hown9 hown hbel hgrow9
                                          go_wp2_with fail
                                          go_roundw
                                          case rel => exact ⟨k + 1, P ++ [n], sm + q, by omega, by go_num, by trivial, HT.out, hown4, hB9⟩
                                          case measure => simp [intOf]; omega
                                      · obtain rfl : k = n3 := by omega
                                        have hdk : ¬ (k : Int) < (k : Int) := by omega
                                        have hP := Ints.of_own hown rfl
                                        have TB2 := Lib.hid (Balance_any a b c u24 P wr HOK.out (by omega) hned.rng hP)
                                        have hge := hned.sum
                                        obtain ⟨S3, hS3⟩ : ∃ s, s = smL (dlLo a b c) P := ⟨_, rfl⟩
                                        obtain ⟨S4, hS4⟩ : ∃ s, s = smL (dlHi a b c) P := ⟨_, rfl⟩
                                        rw [← hS3] at hge TB2
                                        rw [← hS4] at TB2
                                        have q1 : decide (sm ≤ S3) = true := decide_eq_true hge
                                        have hBB := bthen HB3.out hbel
                                        clear hP hned hown hS3 hS4 hge iX hbel
                                        go_wp2_with fail
                                        refine TB2.out.mono ?_
                                        rintro e w6 ⟨rfl, hb6⟩
                                        have hBB := bthen hBB hb6
                                        clear TB2 hb6 x0 x1 x2
                                        go_upto_region 49 with fail
                                        obtain ⟨V6, hV6⟩ : ∃ v, v = World.alloc w6 (Obj.cells #[.int .i64 S3, .int .i64 S4] 45) := ⟨_, rfl⟩
                                        have kV6 : Below w6.heap.size w6 V6 := by rw [hV6]; exact below_new _ _
                                        have iV6 : Blk V6 (w6.heap.size) 45 [.int .i64 S3, .int .i64 S4] := by rw [hV6]; exact Blk.new _ _ _
                                        have sV6 : V6.heap.size = w6.heap.size + 1 := by rw [hV6]; simp
                                        rw [← hV6]
                                        clear hV6
                                        have d0 := iV6.cell (j := 0) (v := .int .i64 S3) rfl
                                        have hBB := bthen hBB kV6
                                        clear kV6 iV6 sV6
                                        go_wp2_with fail
                                        refine (TD.out _).mono ?_
                                        rintro e w9 ⟨rfl, hb9⟩
                                        go_wp2
                                        go_ret
                                        exact ⟨rfl, bthen hBB hb9⟩
                            · go_simp
                              obtain ⟨wz8, hwz⟩ : ∃ v, v = wz1.alloc (Obj.cells #[.int .i64 0, .int .i64 0] 45) := ⟨_, rfl⟩
                              rw [← hwz]
                              have hl : Below wz1.heap.size wz1 wz8 := by rw [hwz]; exact below_new _ _
                              have hbz8 := bthen hbz1 hl
                              have iC : Blk wz8 wz1.heap.size 45 [.int .i64 0, .int .i64 0] := by rw [hwz]; exact Blk.new _ _ _
                              have hGc : W8.heap.size ≤ wz1.heap.size := (hbz1).size
                              generalize wz1.heap.size = GC at iC hGc ⊢
                              clear hwz
                              have iN := iN.carry hl
                              clear hl
                              refine hK.out _ _ ⟨cellb x0 hbz8, cellb x1 hbz8, cellb x2 hbz8⟩ (fun hHeld2 => ?_)
                              clear hK K hHeld1
                              try simp only [Act.put, List.setIfInBounds_toArray, List.set_cons_zero, List.set_cons_succ]
                              refine wpAnyH_ready (rs := [3]) (by kernel_rfl) (by simp) ?_
                              refine (AllReadyH.cons (o := { dst := some 170, op := Op.call { callee := Callee.builtin Builtin.append, args := #[Operand.tmp 168, Operand.tmp 169], argTypes := #[26, 26] }, type := 26, pos := "top05_wt47d.go:103", after := #[{ on := 1, ground := Ground.data }, { on := 2, ground := Ground.data }], guard := none }) rfl (fun K hK => ?_) AllReadyH.nil)
                              obtain ⟨u3, wz3, hr3, ho3, hl⟩ := run_append_freshI (P := Try.prog) wz8 26 26 26 3 i0 _ Try.undZint Try.undZint hi hz0 hz1 hz2 rfl G1 iN (.slice ra 62 rc) RL (hur.below hbz8) (by rw [HRL.out]; decide)
                              refine wp_append_run (.tmp 168) (.tmp 169) 26 rfl rfl rfl hr3 ?_
                              have hbz3 := bthen hbz8 hl
                              have iN := iN.carry hl
                              have iC := iC.carry hl
                              clear hl
                              refine hK.out _ _ ⟨cellb x0 hbz3, cellb x1 hbz3, cellb x2 hbz3⟩ (fun hHeld3 => ?_)
                              clear hK K hHeld2
                              try simp only [Act.put, List.setIfInBounds_toArray, List.set_cons_zero, List.set_cons_succ]
                              refine wpAnyH_ready (rs := [4]) (by kernel_rfl) (by simp) ?_
                              refine (AllReadyH.cons (o := { dst := some 171, op := Op.call { callee := Callee.value (Operand.func 12), args := #[Operand.tmp 167, Operand.tmp 170], argTypes := #[48, 26] }, type := 46, pos := "top05_wt47d.go:103", after := #[{ on := 0, ground := Ground.data }, { on := 3, ground := Ground.data }, { on := 3, ground := Ground.chain }], guard := none }) rfl (fun K hK => ?_) AllReadyH.nil)
                              go_simp
                              refine (TB.out u3 wz3 ho3.ints).mono ?_
                              rintro e wz4 ⟨rfl, hl⟩
                              (try go_wp2_with fail)
                              have hbz4 := bthen hbz3 hl
                              have iN := iN.carry hl
                              have iC := iC.carry hl
                              have ho3 := ho3.carry hl
                              clear hl
                              refine hK.out _ _ ⟨cellb x0 hbz4, cellb x1 hbz4, cellb x2 hbz4⟩ (fun hHeld4 => ?_)
                              clear hK K hHeld3
                              try simp only [Act.put, List.setIfInBounds_toArray, List.set_cons_zero, List.set_cons_succ]
                              refine wpAnyH_take (i := 5) (oi := { dst := some 166, op := Op.move (Operand.tmp 171), type := 46, pos := "top05_wt47d.go:103", after := #[{ on := 4, ground := Ground.data }], guard := none }) (v := ?_) rfl (by kernel_rfl) (by kernel_rfl) (by kernel_rfl) (fun _ _ _ h => h) (Or.inl ⟨by rfl, ?_⟩) (by assumption) ?_
                              rotate_left
                              · (intro w hSw; (try dsimp only at hSw); go_simp); (try with_reducible rfl)
                              try simp only [Act.put, List.setIfInBounds_toArray, List.set_cons_zero, List.set_cons_succ]
                              refine wpAnyH_take (i := 6) (oi := { dst := some 172, op := Op.extract (Operand.tmp 166) 0, type := 45, pos := "top05_wt47d.go:103", after := #[{ on := 5, ground := Ground.data }], guard := none }) (v := ?_) rfl (by kernel_rfl) (by kernel_rfl) (by kernel_rfl) (fun _ _ _ h => h) (Or.inl ⟨by rfl, ?_⟩) (by assumption) ?_
                              rotate_left
                              · (intro w hSw; (try dsimp only at hSw); go_simp); (try with_reducible rfl)
                              try simp only [Act.put, List.setIfInBounds_toArray, List.set_cons_zero, List.set_cons_succ]
                              refine wpAnyH_take (i := 7) (oi := { dst := some 173, op := Op.extract (Operand.tmp 166) 1, type := 36, pos := "top05_wt47d.go:103", after := #[{ on := 5, ground := Ground.data }, { on := 9, ground := Ground.gcOnly Departure.lateStores }], guard := none }) (v := ?_) rfl (by kernel_rfl) (by kernel_rfl) (by kernel_rfl) (fun _ _ _ h => h) (Or.inl ⟨by rfl, ?_⟩) (by assumption) ?_
                              rotate_left
                              · (intro w hSw; (try dsimp only at hSw); go_simp); (try with_reducible rfl)
                              try simp only [Act.put, List.setIfInBounds_toArray, List.set_cons_zero, List.set_cons_succ]
                              refine wpAnyH_ready (rs := [9]) (by kernel_rfl) (by simp) ?_
                              refine (AllReadyH.cons (o := { dst := none, op := Op.store 45 (Operand.tmp 16) (Operand.tmp 172), type := 0, pos := "top05_wt47d.go:103", after := #[{ on := 8, ground := Ground.data }, { on := 6, ground := Ground.data }, { on := 4, ground := Ground.chain }, { on := 0, ground := Ground.phase }, { on := 1, ground := Ground.phase }, { on := 2, ground := Ground.phase }, { on := 3, ground := Ground.phase }, { on := 4, ground := Ground.phase }, { on := 5, ground := Ground.phase }, { on := 6, ground := Ground.phase }, { on := 7, ground := Ground.textOnly Departure.lateStores }, { on := 8, ground := Ground.phase }], guard := none }) rfl (fun K hK => ?_) AllReadyH.nil)
                              have c0 := iC.cell (j := 0) (v := .int .i64 0) rfl
                              have c1 := iC.cell (j := 1) (v := .int .i64 0) rfl
                              have f0 := iC.frozen 0
                              have f1 := iC.frozen 1
                              go_simp
                              obtain ⟨wz9, hwz⟩ : ∃ v, v = (wz4.setCell ⟨GC, 0, none⟩ (.int .i64 S1)).setCell ⟨GC, 1, none⟩ (.int .i64 S2) := ⟨_, rfl⟩
                              rw [← hwz]
                              have hbz9 : Below W8.heap.size W8 wz9 := by rw [hwz]; exact (hbz4.setCell (p := ⟨GC, 0, none⟩) (by simp only; exact hGc) _).setCell (p := ⟨GC, 1, none⟩) (by simp only; exact hGc) _
                              have iC := iC.set2 (.int .i64 S1) (.int .i64 S2)
                              rw [← hwz] at iC
                              clear hwz
                              refine hK.out _ _ ⟨cellb x0 hbz9, cellb x1 hbz9, cellb x2 hbz9⟩ (fun hHeld5 => ?_)
                              clear hK K hHeld4
                              try simp only [Act.put, List.setIfInBounds_toArray, List.set_cons_zero, List.set_cons_succ]
                              refine wpAnyH_take (i := 10) (oi := { dst := some 17, op := Op.assign (Operand.tmp 173), type := 36, pos := "top05_wt47d.go:103", after := #[{ on := 7, ground := Ground.data }, { on := 9, ground := Ground.chain }, { on := 0, ground := Ground.phase }, { on := 1, ground := Ground.phase }, { on := 2, ground := Ground.phase }, { on := 3, ground := Ground.phase }, { on := 4, ground := Ground.phase }, { on := 5, ground := Ground.phase }, { on := 6, ground := Ground.phase }, { on := 7, ground := Ground.phase }, { on := 8, ground := Ground.phase }, { on := 9, ground := Ground.phase }], guard := none }) (v := ?_) rfl (by kernel_rfl) (by kernel_rfl) (by kernel_rfl) (fun _ _ _ h => h) (Or.inl ⟨by rfl, ?_⟩) (by assumption) ?_
                              rotate_left
                              · (intro w hSw; (try dsimp only at hSw); go_simp); (try with_reducible rfl)
                              try simp only [Act.put, List.setIfInBounds_toArray, List.set_cons_zero, List.set_cons_succ]
                              refine wpAnyH_done (by kernel_rfl) ?_ _
                              clear hHeld5
                              have hb20 := hbz9
                              obtain ⟨w20, hW20⟩ : ∃ v, v = wz9 := ⟨_, rfl⟩
                              rw [← hW20] at hb20 iC ⊢
                              clear hW20
                              have hX2 := iX.carry hb20
                              have hB2 := bthen hB hb20
                              have hU2 := hur.below hb20
                              have HX2 := Lib.hid hX2
                              have HB2 := Lib.hid hB2
                              have HU2 := Lib.hid hU2
                              have HC := Lib.hid iC
                              have TLs := Lib.hid (fun p hp W => Loss_any a b c p W HOK.out hp)
                              clear x0 x1 x2 hX2 hB2 hU2 iX hB hur hb20 iC TB hi hz0 hz1 hz2
                              go_wp2_with fail
                              go_loopw [18, 19, 178] (fun z1 z2 i wr => ∃ k : Nat, k ≤ 62 ∧ i = .int .i64 k ∧ z1 = .int .i64 (smL (dlLo a b c) (RL.take k)) ∧ z2 = .int .i64 (smL (dlHi a b c) (RL.take k)) ∧ Below w20.heap.size w20 wr) (fun _ _ i _ => 62 - (intOf i).toNat)
                              case atStart => exact ⟨0, by omega, rfl, rfl, rfl, Below.refl _ _⟩
                              case round =>
                                obtain ⟨k, hk, rfl, rfl, rfl, hbel⟩ := hrel
                                have b1 := smL_rng (f := dlLo a b c) (l := RL.take k) (m := 1000) (by omega) (fun y hy => (dl_rng HOK.out (HRR.out y (List.mem_of_mem_take hy))).1)
                                have b2 := smL_rng (f := dlHi a b c) (l := RL.take k) (m := 1000) (by omega) (fun y hy => (dl_rng HOK.out (HRR.out y (List.mem_of_mem_take hy))).2)
                                rw [List.length_take, HRL.out, Nat.min_eq_left hk] at b1 b2
                                have iX := HX2.out.carry hbel
                                by_cases hlt : k < 62
                                · have hdk : (k : Int) < 62 := by omega
                                  obtain ⟨p, hp⟩ : ∃ p, RL[k]? = some p := ⟨_, List.getElem?_eq_getElem (by rw [HRL.out]; exact hlt)⟩
                                  obtain ⟨rb, ro, rcap, hre, hrcs⟩ := (HU2.out.below hbel).head (by rw [HRL.out]; omega)
                                  rw [HRL.out] at hre
                                  simp only [Value.slice.injEq] at hre
                                  obtain ⟨rfl, -, rfl⟩ := hre
                                  have c0 := hrcs k (by rw [HRL.out]; exact hlt)
                                  rw [hp, Option.getD_some] at c0
                                  have hpr := HRR.out p (List.mem_of_getElem? hp)
                                  have e1 := smL_take (dlLo a b c) hp
                                  have e2 := smL_take (dlHi a b c) hp
                                  rw [show dlLo a b c p = max 0 (p - losHi a b c p) from rfl] at e1
                                  rw [show dlHi a b c p = max 0 (p - losLo a b c p) from rfl] at e2
                                  have hlr := los_rng HOK.out hpr
                                  have TN := Lib.hid (TLs.out p hpr)
                                  obtain ⟨A1, hA1⟩ : ∃ s, s = smL (dlLo a b c) (RL.take k) := ⟨_, rfl⟩
                                  obtain ⟨A2, hA2⟩ : ∃ s, s = smL (dlHi a b c) (RL.take k) := ⟨_, rfl⟩
                                  obtain ⟨LO, hLO⟩ : ∃ s, s = losLo a b c p := ⟨_, rfl⟩
                                  obtain ⟨HI, hHI⟩ : ∃ s, s = losHi a b c p := ⟨_, rfl⟩
                                  rw [← hA1] at b1 e1 ⊢
                                  rw [← hA2] at b2 e2 ⊢
                                  rw [← hLO] at hlr e2 TN
                                  rw [← hHI] at hlr e1 TN
                                  have E1 := Lib.hid e1
                                  have E2 := Lib.hid e2
                                  have k1 : IntKind.i64.wrap (p - HI) = p - HI := IntWalk.i64_in _ (by omega)
                                  have k2 : IntKind.i64.wrap (p - LO) = p - LO := IntWalk.i64_in _ (by omega)
                                  have k3 : IntKind.i64.wrap (A1 + max 0 (p - HI)) = A1 + max 0 (p - HI) := IntWalk.i64_in _ (by omega)
                                  have k4 : IntKind.i64.wrap (A2 + max 0 (p - LO)) = A2 + max 0 (p - LO) := IntWalk.i64_in _ (by omega)
                                  have x0 := iX.cell (j := 0) (v := .int .i64 a) rfl
                                  have x1 := iX.cell (j := 1) (v := .int .i64 b) rfl
                                  have x2 := iX.cell (j := 2) (v := .int .i64 c) rfl
                                  clear hrcs hp hpr e1 e2 hlr hA1 hA2 hLO hHI b1 b2 iX
                                  go_wp2_with fail
                                  refine (TN.out _).mono ?_
                                  rintro e w5 ⟨rfl, hb5⟩
                                  have hbel := bthen hbel hb5
                                  clear c0 x0 x1 x2 TN hb5
                                  go_upto_region 30 with fail
                                  obtain ⟨V1, hV1⟩ : ∃ v, v = World.alloc w5 (Obj.cells #[.int .i64 LO, .int .i64 HI] 45) := ⟨_, rfl⟩
                                  have kV1 : Below w5.heap.size w5 V1 := by rw [hV1]; exact below_new _ _
                                  have iV1 : Blk V1 (w5.heap.size) 45 [.int .i64 LO, .int .i64 HI] := by rw [hV1]; exact Blk.new _ _ _
                                  have sV1 : V1.heap.size = w5.heap.size + 1 := by rw [hV1]; simp
                                  rw [← hV1]
                                  clear hV1
                                  have d0 := iV1.cell (j := 0) (v := .int .i64 LO) rfl
                                  have d1 := iV1.cell (j := 1) (v := .int .i64 HI) rfl
                                  have hbel := bthen hbel kV1
                                  clear kV1 iV1 sV1
                                  go_upto_region 32 with fail
                                  refine wp_region_held_drew (S := (fun W => W.cell? ⟨w5.heap.size, 0, none⟩ = some (.int .i64 LO) ∧ W.cell? ⟨w5.heap.size, 1, none⟩ = some (.int .i64 HI))) (by kernel_rfl) ⟨cellb d0 (Below.refl _ _).drew, cellb d1 (Below.refl _ _).drew⟩ (fun hHeld0 => ?_)
                                  obtain ⟨wzd, hwz⟩ : ∃ v, v = V1.drew := ⟨_, rfl⟩
                                  rw [← hwz] at hHeld0 ⊢
                                  have hbzd : Below V1.heap.size V1 wzd := by rw [hwz]; exact (Below.refl _ _).drew
                                  have hlzd : Below V1.heap.size V1 wzd := by rw [hwz]; exact (Below.refl _ _).drew
                                  clear hwz hlzd
                                  refine wpAnyH_take (i := 0) (oi := { dst := some 190, op := Op.move (Operand.tmp 18), type := 3, pos := "top05_wt47d.go:113", after := #[], guard := none }) (v := ?_) rfl (by kernel_rfl) (by kernel_rfl) (by kernel_rfl) (fun _ _ _ h => h) (Or.inl ⟨by rfl, ?_⟩) (by assumption) ?_
                                  rotate_left
                                  · (intro w hSw; (try dsimp only at hSw); go_simp); (try with_reducible rfl)
                                  try simp only [Act.put, List.setIfInBounds_toArray, List.set_cons_zero, List.set_cons_succ]
                                  refine wpAnyH_take (i := 1) (oi := { dst := some 191, op := Op.move (Operand.tmp 21), type := 3, pos := "top05_wt47d.go:113", after := #[], guard := none }) (v := ?_) rfl (by kernel_rfl) (by kernel_rfl) (by kernel_rfl) (fun _ _ _ h => h) (Or.inl ⟨by rfl, ?_⟩) (by assumption) ?_
                                  rotate_left
                                  · (intro w hSw; (try dsimp only at hSw); go_simp); (try with_reducible rfl)
                                  try simp only [Act.put, List.setIfInBounds_toArray, List.set_cons_zero, List.set_cons_succ]
                                  refine wpAnyH_take (i := 2) (oi := { dst := some 192, op := Op.fieldAddr 45 (Operand.tmp 22) 1, type := 0, pos := "top05_wt47d.go:113", after := #[], guard := none }) (v := ?_) rfl (by kernel_rfl) (by kernel_rfl) (by kernel_rfl) (fun _ _ _ h => h) (Or.inl ⟨by rfl, ?_⟩) (by assumption) ?_
                                  rotate_left
                                  · (intro w hSw; (try dsimp only at hSw); go_simp); (try with_reducible rfl)
                                  try simp only [Act.put, List.setIfInBounds_toArray, List.set_cons_zero, List.set_cons_succ]
                                  refine wpAnyH_take (i := 3) (oi := { dst := some 193, op := Op.load 3 (Operand.tmp 192), type := 3, pos := "top05_wt47d.go:113", after := #[{ on := 2, ground := Ground.data }], guard := none }) (v := ?_) rfl (by kernel_rfl) (by kernel_rfl) (by kernel_rfl) (fun _ _ _ h => h) (Or.inl ⟨by rfl, ?_⟩) (by assumption) ?_
                                  rotate_left
                                  · (intro w hSw; (try dsimp only at hSw); go_simp); (try with_reducible rfl)
                                  try simp only [Act.put, List.setIfInBounds_toArray, List.set_cons_zero, List.set_cons_succ]
                                  refine wpAnyH_take (i := 4) (oi := { dst := some 194, op := Op.binOp BinOp.sub 3 (Operand.tmp 191) (Operand.tmp 193) 3, type := 3, pos := "top05_wt47d.go:113", after := #[{ on := 1, ground := Ground.data }, { on := 3, ground := Ground.data }], guard := none }) (v := ?_) rfl (by kernel_rfl) (by kernel_rfl) (by kernel_rfl) (fun _ _ _ h => h) (Or.inl ⟨by rfl, ?_⟩) (by assumption) ?_
                                  rotate_left
                                  · (intro w hSw; (try dsimp only at hSw); go_simp); (try with_reducible rfl)
                                  try simp only [Act.put, List.setIfInBounds_toArray, List.set_cons_zero, List.set_cons_succ]
                                  refine wpAnyH_take (i := 5) (oi := { dst := some 195, op := Op.call { callee := Callee.builtin Builtin.max, args := #[Operand.const (Value.int IntKind.i64 0), Operand.tmp 194], argTypes := #[3, 3] }, type := 3, pos := "top05_wt47d.go:113", after := #[{ on := 4, ground := Ground.data }], guard := none }) (v := ?_) rfl (by kernel_rfl) (by kernel_rfl) (by kernel_rfl) (fun _ _ _ h => h) (Or.inl ⟨by rfl, ?_⟩) (by assumption) ?_
                                  rotate_left
                                  · (intro w hSw; (try dsimp only at hSw); go_simp); (try with_reducible rfl)
                                  try simp only [Act.put, List.setIfInBounds_toArray, List.set_cons_zero, List.set_cons_succ]
                                  refine wpAnyH_take (i := 6) (oi := { dst := some 196, op := Op.binOp BinOp.add 3 (Operand.tmp 190) (Operand.tmp 195) 3, type := 3, pos := "top05_wt47d.go:113", after := #[{ on := 0, ground := Ground.data }, { on := 5, ground := Ground.data }], guard := none }) (v := ?_) rfl (by kernel_rfl) (by kernel_rfl) (by kernel_rfl) (fun _ _ _ h => h) (Or.inl ⟨by rfl, ?_⟩) (by assumption) ?_
                                  rotate_left
                                  · (intro w hSw; (try dsimp only at hSw); go_simp); (try with_reducible rfl)
                                  try simp only [Act.put, List.setIfInBounds_toArray, List.set_cons_zero, List.set_cons_succ]
                                  refine wpAnyH_take (i := 7) (oi := { dst := some 197, op := Op.move (Operand.tmp 19), type := 3, pos := "top05_wt47d.go:113", after := #[{ on := 14, ground := Ground.gcOnly Departure.lateStores }], guard := none }) (v := ?_) rfl (by kernel_rfl) (by kernel_rfl) (by kernel_rfl) (fun _ _ _ h => h) (Or.inl ⟨by rfl, ?_⟩) (by assumption) ?_
                                  rotate_left
                                  · (intro w hSw; (try dsimp only at hSw); go_simp); (try with_reducible rfl)
                                  try simp only [Act.put, List.setIfInBounds_toArray, List.set_cons_zero, List.set_cons_succ]
                                  refine wpAnyH_take (i := 8) (oi := { dst := some 198, op := Op.move (Operand.tmp 21), type := 3, pos := "top05_wt47d.go:113", after := #[], guard := none }) (v := ?_) rfl (by kernel_rfl) (by kernel_rfl) (by kernel_rfl) (fun _ _ _ h => h) (Or.inl ⟨by rfl, ?_⟩) (by assumption) ?_
                                  rotate_left
                                  · (intro w hSw; (try dsimp only at hSw); go_simp); (try with_reducible rfl)
                                  try simp only [Act.put, List.setIfInBounds_toArray, List.set_cons_zero, List.set_cons_succ]
                                  refine wpAnyH_take (i := 9) (oi := { dst := some 199, op := Op.fieldAddr 45 (Operand.tmp 22) 0, type := 0, pos := "top05_wt47d.go:113", after := #[], guard := none }) (v := ?_) rfl (by kernel_rfl) (by kernel_rfl) (by kernel_rfl) (fun _ _ _ h => h) (Or.inl ⟨by rfl, ?_⟩) (by assumption) ?_
                                  rotate_left
                                  · (intro w hSw; (try dsimp only at hSw); go_simp); (try with_reducible rfl)
                                  try simp only [Act.put, List.setIfInBounds_toArray, List.set_cons_zero, List.set_cons_succ]
                                  refine wpAnyH_take (i := 10) (oi := { dst := some 200, op := Op.load 3 (Operand.tmp 199), type := 3, pos := "top05_wt47d.go:113", after := #[{ on := 9, ground := Ground.data }], guard := none }) (v := ?_) rfl (by kernel_rfl) (by kernel_rfl) (by kernel_rfl) (fun _ _ _ h => h) (Or.inl ⟨by rfl, ?_⟩) (by assumption) ?_
                                  rotate_left
                                  · (intro w hSw; (try dsimp only at hSw); go_simp); (try with_reducible rfl)
                                  try simp only [Act.put, List.setIfInBounds_toArray, List.set_cons_zero, List.set_cons_succ]
                                  refine wpAnyH_take (i := 11) (oi := { dst := some 201, op := Op.binOp BinOp.sub 3 (Operand.tmp 198) (Operand.tmp 200) 3, type := 3, pos := "top05_wt47d.go:113", after := #[{ on := 8, ground := Ground.data }, { on := 10, ground := Ground.data }], guard := none }) (v := ?_) rfl (by kernel_rfl) (by kernel_rfl) (by kernel_rfl) (fun _ _ _ h => h) (Or.inl ⟨by rfl, ?_⟩) (by assumption) ?_
                                  rotate_left
                                  · (intro w hSw; (try dsimp only at hSw); go_simp); (try with_reducible rfl)
                                  try simp only [Act.put, List.setIfInBounds_toArray, List.set_cons_zero, List.set_cons_succ]
                                  refine wpAnyH_take (i := 12) (oi := { dst := some 202, op := Op.call { callee := Callee.builtin Builtin.max, args := #[Operand.const (Value.int IntKind.i64 0), Operand.tmp 201], argTypes := #[3, 3] }, type := 3, pos := "top05_wt47d.go:113", after := #[{ on := 11, ground := Ground.data }], guard := none }) (v := ?_) rfl (by kernel_rfl) (by kernel_rfl) (by kernel_rfl) (fun _ _ _ h => h) (Or.inl ⟨by rfl, ?_⟩) (by assumption) ?_
                                  rotate_left
                                  · (intro w hSw; (try dsimp only at hSw); go_simp); (try with_reducible rfl)
                                  try simp only [Act.put, List.setIfInBounds_toArray, List.set_cons_zero, List.set_cons_succ]
                                  refine wpAnyH_take (i := 13) (oi := { dst := some 203, op := Op.binOp BinOp.add 3 (Operand.tmp 197) (Operand.tmp 202) 3, type := 3, pos := "top05_wt47d.go:113", after := #[{ on := 7, ground := Ground.data }, { on := 12, ground := Ground.data }, { on := 14, ground := Ground.gcOnly Departure.lateStores }], guard := none }) (v := ?_) rfl (by kernel_rfl) (by kernel_rfl) (by kernel_rfl) (fun _ _ _ h => h) (Or.inl ⟨by rfl, ?_⟩) (by assumption) ?_
                                  rotate_left
                                  · (intro w hSw; (try dsimp only at hSw); go_simp); (try with_reducible rfl)
                                  try simp only [Act.put, List.setIfInBounds_toArray, List.set_cons_zero, List.set_cons_succ]
                                  refine wpAnyH_take (i := 14) (oi := { dst := some 18, op := Op.assign (Operand.tmp 196), type := 3, pos := "top05_wt47d.go:113", after := #[{ on := 6, ground := Ground.data }, { on := 0, ground := Ground.phase }, { on := 1, ground := Ground.phase }, { on := 2, ground := Ground.phase }, { on := 3, ground := Ground.phase }, { on := 4, ground := Ground.phase }, { on := 5, ground := Ground.phase }, { on := 6, ground := Ground.phase }, { on := 7, ground := Ground.textOnly Departure.lateStores }, { on := 8, ground := Ground.textOnly Departure.lateStores }, { on := 9, ground := Ground.textOnly Departure.lateStores }, { on := 10, ground := Ground.textOnly Departure.lateStores }, { on := 11, ground := Ground.textOnly Departure.lateStores }, { on := 12, ground := Ground.textOnly Departure.lateStoresUnsure }, { on := 13, ground := Ground.textOnly Departure.lateStores }], guard := none }) (v := ?_) rfl (by kernel_rfl) (by kernel_rfl) (by kernel_rfl) (fun _ _ _ h => h) (Or.inl ⟨by rfl, ?_⟩) (by assumption) ?_
                                  rotate_left
                                  · (intro w hSw; (try dsimp only at hSw); go_simp); (try with_reducible rfl)
                                  try simp only [Act.put, List.setIfInBounds_toArray, List.set_cons_zero, List.set_cons_succ]
                                  refine wpAnyH_take (i := 15) (oi := { dst := some 19, op := Op.assign (Operand.tmp 203), type := 3, pos := "top05_wt47d.go:113", after := #[{ on := 13, ground := Ground.data }, { on := 14, ground := Ground.chain }, { on := 0, ground := Ground.phase }, { on := 1, ground := Ground.phase }, { on := 2, ground := Ground.phase }, { on := 3, ground := Ground.phase }, { on := 4, ground := Ground.phase }, { on := 5, ground := Ground.phase }, { on := 6, ground := Ground.phase }, { on := 7, ground := Ground.phase }, { on := 8, ground := Ground.phase }, { on := 9, ground := Ground.phase }, { on := 10, ground := Ground.phase }, { on := 11, ground := Ground.phase }, { on := 12, ground := Ground.phase }, { on := 13, ground := Ground.phase }, { on := 14, ground := Ground.phase }], guard := none }) (v := ?_) rfl (by kernel_rfl) (by kernel_rfl) (by kernel_rfl) (fun _ _ _ h => h) (Or.inl ⟨by rfl, ?_⟩) (by assumption) ?_
                                  rotate_left
                                  · (intro w hSw; (try dsimp only at hSw); go_simp); (try with_reducible rfl)
                                  try simp only [Act.put, List.setIfInBounds_toArray, List.set_cons_zero, List.set_cons_succ]
                                  refine wpAnyH_done (by kernel_rfl) ?_ _
                                  clear hHeld0
                                  have hbel := bthen hbel hbzd
                                  obtain ⟨w6', hw6⟩ : ∃ v, v = wzd := ⟨_, rfl⟩
                                  rw [← hw6] at hbel ⊢
                                  clear hw6
                                  go_wp2
                                  go_roundw
                                  case rel => exact ⟨k + 1, by omega, by go_num, by rw [E1.out], by rw [E2.out], hbel⟩
                                  case measure => simp [intOf]; omega
                                · obtain rfl : k = 62 := by omega
                                  have hdk : ¬ ((62 : Nat) : Int) < 62 := by omega
                                  have et : RL.take 62 = RL := List.take_of_length_le (by rw [HRL.out]; exact Nat.le_refl _)
                                  rw [et, ← HS1.out, ← HS2.out]
                                  have iC := HC.out.carry hbel
                                  have g0 := iC.cell (j := 0) (v := .int .i64 S1) rfl
                                  have g1 := iC.cell (j := 1) (v := .int .i64 S2) rfl
                                  have hneq := neqIv S1 S2
                                  have hB3 := bthen HB2.out hbel
                                  have HX3 := Lib.hid iX
                                  have HB3 := Lib.hid hB3
                                  have TNd := Lib.hid (fun q hq W => Needed_any a b c q W HOK.out hq)
                                  obtain ⟨w30, hw30⟩ : ∃ W, W = wr := ⟨_, rfl⟩
                                  subst hw30
                                  clear b1 b2 iX hbel hB3 et
                                  go_wp2_with fail
                                  clear g0 g1 iC hneq
                                  go_loopw [24, 25, 212] (fun o s i wx => ∃ (k : Nat) (P : List Int) (sm : Int), k ≤ n3 ∧ i = .int .i64 k ∧ s = .int .i64 sm ∧ Ned a b c P sm k ∧ wx.ownsRow w30.heap.size 3 1 o P.length (P.map (Value.int .i64)) ∧ Below w30.heap.size w30 wx) (fun _ _ i _ => n3 - (intOf i).toNat)
                                  case atStart => exact ⟨0, [], 0, by omega, rfl, rfl, Ned.zero a b c, World.ownsRow_nil _ _ _ _, Below.refl _ _⟩
                                  case round =>
                                    obtain ⟨k, P, sm, hk, rfl, rfl, hned, hown, hbel⟩ := hrel
                                    have hlw := hned.low
                                    have hln := hned.len
                                    have iX := HX3.out.carry hbel
                                    have x0 := iX.cell (j := 0) (v := .int .i64 a) rfl
                                    have x1 := iX.cell (j := 1) (v := .int .i64 b) rfl
                                    have x2 := iX.cell (j := 2) (v := .int .i64 c) rfl
                                    by_cases hlt : k < n3
                                    · have hdk : (k : Int) < (n3 : Int) := by omega
                                      obtain ⟨q, hq⟩ : ∃ q, l3[k]? = some q := ⟨_, List.getElem?_eq_getElem (by rw [← HN3.out]; exact hlt)⟩
                                      obtain ⟨rb3, ro3, rcap3, hre, hrcs⟩ := (HV3.out.below (bthen HB3.out hbel)).head (by rw [← HN3.out]; omega)
                                      simp only [Value.slice.injEq] at hre
                                      obtain ⟨rfl, -, rfl⟩ := hre
                                      have c0 := hrcs k (by rw [← HN3.out]; exact hlt)
                                      rw [hq, Option.getD_some] at c0
                                      have hqr := HP3.out.rng k q hq
                                      have TN := Lib.hid (TNd.out q hqr)
                                      clear hrcs hq iX
                                      go_wp2_with fail
                                      refine (TN.out _).mono ?_
                                      rintro e w5 ⟨⟨n, e5, rfl, hne⟩, hb5⟩
                                      have hown := own_below hown hb5
                                      have hbel := bthen hbel hb5
                                      clear c0 x0 x1 x2 TN hb5
                                      rcases hne with rfl | ⟨rfl, hn1, hn2⟩
                                      · have HS := Lib.hid hned.skip
                                        clear hned
                                        go_wp2
                                        go_roundw
                                        case rel => exact ⟨k + 1, P, sm, by omega, by go_num, by trivial, HS.out, hown, hbel⟩
                                        case measure => simp [intOf]; omega
                                      · have HT := Lib.hid (hned.take hqr hn1 hn2)
                                        have q1 : decide (n < q) = false := decide_eq_false (by omega)
                                        have q2 : IntKind.i64.wrap (sm + q) = sm + q := IntWalk.i64_in _ (by omega)
                                        obtain ⟨oa, oc, rfl⟩ := own_slice hown
                                        obtain ⟨i0, hi, hz0, hz1, hz2⟩ := info_parts Try.infZint
                                        have hs5 := hbel.size
                                        clear hned hn1 hn2
                                        go_wp2_with (at_builtin; refine wpList_append_own _ rfl (.tmp 231) (.tmp 233) 26 rfl w30.heap.size 3 i0 _ 1 8 Try.undZint hi hz0 hz1 hz2 rfl (by decide) (.slice oa P.length oc) P.length _ rfl (own_below hown (below_new _ _)) ⟨w5.heap.size, 0, none⟩ 1 1 [.int .i64 n] rfl rfl (cell_one_new _ _ _) (by simp [Value.oneCell']) (by unfold maxLen; omega) (by omega) (by simp; omega) ?_; intro v9 W4 hown9 hgrow9 _)
                                        have hB9 : Below w30.heap.size w30 W4 := (bthen hbel (below_new w5 (.cells #[.int .i64 n] 3))).trans ((Below.refl _ _).grown hgrow9 (by simp; omega) (fun k hk => (World.ownsRow.lt hown k hk).1))
                                        have hown4 : W4.ownsRow w30.heap.size 3 1 v9 (P ++ [n]).length ((P ++ [n]).map (Value.int .i64)) := by
                                          rw [List.length_append, List.length_singleton, List.map_append]; exact hown9
                                        clear hown9 hown hbel hgrow9
                                        go_wp2_with fail
                                        go_roundw
                                        case rel => exact ⟨k + 1, P ++ [n], sm + q, by omega, by go_num, by trivial, HT.out, hown4, hB9⟩
                                        case measure => simp [intOf]; omega
                                    · obtain rfl : k = n3 := by omega
                                      have hdk : ¬ (k : Int) < (k : Int) := by omega
                                      have hP := Ints.of_own hown rfl
                                      have TB2 := Lib.hid (Balance_any a b c u24 P wr HOK.out (by omega) hned.rng hP)
                                      have hge := hned.sum
                                      obtain ⟨S3, hS3⟩ : ∃ s, s = smL (dlLo a b c) P := ⟨_, rfl⟩
                                      obtain ⟨S4, hS4⟩ : ∃ s, s = smL (dlHi a b c) P := ⟨_, rfl⟩
                                      rw [← hS3] at hge TB2
                                      rw [← hS4] at TB2
                                      have q1 : decide (sm ≤ S3) = true := decide_eq_true hge
                                      have hBB := bthen HB3.out hbel
                                      clear hP hned hown hS3 hS4 hge iX hbel
                                      go_wp2_with fail
                                      refine TB2.out.mono ?_
                                      rintro e w6 ⟨rfl, hb6⟩
                                      have hBB := bthen hBB hb6
                                      clear TB2 hb6 x0 x1 x2
                                      go_upto_region 49 with fail
                                      obtain ⟨V6, hV6⟩ : ∃ v, v = World.alloc w6 (Obj.cells #[.int .i64 S3, .int .i64 S4] 45) := ⟨_, rfl⟩
                                      have kV6 : Below w6.heap.size w6 V6 := by rw [hV6]; exact below_new _ _
                                      have iV6 : Blk V6 (w6.heap.size) 45 [.int .i64 S3, .int .i64 S4] := by rw [hV6]; exact Blk.new _ _ _
                                      have sV6 : V6.heap.size = w6.heap.size + 1 := by rw [hV6]; simp
                                      rw [← hV6]
                                      clear hV6
                                      have d0 := iV6.cell (j := 0) (v := .int .i64 S3) rfl
                                      have hBB := bthen hBB kV6
                                      clear kV6 iV6 sV6
                                      go_wp2_with fail
                                      refine (TD.out _).mono ?_
                                      rintro e w9 ⟨rfl, hb9⟩
                                      go_wp2
                                      go_ret
                                      exact ⟨rfl, bthen hBB hb9⟩
                          · go_simp
                            obtain ⟨wz8, hwz⟩ : ∃ v, v = wzd.alloc (Obj.cells #[.int .i64 0, .int .i64 0] 45) := ⟨_, rfl⟩
                            rw [← hwz]
                            have hl : Below wzd.heap.size wzd wz8 := by rw [hwz]; exact below_new _ _
                            have hbz8 := bthen hbzd hl
                            have iC : Blk wz8 wzd.heap.size 45 [.int .i64 0, .int .i64 0] := by rw [hwz]; exact Blk.new _ _ _
                            have hGc : W8.heap.size ≤ wzd.heap.size := (hbzd).size
                            generalize wzd.heap.size = GC at iC hGc ⊢
                            clear hwz
                            clear hl
                            refine hK.out _ _ ⟨cellb x0 hbz8, cellb x1 hbz8, cellb x2 hbz8⟩ (fun hHeld1 => ?_)
                            clear hK K hHeld0
                            try simp only [Act.put, List.setIfInBounds_toArray, List.set_cons_zero, List.set_cons_succ]
                            refine wpAnyH_ready (rs := [1]) (by kernel_rfl) (by simp) ?_
                            refine (AllReadyH.cons (o := { dst := some 168, op := Op.buildSlice 26 0 #[], type := 26, pos := "top05_wt47d.go:103", after := #[], guard := none }) rfl (fun K hK => ?_) AllReadyH.nil)
                            go_simp
                            obtain ⟨wz1, hwz⟩ : ∃ v, v = wz8.alloc (Obj.cells #[] 3) := ⟨_, rfl⟩
                            rw [← hwz]
                            have hl : Below wz8.heap.size wz8 wz1 := by rw [hwz]; exact below_new _ _
                            have hbz1 := bthen hbz8 hl
                            have iN : Blk wz1 wz8.heap.size 3 [] := by rw [hwz]; exact Blk.new _ _ _
                            generalize wz8.heap.size = G1 at iN ⊢
                            clear hwz
                            have iC := iC.carry hl
                            clear hl
                            refine hK.out _ _ ⟨cellb x0 hbz1, cellb x1 hbz1, cellb x2 hbz1⟩ (fun hHeld2 => ?_)
                            clear hK K hHeld1
                            try simp only [Act.put, List.setIfInBounds_toArray, List.set_cons_zero, List.set_cons_succ]
                            refine wpAnyH_ready (rs := [3]) (by kernel_rfl) (by simp) ?_
                            refine (AllReadyH.cons (o := { dst := some 170, op := Op.call { callee := Callee.builtin Builtin.append, args := #[Operand.tmp 168, Operand.tmp 169], argTypes := #[26, 26] }, type := 26, pos := "top05_wt47d.go:103", after := #[{ on := 1, ground := Ground.data }, { on := 2, ground := Ground.data }], guard := none }) rfl (fun K hK => ?_) AllReadyH.nil)
                            obtain ⟨u3, wz3, hr3, ho3, hl⟩ := run_append_freshI (P := Try.prog) wz1 26 26 26 3 i0 _ Try.undZint Try.undZint hi hz0 hz1 hz2 rfl G1 iN (.slice ra 62 rc) RL (hur.below hbz1) (by rw [HRL.out]; decide)
                            refine wp_append_run (.tmp 168) (.tmp 169) 26 rfl rfl rfl hr3 ?_
                            have hbz3 := bthen hbz1 hl
                            have iC := iC.carry hl
                            have iN := iN.carry hl
                            clear hl
                            refine hK.out _ _ ⟨cellb x0 hbz3, cellb x1 hbz3, cellb x2 hbz3⟩ (fun hHeld3 => ?_)
                            clear hK K hHeld2
                            try simp only [Act.put, List.setIfInBounds_toArray, List.set_cons_zero, List.set_cons_succ]
                            refine wpAnyH_ready (rs := [4]) (by kernel_rfl) (by simp) ?_
                            refine (AllReadyH.cons (o := { dst := some 171, op := Op.call { callee := Callee.value (Operand.func 12), args := #[Operand.tmp 167, Operand.tmp 170], argTypes := #[48, 26] }, type := 46, pos := "top05_wt47d.go:103", after := #[{ on := 0, ground := Ground.data }, { on := 3, ground := Ground.data }, { on := 3, ground := Ground.chain }], guard := none }) rfl (fun K hK => ?_) AllReadyH.nil)
                            go_simp
                            refine (TB.out u3 wz3 ho3.ints).mono ?_
                            rintro e wz4 ⟨rfl, hl⟩
                            (try go_wp2_with fail)
                            have hbz4 := bthen hbz3 hl
                            have iC := iC.carry hl
                            have iN := iN.carry hl
                            have ho3 := ho3.carry hl
                            clear hl
                            refine hK.out _ _ ⟨cellb x0 hbz4, cellb x1 hbz4, cellb x2 hbz4⟩ (fun hHeld4 => ?_)
                            clear hK K hHeld3
                            try simp only [Act.put, List.setIfInBounds_toArray, List.set_cons_zero, List.set_cons_succ]
                            refine wpAnyH_take (i := 5) (oi := { dst := some 166, op := Op.move (Operand.tmp 171), type := 46, pos := "top05_wt47d.go:103", after := #[{ on := 4, ground := Ground.data }], guard := none }) (v := ?_) rfl (by kernel_rfl) (by kernel_rfl) (by kernel_rfl) (fun _ _ _ h => h) (Or.inl ⟨by rfl, ?_⟩) (by assumption) ?_
                            rotate_left
                            · (intro w hSw; (try dsimp only at hSw); go_simp); (try with_reducible rfl)
                            try simp only [Act.put, List.setIfInBounds_toArray, List.set_cons_zero, List.set_cons_succ]
                            refine wpAnyH_take (i := 6) (oi := { dst := some 172, op := Op.extract (Operand.tmp 166) 0, type := 45, pos := "top05_wt47d.go:103", after := #[{ on := 5, ground := Ground.data }], guard := none }) (v := ?_) rfl (by kernel_rfl) (by kernel_rfl) (by kernel_rfl) (fun _ _ _ h => h) (Or.inl ⟨by rfl, ?_⟩) (by assumption) ?_
                            rotate_left
                            · (intro w hSw; (try dsimp only at hSw); go_simp); (try with_reducible rfl)
                            try simp only [Act.put, List.setIfInBounds_toArray, List.set_cons_zero, List.set_cons_succ]
                            refine wpAnyH_take (i := 7) (oi := { dst := some 173, op := Op.extract (Operand.tmp 166) 1, type := 36, pos := "top05_wt47d.go:103", after := #[{ on := 5, ground := Ground.data }, { on := 9, ground := Ground.gcOnly Departure.lateStores }], guard := none }) (v := ?_) rfl (by kernel_rfl) (by kernel_rfl) (by kernel_rfl) (fun _ _ _ h => h) (Or.inl ⟨by rfl, ?_⟩) (by assumption) ?_
                            rotate_left
                            · (intro w hSw; (try dsimp only at hSw); go_simp); (try with_reducible rfl)
                            try simp only [Act.put, List.setIfInBounds_toArray, List.set_cons_zero, List.set_cons_succ]
                            refine wpAnyH_ready (rs := [9]) (by kernel_rfl) (by simp) ?_
                            refine (AllReadyH.cons (o := { dst := none, op := Op.store 45 (Operand.tmp 16) (Operand.tmp 172), type := 0, pos := "top05_wt47d.go:103", after := #[{ on := 8, ground := Ground.data }, { on := 6, ground := Ground.data }, { on := 4, ground := Ground.chain }, { on := 0, ground := Ground.phase }, { on := 1, ground := Ground.phase }, { on := 2, ground := Ground.phase }, { on := 3, ground := Ground.phase }, { on := 4, ground := Ground.phase }, { on := 5, ground := Ground.phase }, { on := 6, ground := Ground.phase }, { on := 7, ground := Ground.textOnly Departure.lateStores }, { on := 8, ground := Ground.phase }], guard := none }) rfl (fun K hK => ?_) AllReadyH.nil)
                            have c0 := iC.cell (j := 0) (v := .int .i64 0) rfl
                            have c1 := iC.cell (j := 1) (v := .int .i64 0) rfl
                            have f0 := iC.frozen 0
                            have f1 := iC.frozen 1
                            go_simp
                            obtain ⟨wz9, hwz⟩ : ∃ v, v = (wz4.setCell ⟨GC, 0, none⟩ (.int .i64 S1)).setCell ⟨GC, 1, none⟩ (.int .i64 S2) := ⟨_, rfl⟩
                            rw [← hwz]
                            have hbz9 : Below W8.heap.size W8 wz9 := by rw [hwz]; exact (hbz4.setCell (p := ⟨GC, 0, none⟩) (by simp only; exact hGc) _).setCell (p := ⟨GC, 1, none⟩) (by simp only; exact hGc) _
                            have iC := iC.set2 (.int .i64 S1) (.int .i64 S2)
                            rw [← hwz] at iC
                            clear hwz
                            refine hK.out _ _ ⟨cellb x0 hbz9, cellb x1 hbz9, cellb x2 hbz9⟩ (fun hHeld5 => ?_)
                            clear hK K hHeld4
                            try simp only [Act.put, List.setIfInBounds_toArray, List.set_cons_zero, List.set_cons_succ]
                            refine wpAnyH_take (i := 10) (oi := { dst := some 17, op := Op.assign (Operand.tmp 173), type := 36, pos := "top05_wt47d.go:103", after := #[{ on := 7, ground := Ground.data }, { on := 9, ground := Ground.chain }, { on := 0, ground := Ground.phase }, { on := 1, ground := Ground.phase }, { on := 2, ground := Ground.phase }, { on := 3, ground := Ground.phase }, { on := 4, ground := Ground.phase }, { on := 5, ground := Ground.phase }, { on := 6, ground := Ground.phase }, { on := 7, ground := Ground.phase }, { on := 8, ground := Ground.phase }, { on := 9, ground := Ground.phase }], guard := none }) (v := ?_) rfl (by kernel_rfl) (by kernel_rfl) (by kernel_rfl) (fun _ _ _ h => h) (Or.inl ⟨by rfl, ?_⟩) (by assumption) ?_
                            rotate_left
                            · (intro w hSw; (try dsimp only at hSw); go_simp); (try with_reducible rfl)
                            try simp only [Act.put, List.setIfInBounds_toArray, List.set_cons_zero, List.set_cons_succ]
                            refine wpAnyH_done (by kernel_rfl) ?_ _
                            clear hHeld5
                            have hb20 := hbz9
                            obtain ⟨w20, hW20⟩ : ∃ v, v = wz9 := ⟨_, rfl⟩
                            rw [← hW20] at hb20 iC ⊢
                            clear hW20
                            have hX2 := iX.carry hb20
                            have hB2 := bthen hB hb20
                            have hU2 := hur.below hb20
                            have HX2 := Lib.hid hX2
                            have HB2 := Lib.hid hB2
                            have HU2 := Lib.hid hU2
                            have HC := Lib.hid iC
                            have TLs := Lib.hid (fun p hp W => Loss_any a b c p W HOK.out hp)
                            clear x0 x1 x2 hX2 hB2 hU2 iX hB hur hb20 iC TB hi hz0 hz1 hz2
                            go_wp2_with fail
                            go_loopw [18, 19, 178] (fun z1 z2 i wr => ∃ k : Nat, k ≤ 62 ∧ i = .int .i64 k ∧ z1 = .int .i64 (smL (dlLo a b c) (RL.take k)) ∧ z2 = .int .i64 (smL (dlHi a b c) (RL.take k)) ∧ Below w20.heap.size w20 wr) (fun _ _ i _ => 62 - (intOf i).toNat)
                            case atStart => exact ⟨0, by omega, rfl, rfl, rfl, Below.refl _ _⟩
                            case round =>
                              obtain ⟨k, hk, rfl, rfl, rfl, hbel⟩ := hrel
                              have b1 := smL_rng (f := dlLo a b c) (l := RL.take k) (m := 1000) (by omega) (fun y hy => (dl_rng HOK.out (HRR.out y (List.mem_of_mem_take hy))).1)
                              have b2 := smL_rng (f := dlHi a b c) (l := RL.take k) (m := 1000) (by omega) (fun y hy => (dl_rng HOK.out (HRR.out y (List.mem_of_mem_take hy))).2)
                              rw [List.length_take, HRL.out, Nat.min_eq_left hk] at b1 b2
                              have iX := HX2.out.carry hbel
                              by_cases hlt : k < 62
                              · have hdk : (k : Int) < 62 := by omega
                                obtain ⟨p, hp⟩ : ∃ p, RL[k]? = some p := ⟨_, List.getElem?_eq_getElem (by rw [HRL.out]; exact hlt)⟩
                                obtain ⟨rb, ro, rcap, hre, hrcs⟩ := (HU2.out.below hbel).head (by rw [HRL.out]; omega)
                                rw [HRL.out] at hre
                                simp only [Value.slice.injEq] at hre
                                obtain ⟨rfl, -, rfl⟩ := hre
                                have c0 := hrcs k (by rw [HRL.out]; exact hlt)
                                rw [hp, Option.getD_some] at c0
                                have hpr := HRR.out p (List.mem_of_getElem? hp)
                                have e1 := smL_take (dlLo a b c) hp
                                have e2 := smL_take (dlHi a b c) hp
                                rw [show dlLo a b c p = max 0 (p - losHi a b c p) from rfl] at e1
                                rw [show dlHi a b c p = max 0 (p - losLo a b c p) from rfl] at e2
                                have hlr := los_rng HOK.out hpr
                                have TN := Lib.hid (TLs.out p hpr)
                                obtain ⟨A1, hA1⟩ : ∃ s, s = smL (dlLo a b c) (RL.take k) := ⟨_, rfl⟩
                                obtain ⟨A2, hA2⟩ : ∃ s, s = smL (dlHi a b c) (RL.take k) := ⟨_, rfl⟩
                                obtain ⟨LO, hLO⟩ : ∃ s, s = losLo a b c p := ⟨_, rfl⟩
                                obtain ⟨HI, hHI⟩ : ∃ s, s = losHi a b c p := ⟨_, rfl⟩
                                rw [← hA1] at b1 e1 ⊢
                                rw [← hA2] at b2 e2 ⊢
                                rw [← hLO] at hlr e2 TN
                                rw [← hHI] at hlr e1 TN
                                have E1 := Lib.hid e1
                                have E2 := Lib.hid e2
                                have k1 : IntKind.i64.wrap (p - HI) = p - HI := IntWalk.i64_in _ (by omega)
                                have k2 : IntKind.i64.wrap (p - LO) = p - LO := IntWalk.i64_in _ (by omega)
                                have k3 : IntKind.i64.wrap (A1 + max 0 (p - HI)) = A1 + max 0 (p - HI) := IntWalk.i64_in _ (by omega)
                                have k4 : IntKind.i64.wrap (A2 + max 0 (p - LO)) = A2 + max 0 (p - LO) := IntWalk.i64_in _ (by omega)
                                have x0 := iX.cell (j := 0) (v := .int .i64 a) rfl
                                have x1 := iX.cell (j := 1) (v := .int .i64 b) rfl
                                have x2 := iX.cell (j := 2) (v := .int .i64 c) rfl
                                clear hrcs hp hpr e1 e2 hlr hA1 hA2 hLO hHI b1 b2 iX
                                go_wp2_with fail
                                refine (TN.out _).mono ?_
                                rintro e w5 ⟨rfl, hb5⟩
                                have hbel := bthen hbel hb5
                                clear c0 x0 x1 x2 TN hb5
                                go_upto_region 30 with fail
                                obtain ⟨V1, hV1⟩ : ∃ v, v = World.alloc w5 (Obj.cells #[.int .i64 LO, .int .i64 HI] 45) := ⟨_, rfl⟩
                                have kV1 : Below w5.heap.size w5 V1 := by rw [hV1]; exact below_new _ _
                                have iV1 : Blk V1 (w5.heap.size) 45 [.int .i64 LO, .int .i64 HI] := by rw [hV1]; exact Blk.new _ _ _
                                have sV1 : V1.heap.size = w5.heap.size + 1 := by rw [hV1]; simp
                                rw [← hV1]
                                clear hV1
                                have d0 := iV1.cell (j := 0) (v := .int .i64 LO) rfl
                                have d1 := iV1.cell (j := 1) (v := .int .i64 HI) rfl
                                have hbel := bthen hbel kV1
                                clear kV1 iV1 sV1
                                go_upto_region 32 with fail
                                refine wp_region_held_drew (S := (fun W => W.cell? ⟨w5.heap.size, 0, none⟩ = some (.int .i64 LO) ∧ W.cell? ⟨w5.heap.size, 1, none⟩ = some (.int .i64 HI))) (by kernel_rfl) ⟨cellb d0 (Below.refl _ _).drew, cellb d1 (Below.refl _ _).drew⟩ (fun hHeld0 => ?_)
                                obtain ⟨wzd, hwz⟩ : ∃ v, v = V1.drew := ⟨_, rfl⟩
                                rw [← hwz] at hHeld0 ⊢
                                have hbzd : Below V1.heap.size V1 wzd := by rw [hwz]; exact (Below.refl _ _).drew
                                have hlzd : Below V1.heap.size V1 wzd := by rw [hwz]; exact (Below.refl _ _).drew
                                clear hwz hlzd
                                refine wpAnyH_take (i := 0) (oi := { dst := some 190, op := Op.move (Operand.tmp 18), type := 3, pos := "top05_wt47d.go:113", after := #[], guard := none }) (v := ?_) rfl (by kernel_rfl) (by kernel_rfl) (by kernel_rfl) (fun _ _ _ h => h) (Or.inl ⟨by rfl, ?_⟩) (by assumption) ?_
                                rotate_left
                                · (intro w hSw; (try dsimp only at hSw); go_simp); (try with_reducible rfl)
                                try simp only [Act.put, List.setIfInBounds_toArray, List.set_cons_zero, List.set_cons_succ]
                                refine wpAnyH_take (i := 1) (oi := { dst := some 191, op := Op.move (Operand.tmp 21), type := 3, pos := "top05_wt47d.go:113", after := #[], guard := none }) (v := ?_) rfl (by kernel_rfl) (by kernel_rfl) (by kernel_rfl) (fun _ _ _ h => h) (Or.inl ⟨by rfl, ?_⟩) (by assumption) ?_
                                rotate_left
                                · (intro w hSw; (try dsimp only at hSw); go_simp); (try with_reducible rfl)
                                try simp only [Act.put, List.setIfInBounds_toArray, List.set_cons_zero, List.set_cons_succ]
                                refine wpAnyH_take (i := 2) (oi := { dst := some 192, op := Op.fieldAddr 45 (Operand.tmp 22) 1, type := 0, pos := "top05_wt47d.go:113", after := #[], guard := none }) (v := ?_) rfl (by kernel_rfl) (by kernel_rfl) (by kernel_rfl) (fun _ _ _ h => h) (Or.inl ⟨by rfl, ?_⟩) (by assumption) ?_
                                rotate_left
                                · (intro w hSw; (try dsimp only at hSw); go_simp); (try with_reducible rfl)
                                try simp only [Act.put, List.setIfInBounds_toArray, List.set_cons_zero, List.set_cons_succ]
                                refine wpAnyH_take (i := 3) (oi := { dst := some 193, op := Op.load 3 (Operand.tmp 192), type := 3, pos := "top05_wt47d.go:113", after := #[{ on := 2, ground := Ground.data }], guard := none }) (v := ?_) rfl (by kernel_rfl) (by kernel_rfl) (by kernel_rfl) (fun _ _ _ h => h) (Or.inl ⟨by rfl, ?_⟩) (by assumption) ?_
                                rotate_left
                                · (intro w hSw; (try dsimp only at hSw); go_simp); (try with_reducible rfl)
                                try simp only [Act.put, List.setIfInBounds_toArray, List.set_cons_zero, List.set_cons_succ]
                                refine wpAnyH_take (i := 4) (oi := { dst := some 194, op := Op.binOp BinOp.sub 3 (Operand.tmp 191) (Operand.tmp 193) 3, type := 3, pos := "top05_wt47d.go:113", after := #[{ on := 1, ground := Ground.data }, { on := 3, ground := Ground.data }], guard := none }) (v := ?_) rfl (by kernel_rfl) (by kernel_rfl) (by kernel_rfl) (fun _ _ _ h => h) (Or.inl ⟨by rfl, ?_⟩) (by assumption) ?_
                                rotate_left
                                · (intro w hSw; (try dsimp only at hSw); go_simp); (try with_reducible rfl)
                                try simp only [Act.put, List.setIfInBounds_toArray, List.set_cons_zero, List.set_cons_succ]
                                refine wpAnyH_take (i := 5) (oi := { dst := some 195, op := Op.call { callee := Callee.builtin Builtin.max, args := #[Operand.const (Value.int IntKind.i64 0), Operand.tmp 194], argTypes := #[3, 3] }, type := 3, pos := "top05_wt47d.go:113", after := #[{ on := 4, ground := Ground.data }], guard := none }) (v := ?_) rfl (by kernel_rfl) (by kernel_rfl) (by kernel_rfl) (fun _ _ _ h => h) (Or.inl ⟨by rfl, ?_⟩) (by assumption) ?_
                                rotate_left
                                · (intro w hSw; (try dsimp only at hSw); go_simp); (try with_reducible rfl)
                                try simp only [Act.put, List.setIfInBounds_toArray, List.set_cons_zero, List.set_cons_succ]
                                refine wpAnyH_take (i := 6) (oi := { dst := some 196, op := Op.binOp BinOp.add 3 (Operand.tmp 190) (Operand.tmp 195) 3, type := 3, pos := "top05_wt47d.go:113", after := #[{ on := 0, ground := Ground.data }, { on := 5, ground := Ground.data }], guard := none }) (v := ?_) rfl (by kernel_rfl) (by kernel_rfl) (by kernel_rfl) (fun _ _ _ h => h) (Or.inl ⟨by rfl, ?_⟩) (by assumption) ?_
                                rotate_left
                                · (intro w hSw; (try dsimp only at hSw); go_simp); (try with_reducible rfl)
                                try simp only [Act.put, List.setIfInBounds_toArray, List.set_cons_zero, List.set_cons_succ]
                                refine wpAnyH_take (i := 7) (oi := { dst := some 197, op := Op.move (Operand.tmp 19), type := 3, pos := "top05_wt47d.go:113", after := #[{ on := 14, ground := Ground.gcOnly Departure.lateStores }], guard := none }) (v := ?_) rfl (by kernel_rfl) (by kernel_rfl) (by kernel_rfl) (fun _ _ _ h => h) (Or.inl ⟨by rfl, ?_⟩) (by assumption) ?_
                                rotate_left
                                · (intro w hSw; (try dsimp only at hSw); go_simp); (try with_reducible rfl)
                                try simp only [Act.put, List.setIfInBounds_toArray, List.set_cons_zero, List.set_cons_succ]
                                refine wpAnyH_take (i := 8) (oi := { dst := some 198, op := Op.move (Operand.tmp 21), type := 3, pos := "top05_wt47d.go:113", after := #[], guard := none }) (v := ?_) rfl (by kernel_rfl) (by kernel_rfl) (by kernel_rfl) (fun _ _ _ h => h) (Or.inl ⟨by rfl, ?_⟩) (by assumption) ?_
                                rotate_left
                                · (intro w hSw; (try dsimp only at hSw); go_simp); (try with_reducible rfl)
                                try simp only [Act.put, List.setIfInBounds_toArray, List.set_cons_zero, List.set_cons_succ]
                                refine wpAnyH_take (i := 9) (oi := { dst := some 199, op := Op.fieldAddr 45 (Operand.tmp 22) 0, type := 0, pos := "top05_wt47d.go:113", after := #[], guard := none }) (v := ?_) rfl (by kernel_rfl) (by kernel_rfl) (by kernel_rfl) (fun _ _ _ h => h) (Or.inl ⟨by rfl, ?_⟩) (by assumption) ?_
                                rotate_left
                                · (intro w hSw; (try dsimp only at hSw); go_simp); (try with_reducible rfl)
                                try simp only [Act.put, List.setIfInBounds_toArray, List.set_cons_zero, List.set_cons_succ]
                                refine wpAnyH_take (i := 10) (oi := { dst := some 200, op := Op.load 3 (Operand.tmp 199), type := 3, pos := "top05_wt47d.go:113", after := #[{ on := 9, ground := Ground.data }], guard := none }) (v := ?_) rfl (by kernel_rfl) (by kernel_rfl) (by kernel_rfl) (fun _ _ _ h => h) (Or.inl ⟨by rfl, ?_⟩) (by assumption) ?_
                                rotate_left
                                · (intro w hSw; (try dsimp only at hSw); go_simp); (try with_reducible rfl)
                                try simp only [Act.put, List.setIfInBounds_toArray, List.set_cons_zero, List.set_cons_succ]
                                refine wpAnyH_take (i := 11) (oi := { dst := some 201, op := Op.binOp BinOp.sub 3 (Operand.tmp 198) (Operand.tmp 200) 3, type := 3, pos := "top05_wt47d.go:113", after := #[{ on := 8, ground := Ground.data }, { on := 10, ground := Ground.data }], guard := none }) (v := ?_) rfl (by kernel_rfl) (by kernel_rfl) (by kernel_rfl) (fun _ _ _ h => h) (Or.inl ⟨by rfl, ?_⟩) (by assumption) ?_
                                rotate_left
                                · (intro w hSw; (try dsimp only at hSw); go_simp); (try with_reducible rfl)
                                try simp only [Act.put, List.setIfInBounds_toArray, List.set_cons_zero, List.set_cons_succ]
                                refine wpAnyH_take (i := 12) (oi := { dst := some 202, op := Op.call { callee := Callee.builtin Builtin.max, args := #[Operand.const (Value.int IntKind.i64 0), Operand.tmp 201], argTypes := #[3, 3] }, type := 3, pos := "top05_wt47d.go:113", after := #[{ on := 11, ground := Ground.data }], guard := none }) (v := ?_) rfl (by kernel_rfl) (by kernel_rfl) (by kernel_rfl) (fun _ _ _ h => h) (Or.inl ⟨by rfl, ?_⟩) (by assumption) ?_
                                rotate_left
                                · (intro w hSw; (try dsimp only at hSw); go_simp); (try with_reducible rfl)
                                try simp only [Act.put, List.setIfInBounds_toArray, List.set_cons_zero, List.set_cons_succ]
                                refine wpAnyH_take (i := 13) (oi := { dst := some 203, op := Op.binOp BinOp.add 3 (Operand.tmp 197) (Operand.tmp 202) 3, type := 3, pos := "top05_wt47d.go:113", after := #[{ on := 7, ground := Ground.data }, { on := 12, ground := Ground.data }, { on := 14, ground := Ground.gcOnly Departure.lateStores }], guard := none }) (v := ?_) rfl (by kernel_rfl) (by kernel_rfl) (by kernel_rfl) (fun _ _ _ h => h) (Or.inl ⟨by rfl, ?_⟩) (by assumption) ?_
                                rotate_left
                                · (intro w hSw; (try dsimp only at hSw); go_simp); (try with_reducible rfl)
                                try simp only [Act.put, List.setIfInBounds_toArray, List.set_cons_zero, List.set_cons_succ]
                                refine wpAnyH_take (i := 14) (oi := { dst := some 18, op := Op.assign (Operand.tmp 196), type := 3, pos := "top05_wt47d.go:113", after := #[{ on := 6, ground := Ground.data }, { on := 0, ground := Ground.phase }, { on := 1, ground := Ground.phase }, { on := 2, ground := Ground.phase }, { on := 3, ground := Ground.phase }, { on := 4, ground := Ground.phase }, { on := 5, ground := Ground.phase }, { on := 6, ground := Ground.phase }, { on := 7, ground := Ground.textOnly Departure.lateStores }, { on := 8, ground := Ground.textOnly Departure.lateStores }, { on := 9, ground := Ground.textOnly Departure.lateStores }, { on := 10, ground := Ground.textOnly Departure.lateStores }, { on := 11, ground := Ground.textOnly Departure.lateStores }, { on := 12, ground := Ground.textOnly Departure.lateStoresUnsure }, { on := 13, ground := Ground.textOnly Departure.lateStores }], guard := none }) (v := ?_) rfl (by kernel_rfl) (by kernel_rfl) (by kernel_rfl) (fun _ _ _ h => h) (Or.inl ⟨by rfl, ?_⟩) (by assumption) ?_
                                rotate_left
                                · (intro w hSw; (try dsimp only at hSw); go_simp); (try with_reducible rfl)
                                try simp only [Act.put, List.setIfInBounds_toArray, List.set_cons_zero, List.set_cons_succ]
                                refine wpAnyH_take (i := 15) (oi := { dst := some 19, op := Op.assign (Operand.tmp 203), type := 3, pos := "top05_wt47d.go:113", after := #[{ on := 13, ground := Ground.data }, { on := 14, ground := Ground.chain }, { on := 0, ground := Ground.phase }, { on := 1, ground := Ground.phase }, { on := 2, ground := Ground.phase }, { on := 3, ground := Ground.phase }, { on := 4, ground := Ground.phase }, { on := 5, ground := Ground.phase }, { on := 6, ground := Ground.phase }, { on := 7, ground := Ground.phase }, { on := 8, ground := Ground.phase }, { on := 9, ground := Ground.phase }, { on := 10, ground := Ground.phase }, { on := 11, ground := Ground.phase }, { on := 12, ground := Ground.phase }, { on := 13, ground := Ground.phase }, { on := 14, ground := Ground.phase }], guard := none }) (v := ?_) rfl (by kernel_rfl) (by kernel_rfl) (by kernel_rfl) (fun _ _ _ h => h) (Or.inl ⟨by rfl, ?_⟩) (by assumption) ?_
                                rotate_left
                                · (intro w hSw; (try dsimp only at hSw); go_simp); (try with_reducible rfl)
                                try simp only [Act.put, List.setIfInBounds_toArray, List.set_cons_zero, List.set_cons_succ]
                                refine wpAnyH_done (by kernel_rfl) ?_ _
                                clear hHeld0
                                have hbel := bthen hbel hbzd
                                obtain ⟨w6', hw6⟩ : ∃ v, v = wzd := ⟨_, rfl⟩
                                rw [← hw6] at hbel ⊢
                                clear hw6
                                go_wp2
                                go_roundw
                                case rel => exact ⟨k + 1, by omega, by go_num, by rw [E1.out], by rw [E2.out], hbel⟩
                                case measure => simp [intOf]; omega
                              · obtain rfl : k = 62 := by omega
                                have hdk : ¬ ((62 : Nat) : Int) < 62 := by omega
                                have et : RL.take 62 = RL := List.take_of_length_le (by rw [HRL.out]; exact Nat.le_refl _)
                                rw [et, ← HS1.out, ← HS2.out]
                                have iC := HC.out.carry hbel
                                have g0 := iC.cell (j := 0) (v := .int .i64 S1) rfl
                                have g1 := iC.cell (j := 1) (v := .int .i64 S2) rfl
                                have hneq := neqIv S1 S2
                                have hB3 := bthen HB2.out hbel
                                have HX3 := Lib.hid iX
                                have HB3 := Lib.hid hB3
                                have TNd := Lib.hid (fun q hq W => Needed_any a b c q W HOK.out hq)
                                obtain ⟨w30, hw30⟩ : ∃ W, W = wr := ⟨_, rfl⟩
                                subst hw30
                                clear b1 b2 iX hbel hB3 et
                                go_wp2_with fail
                                clear g0 g1 iC hneq
                                go_loopw [24, 25, 212] (fun o s i wx => ∃ (k : Nat) (P : List Int) (sm : Int), k ≤ n3 ∧ i = .int .i64 k ∧ s = .int .i64 sm ∧ Ned a b c P sm k ∧ wx.ownsRow w30.heap.size 3 1 o P.length (P.map (Value.int .i64)) ∧ Below w30.heap.size w30 wx) (fun _ _ i _ => n3 - (intOf i).toNat)
                                case atStart => exact ⟨0, [], 0, by omega, rfl, rfl, Ned.zero a b c, World.ownsRow_nil _ _ _ _, Below.refl _ _⟩
                                case round =>
                                  obtain ⟨k, P, sm, hk, rfl, rfl, hned, hown, hbel⟩ := hrel
                                  have hlw := hned.low
                                  have hln := hned.len
                                  have iX := HX3.out.carry hbel
                                  have x0 := iX.cell (j := 0) (v := .int .i64 a) rfl
                                  have x1 := iX.cell (j := 1) (v := .int .i64 b) rfl
                                  have x2 := iX.cell (j := 2) (v := .int .i64 c) rfl
                                  by_cases hlt : k < n3
                                  · have hdk : (k : Int) < (n3 : Int) := by omega
                                    obtain ⟨q, hq⟩ : ∃ q, l3[k]? = some q := ⟨_, List.getElem?_eq_getElem (by rw [← HN3.out]; exact hlt)⟩
                                    obtain ⟨rb3, ro3, rcap3, hre, hrcs⟩ := (HV3.out.below (bthen HB3.out hbel)).head (by rw [← HN3.out]; omega)
                                    simp only [Value.slice.injEq] at hre
                                    obtain ⟨rfl, -, rfl⟩ := hre
                                    have c0 := hrcs k (by rw [← HN3.out]; exact hlt)
                                    rw [hq, Option.getD_some] at c0
                                    have hqr := HP3.out.rng k q hq
                                    have TN := Lib.hid (TNd.out q hqr)
                                    clear hrcs hq iX
                                    go_wp2_with fail
                                    refine (TN.out _).mono ?_
                                    rintro e w5 ⟨⟨n, e5, rfl, hne⟩, hb5⟩
                                    have hown := own_below hown hb5
                                    have hbel := bthen hbel hb5
                                    clear c0 x0 x1 x2 TN hb5
                                    rcases hne with rfl | ⟨rfl, hn1, hn2⟩
                                    · have HS := Lib.hid hned.skip
                                      clear hned
                                      go_wp2
                                      go_roundw
                                      case rel => exact ⟨k + 1, P, sm, by omega, by go_num, by trivial, HS.out, hown, hbel⟩
                                      case measure => simp [intOf]; omega
                                    · have HT := Lib.hid (hned.take hqr hn1 hn2)
                                      have q1 : decide (n < q) = false := decide_eq_false (by omega)
                                      have q2 : IntKind.i64.wrap (sm + q) = sm + q := IntWalk.i64_in _ (by omega)
                                      obtain ⟨oa, oc, rfl⟩ := own_slice hown
                                      obtain ⟨i0, hi, hz0, hz1, hz2⟩ := info_parts Try.infZint
                                      have hs5 := hbel.size
                                      clear hned hn1 hn2
                                      go_wp2_with (at_builtin; refine wpList_append_own _ rfl (.tmp 231) (.tmp 233) 26 rfl w30.heap.size 3 i0 _ 1 8 Try.undZint hi hz0 hz1 hz2 rfl (by decide) (.slice oa P.length oc) P.length _ rfl (own_below hown (below_new _ _)) ⟨w5.heap.size, 0, none⟩ 1 1 [.int .i64 n] rfl rfl (cell_one_new _ _ _) (by simp [Value.oneCell']) (by unfold maxLen; omega) (by omega) (by simp; omega) ?_; intro v9 W4 hown9 hgrow9 _)
                                      have hB9 : Below w30.heap.size w30 W4 := (bthen hbel (below_new w5 (.cells #[.int .i64 n] 3))).trans ((Below.refl _ _).grown hgrow9 (by simp; omega) (fun k hk => (World.ownsRow.lt hown k hk).1))
                                      have hown4 : W4.ownsRow w30.heap.size 3 1 v9 (P ++ [n]).length ((P ++ [n]).map (Value.int .i64)) := by
                                        rw [List.length_append, List.length_singleton, List.map_append]; exact hown9
                                      clear hown9 hown hbel hgrow9
                                      go_wp2_with fail
                                      go_roundw
                                      case rel => exact ⟨k + 1, P ++ [n], sm + q, by omega, by go_num, by trivial, HT.out, hown4, hB9⟩
                                      case measure => simp [intOf]; omega
                                  · obtain rfl : k = n3 := by omega
                                    have hdk : ¬ (k : Int) < (k : Int) := by omega
                                    have hP := Ints.of_own hown rfl
                                    have TB2 := Lib.hid (Balance_any a b c u24 P wr HOK.out (by omega) hned.rng hP)
                                    have hge := hned.sum
                                    obtain ⟨S3, hS3⟩ : ∃ s, s = smL (dlLo a b c) P := ⟨_, rfl⟩
                                    obtain ⟨S4, hS4⟩ : ∃ s, s = smL (dlHi a b c) P := ⟨_, rfl⟩
                                    rw [← hS3] at hge TB2
                                    rw [← hS4] at TB2
                                    have q1 : decide (sm ≤ S3) = true := decide_eq_true hge
                                    have hBB := bthen HB3.out hbel
                                    clear hP hned hown hS3 hS4 hge iX hbel
                                    go_wp2_with fail
                                    refine TB2.out.mono ?_
                                    rintro e w6 ⟨rfl, hb6⟩
                                    have hBB := bthen hBB hb6
                                    clear TB2 hb6 x0 x1 x2
                                    go_upto_region 49 with fail
                                    obtain ⟨V6, hV6⟩ : ∃ v, v = World.alloc w6 (Obj.cells #[.int .i64 S3, .int .i64 S4] 45) := ⟨_, rfl⟩
                                    have kV6 : Below w6.heap.size w6 V6 := by rw [hV6]; exact below_new _ _
                                    have iV6 : Blk V6 (w6.heap.size) 45 [.int .i64 S3, .int .i64 S4] := by rw [hV6]; exact Blk.new _ _ _
                                    have sV6 : V6.heap.size = w6.heap.size + 1 := by rw [hV6]; simp
                                    rw [← hV6]
                                    clear hV6
                                    have d0 := iV6.cell (j := 0) (v := .int .i64 S3) rfl
                                    have hBB := bthen hBB kV6
                                    clear kV6 iV6 sV6
                                    go_wp2_with fail
                                    refine (TD.out _).mono ?_
                                    rintro e w9 ⟨rfl, hb9⟩
                                    go_wp2
                                    go_ret
                                    exact ⟨rfl, bthen hBB hb9⟩
              · have hb0 : (e3 != 0) = true := by rw [bne_iff_ne]; exact hz3
                go_wp2_with fail
                refine (TD.out _).mono ?_
                rintro e w9 ⟨rfl, hb9⟩
                go_wp2
                go_ret
                exact ⟨rfl, bthen hB hb9⟩
            · have g3 : decide ((10 : Int) < (n3 : Int)) = true := decide_eq_true (by omega)
              go_wp2_with fail
              refine (TD.out _).mono ?_
              rintro e w9 ⟨rfl, hb9⟩
              go_wp2
              go_ret
              exact ⟨rfl, bthen hB hb9⟩
          · have hb0 : (e2 != 0) = true := by rw [bne_iff_ne]; exact hz2
            go_wp2_with fail
            refine (TD.out _).mono ?_
            rintro e w9 ⟨rfl, hb9⟩
            go_wp2
            go_ret
            exact ⟨rfl, bthen hB hb9⟩
        · have hb0 : (e1 != 0) = true := by rw [bne_iff_ne]; exact hz1
          go_wp2_with fail
          refine (TD.out _).mono ?_
          rintro e w9 ⟨rfl, hb9⟩
          go_wp2
          go_ret
          exact ⟨rfl, bthen hB hb9⟩
      · have g2 : decide ((6 : Int) < (n2 : Int)) = true := decide_eq_true (by omega)
        go_wp2_with fail
        refine (TD.out _).mono ?_
        rintro e w9 ⟨rfl, hb9⟩
        go_wp2
        go_ret
        exact ⟨rfl, bthen hB hb9⟩
    · have g1 : decide ((6 : Int) < (n1 : Int)) = true := decide_eq_true (by omega)
      go_wp2_with fail
      refine (TD.out _).mono ?_
      rintro e w9 ⟨rfl, hb9⟩
      go_wp2
      go_ret
      exact ⟨rfl, bthen hB hb9⟩
  · have hb0 : (E != 0) = true := by rw [bne_iff_ne]; exact hz
    go_wp2_with fail
    refine (TD.out _).mono ?_
    rintro e w9 ⟨rfl, hb9⟩
    go_wp2
    go_ret
    exact ⟨rfl, bthen hB hb9⟩
end Go.Proofs.Ytipmjjnhdjcoiaa

/- The package harmonic: the resonances of a filter. -/
import Derived.Test.YtlohcnecehlljaaGreatDoorHpB
namespace Go.Proofs.YtlohcnecehlljaaGreatDoor
set_option linter.unusedSimpArgs false
set_option linter.unusedVariables false
open Go.RowKit

theorem fieldR0 (a b : Int) (w : World) : Sem.run Tryz.prog (Instr.field 118 (.agg #[.int .i64 a, .int .i64 b]) 0) w = .ok (.int .i64 a) w := by kernel_rfl
/-- a resonance between an order and the next one. -/
def crossB (a b : Int) : Bool := a == 0 || (negB a && decide (0 < b)) || (decide (0 < a) && negB b)
def resB (ls : List (Int × Int)) (h : Int) : Bool := bif tunedB ls h then false else bif tunedB ls (h + 1) then false else crossB (susR ls h).1 (susR ls (h + 1)).1
theorem Tryz.enterResonances1 (args : Array Value) (w : World) : Sem.run Tryz.prog (callFunc 119 args) w = .ok (.enter 119 args) w :=
  MuLone.run_callFunc_enter Tryz.func119 (by kernel_rfl) rfl args w
set_option maxRecDepth 100000 in
set_option maxHeartbeats 2000000 in
theorem resonances1_any (v : Value) (ls : List (Int × Int)) (h : Int) (B : Nat) (w : World) (hv : Pairs w v ls) (hl : ls.length ≤ 1000000) (hf : fltE ls = 0) (hh : 1 ≤ h ∧ h ≤ 11) (hb : Blk w B 57 [v]) :
    Calls Tryz.prog 119 #[.int .i64 h, .pointer (some ⟨B, 0, none⟩)] w fun e w' => e = .returned (.bool (resB ls h)) ∧ Below w.heap.size w w' := by
  obtain ⟨r, hr⟩ : ∃ r, r = resB ls h := ⟨_, rfl⟩
  rw [← hr]
  have T1 := Lib.hid (fun W hP => tuned_any v ls h W hP hl)
  have T2 := Lib.hid (fun W hP => tuned_any v ls (h + 1) W hP hl)
  have S1 := Lib.hid (fun W hP ht => susceptance_any v ls h W hP hl (susOk_of hf (by omega) ht))
  have S2 := Lib.hid (fun W hP ht => susceptance_any v ls (h + 1) W hP hl (susOk_of hf (by omega) ht))
  rw [resB] at hr
  generalize tunedB ls h = t1 at T1 S1 hr
  generalize tunedB ls (h + 1) = t2 at T2 S2 hr
  generalize susR ls h = s1 at S1 hr
  generalize susR ls (h + 1) = s2 at S2 hr
  have HR := Lib.hid hr
  have ew : IntKind.i64.wrap (h + 1) = h + 1 := IntWalk.i64_in _ (by omega)
  clear hr hf
  have a0 := hb.cell (j := 0) (v := v) rfl
  have hP := hv
  obtain ⟨a, cp, rfl, _, _⟩ := id hv
  clear hv hb
  have hB : Below w.heap.size w w := Below.refl _ _
  cases t1
  · have HS1 := Lib.hid (fun W hP => S1.out W hP rfl)
    cases t2
    · have HS2 := Lib.hid (fun W hP => S2.out W hP rfl)
      obtain ⟨p1, q1⟩ := s1
      obtain ⟨p2, q2⟩ := s2
      simp only at HS1 HS2
      clear S1 S2
      go_enter Tryz.func119, Tryz.ntmps119
      go_wp2_with fail
      refine (T1.out w hP).mono ?_
      rintro e w1 ⟨rfl, hb⟩
      replace hP := hP.carry hb
      have a0 := cellb a0 hb
      replace hB := bthen hB hb
      clear hb
      go_wp2_with fail
      refine (T2.out w1 hP).mono ?_
      rintro e w2 ⟨rfl, hb⟩
      replace hP := hP.carry hb
      have a0 := cellb a0 hb
      replace hB := bthen hB hb
      clear hb
      go_upto_region 3 with fail
      have hf1 := fun W => fieldR0 p1 q1 W
      have hf2 := fun W => fieldR0 p2 q2 W
      refine wp_region_E 99 (by kernel_rfl) ?_
      obtain ⟨wz, hwz⟩ : ∃ v, v = w2.drew := ⟨_, rfl⟩
      rw [← hwz]
      have hlz : Below w2.heap.size w2 wz := by rw [hwz]; exact (Below.refl _ _).drew
      have hbz := bthen hB hlz
      have a0 := cellb a0 hlz
      have hP := hP.carry hlz
      clear hwz hlz
      refine wpAnyE_take (i := 0) (oi := { dst := some 15, op := Op.load 57 (Operand.tmp 1), type := 57, pos := "filter.go:83", after := #[], guard := none }) (v := ?_) rfl (by kernel_rfl) (by kernel_rfl) (by kernel_rfl) (by kernel_rfl) (fun _ _ _ h => h) (Or.inl ⟨by rfl, ?_⟩) ?_
      rotate_left
      · (intro w hE; have a0 := cellb a0 hE; (try dsimp only); go_simp); (try with_reducible rfl)
      try simp only [Act.put, List.setIfInBounds_toArray, List.set_cons_zero, List.set_cons_succ]
      refine wpAnyE_take (i := 1) (oi := { dst := some 16, op := Op.move (Operand.tmp 0), type := 3, pos := "filter.go:83", after := #[], guard := none }) (v := ?_) rfl (by kernel_rfl) (by kernel_rfl) (by kernel_rfl) (by kernel_rfl) (fun _ _ _ h => h) (Or.inl ⟨by rfl, ?_⟩) ?_
      rotate_left
      · (intro w hE; have a0 := cellb a0 hE; (try dsimp only); go_simp); (try with_reducible rfl)
      try simp only [Act.put, List.setIfInBounds_toArray, List.set_cons_zero, List.set_cons_succ]
      refine wpAnyE_take (i := 4) (oi := { dst := some 19, op := Op.load 57 (Operand.tmp 1), type := 57, pos := "filter.go:83", after := #[], guard := none }) (v := ?_) rfl (by kernel_rfl) (by kernel_rfl) (by kernel_rfl) (by kernel_rfl) (fun _ _ _ h => h) (Or.inl ⟨by rfl, ?_⟩) ?_
      rotate_left
      · (intro w hE; have a0 := cellb a0 hE; (try dsimp only); go_simp); (try with_reducible rfl)
      try simp only [Act.put, List.setIfInBounds_toArray, List.set_cons_zero, List.set_cons_succ]
      refine wpAnyE_take (i := 5) (oi := { dst := some 20, op := Op.move (Operand.tmp 0), type := 3, pos := "filter.go:83", after := #[], guard := none }) (v := ?_) rfl (by kernel_rfl) (by kernel_rfl) (by kernel_rfl) (by kernel_rfl) (fun _ _ _ h => h) (Or.inl ⟨by rfl, ?_⟩) ?_
      rotate_left
      · (intro w hE; have a0 := cellb a0 hE; (try dsimp only); go_simp); (try with_reducible rfl)
      try simp only [Act.put, List.setIfInBounds_toArray, List.set_cons_zero, List.set_cons_succ]
      refine wpAnyE_take (i := 6) (oi := { dst := some 21, op := Op.binOp BinOp.add 3 (Operand.tmp 20) (Operand.const (Value.int IntKind.i64 1)) 3, type := 3, pos := "filter.go:83", after := #[{ on := 5, ground := Ground.data }], guard := none }) (v := ?_) rfl (by kernel_rfl) (by kernel_rfl) (by kernel_rfl) (by kernel_rfl) (fun _ _ _ h => h) (Or.inl ⟨by rfl, ?_⟩) ?_
      rotate_left
      · (intro w hE; have a0 := cellb a0 hE; (try dsimp only); go_simp); (try with_reducible rfl)
      try simp only [Act.put, List.setIfInBounds_toArray, List.set_cons_zero, List.set_cons_succ]
      refine wpAnyE_call (i := 2) (oi := { dst := some 17, op := Op.call { callee := Callee.value (Operand.func 118), args := #[Operand.tmp 15, Operand.tmp 16], argTypes := #[57, 3] }, type := 118, pos := "filter.go:83", after := #[{ on := 0, ground := Ground.data }, { on := 1, ground := Ground.data }], guard := none }) (fun w hE => HS1.out w (hP.carry hE)) rfl (by kernel_rfl) (by kernel_rfl) (by kernel_rfl) (by kernel_rfl) (fun _ _ _ h => h) (by rfl) (fun w hE => by (try dsimp only); go_simp) ?_
      try simp only [Act.put, List.setIfInBounds_toArray, List.set_cons_zero, List.set_cons_succ]
      refine wpAnyE_take (i := 3) (oi := { dst := some 18, op := Op.field 118 (Operand.tmp 17) 0, type := 3, pos := "filter.go:83", after := #[{ on := 2, ground := Ground.data }], guard := none }) (v := ?_) rfl (by kernel_rfl) (by kernel_rfl) (by kernel_rfl) (by kernel_rfl) (fun _ _ _ h => h) (Or.inl ⟨by rfl, ?_⟩) ?_
      rotate_left
      · (intro w hE; have a0 := cellb a0 hE; (try dsimp only); go_simp); (try with_reducible rfl)
      try simp only [Act.put, List.setIfInBounds_toArray, List.set_cons_zero, List.set_cons_succ]
      refine wpAnyE_call (i := 7) (oi := { dst := some 22, op := Op.call { callee := Callee.value (Operand.func 118), args := #[Operand.tmp 19, Operand.tmp 21], argTypes := #[57, 3] }, type := 118, pos := "filter.go:83", after := #[{ on := 4, ground := Ground.data }, { on := 6, ground := Ground.data }, { on := 2, ground := Ground.chain }], guard := none }) (fun w hE => HS2.out w (hP.carry hE)) rfl (by kernel_rfl) (by kernel_rfl) (by kernel_rfl) (by kernel_rfl) (fun _ _ _ h => h) (by rfl) (fun w hE => by (try dsimp only); go_simp) ?_
      try simp only [Act.put, List.setIfInBounds_toArray, List.set_cons_zero, List.set_cons_succ]
      refine wpAnyE_take (i := 8) (oi := { dst := some 23, op := Op.field 118 (Operand.tmp 22) 0, type := 3, pos := "filter.go:83", after := #[{ on := 7, ground := Ground.data }, { on := 9, ground := Ground.gcOnly Departure.lateStores }], guard := none }) (v := ?_) rfl (by kernel_rfl) (by kernel_rfl) (by kernel_rfl) (by kernel_rfl) (fun _ _ _ h => h) (Or.inl ⟨by rfl, ?_⟩) ?_
      rotate_left
      · (intro w hE; have a0 := cellb a0 hE; (try dsimp only); go_simp); (try with_reducible rfl)
      try simp only [Act.put, List.setIfInBounds_toArray, List.set_cons_zero, List.set_cons_succ]
      refine wpAnyE_take (i := 9) (oi := { dst := some 4, op := Op.assign (Operand.tmp 18), type := 3, pos := "filter.go:83", after := #[{ on := 3, ground := Ground.data }, { on := 7, ground := Ground.chain }, { on := 0, ground := Ground.phase }, { on := 1, ground := Ground.phase }, { on := 2, ground := Ground.phase }, { on := 3, ground := Ground.phase }, { on := 4, ground := Ground.textOnly Departure.lateStores }, { on := 5, ground := Ground.textOnly Departure.lateStores }, { on := 6, ground := Ground.textOnly Departure.lateStores }, { on := 7, ground := Ground.textOnly Departure.lateStoresUnsure }, { on := 8, ground := Ground.textOnly Departure.lateStores }], guard := none }) (v := ?_) rfl (by kernel_rfl) (by kernel_rfl) (by kernel_rfl) (by kernel_rfl) (fun _ _ _ h => h) (Or.inl ⟨by rfl, ?_⟩) ?_
      rotate_left
      · (intro w hE; have a0 := cellb a0 hE; (try dsimp only); go_simp); (try with_reducible rfl)
      try simp only [Act.put, List.setIfInBounds_toArray, List.set_cons_zero, List.set_cons_succ]
      refine wpAnyE_take (i := 10) (oi := { dst := some 5, op := Op.assign (Operand.tmp 23), type := 3, pos := "filter.go:83", after := #[{ on := 8, ground := Ground.data }, { on := 9, ground := Ground.chain }, { on := 0, ground := Ground.phase }, { on := 1, ground := Ground.phase }, { on := 2, ground := Ground.phase }, { on := 3, ground := Ground.phase }, { on := 4, ground := Ground.phase }, { on := 5, ground := Ground.phase }, { on := 6, ground := Ground.phase }, { on := 7, ground := Ground.phase }, { on := 8, ground := Ground.phase }, { on := 9, ground := Ground.phase }], guard := none }) (v := ?_) rfl (by kernel_rfl) (by kernel_rfl) (by kernel_rfl) (by kernel_rfl) (fun _ _ _ h => h) (Or.inl ⟨by rfl, ?_⟩) ?_
      rotate_left
      · (intro w hE; have a0 := cellb a0 hE; (try dsimp only); go_simp); (try with_reducible rfl)
      try simp only [Act.put, List.setIfInBounds_toArray, List.set_cons_zero, List.set_cons_succ]
      refine wpAnyE_done (by kernel_rfl) (fun wy1 hE => ?_) _
      have hbz1 := bthen hbz hE
      have a0 := cellb a0 hE
      have hP := hP.carry hE
      clear hE
      have hB := hbz1
      obtain ⟨W5, hW5⟩ : ∃ v, v = wy1 := ⟨_, rfl⟩
      rw [← hW5] at hB ⊢
      clear hW5 hP a0
      have hr2 : r = crossB p1 p2 := HR.out
      rw [crossB, negB, negB] at hr2
      have HR2 := Lib.hid hr2
      clear hr2
      by_cases c1 : p1 = 0
      · subst c1
        go_wp2
        go_ret
        exact ⟨ret_bool (by rw [HR2.out]; simp), hB⟩
      · by_cases c2 : p1 < 0
        · have c3 : ¬ 0 < p1 := by omega
          by_cases c4 : 0 < p2
          all_goals
            go_wp2
            go_ret
            exact ⟨ret_bool (by rw [HR2.out, Bool.eq_iff_iff]; simp; omega), hB⟩
        · have c3 : 0 < p1 := by omega
          by_cases c4 : p2 < 0
          all_goals
            go_wp2
            go_ret
            exact ⟨ret_bool (by rw [HR2.out, Bool.eq_iff_iff]; simp; omega), hB⟩
    · clear S1 S2 HS1
      go_enter Tryz.func119, Tryz.ntmps119
      go_wp2_with fail
      refine (T1.out w hP).mono ?_
      rintro e w1 ⟨rfl, hb⟩
      replace hP := hP.carry hb
      have a0 := cellb a0 hb
      replace hB := bthen hB hb
      clear hb
      go_wp2_with fail
      refine (T2.out w1 hP).mono ?_
      rintro e w2 ⟨rfl, hb⟩
      go_wp2
      go_ret
      exact ⟨ret_bool (by rw [HR.out]; rfl), bthen hB hb⟩
  · clear S1 S2 T2
    go_enter Tryz.func119, Tryz.ntmps119
    go_wp2_with fail
    refine (T1.out w hP).mono ?_
    rintro e w1 ⟨rfl, hb⟩
    go_wp2
    go_ret
    exact ⟨ret_bool (by rw [HR.out]; rfl), bthen hB hb⟩

def resL (ls : List (Int × Int)) : List Int := chosenL (resB ls) 1 11
set_option maxRecDepth 100000 in
set_option maxHeartbeats 1000000 in
theorem Resonances_any (v : Value) (ls : List (Int × Int)) (w : World) (hv : Pairs w v ls) (hl : ls.length ≤ 1000000) :
    Calls Tryz.prog 62 #[.agg #[v]] w fun e w' => (∃ u, e = .returned (.tuple #[u, .int .i64 (fltE ls)]) ∧ Ints w' u (lsOr (fltE ls) (resL ls))) ∧ Below w.heap.size w w' := by
  have HV := Lib.hid hv
  have TC := Lib.hid (fun W hP => CheckFilter_any v ls W hP hl)
  obtain ⟨a, cp, hva, _, _⟩ := id hv
  have TX := Lib.hid (fun (B : Nat) (W : World) (hf : fltE ls = 0) (hP : Pairs W v ls) (hb : Blk W B 57 [v]) => chosen_any 119 #[.pointer (some ⟨B, 0, none⟩)] Tryz.enterResonances1 (resB ls) 1 11 11 W (by omega) (by omega) (by omega) (fun x h1 h2 W1 hb1 => resonances1_any v ls x B W1 (hP.carry hb1) hl hf (by omega) (hb.carry hb1)))
  subst hva
  rw [resL]
  generalize chosenL (resB ls) 1 11 = L at TX ⊢
  generalize fltE ls = E at TC TX ⊢
  clear hv
  go_enter Tryz.func62, Tryz.ntmps62
  go_upto_region 1 with fail
  obtain ⟨W1, hW1⟩ : ∃ v, v = World.alloc w (Obj.cells #[.slice a ls.length cp] 57) := ⟨_, rfl⟩
  have kW1 : Below w.heap.size w W1 := by rw [hW1]; exact below_new _ _
  have iW1 : Blk W1 (w.heap.size) 57 [.slice a ls.length cp] := by rw [hW1]; exact Blk.new _ _ _
  have sW1 : W1.heap.size = w.heap.size + 1 := by rw [hW1]; simp
  rw [← hW1]
  clear hW1
  have i1 := iW1
  have hB := kW1
  clear iW1 kW1 sW1
  have a0 := i1.cell (j := 0) (v := .slice a ls.length cp) rfl
  go_wp2_with fail
  refine (TC.out W1 (HV.out.carry hB)).mono ?_
  rintro e w3 ⟨rfl, hb⟩
  replace i1 := i1.carry hb
  have a0 := cellb a0 hb
  replace hB := bthen hB hb
  clear hb
  by_cases he : E = 0
  · subst he
    have TXX := Lib.hid (TX.out w.heap.size w3 (by trivial) (HV.out.carry hB) i1)
    clear TX
    go_wp2_with fail
    refine TXX.out.mono ?_
    rintro e w6 ⟨⟨u, rfl, hu⟩, hb6⟩
    go_wp2_with fail
    go_ret2
    exact ⟨⟨_, rfl, by rw [lsOr, if_pos rfl]; exact hu⟩, bthen hB hb6⟩
  · have z : (E == 0) = false := by rw [beq_eq_false_iff_ne]; exact he
    have HNE := Lib.hid he
    go_wp2_with fail
    go_ret2
    exact ⟨⟨_, rfl, by rw [lsOr, if_neg HNE.out]; exact Ints.nil _⟩, hB⟩
end Go.Proofs.YtlohcnecehlljaaGreatDoor

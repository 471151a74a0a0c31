/- Proves the tied card of the law LoopTables: it returns true at every input and leaves its arguments as they were. Conditions: those of the given row and its card. -/
import Derived.Test.YtnlmaildmeihgaaGreatDoorLawTab
import Derived.Test.YtnlmaildmeihgaaGreatDoorRowBase
import Derived.Test.YtnlmaildmeihgaaGreatDoorCards
import Derived.Test.YtnlmaildmeihgaaGreatDoorTie
import Derived.SevenTiedAt
namespace Go.Proofs.YtnlmaildmeihgaaGreatDoor
open Go.ChangeShapes Go.WideShapes Go.ChangeAt Go.RowKit
set_option linter.unusedVariables false


set_option maxRecDepth 100000 in
theorem open_rowsArg {H : Type} {enc : TypeId × Value → H} {W : World} {r : Reach} {b0 : Nat} {v : Value} {d : DataW H} {p : List MemPlace}
    (hval : Value.okWide Tryz.prog W r b0 104 v) (hd : DataW.Trod enc Tryz.prog W 0 (fun _ => true) true 104 v d p) : ∃ ll : List (List Int), RowsOf W v ll ∧ ll.length ≤ maxLen ∧ ∀ l ∈ ll, l.length ≤ maxLen := by
  have hi : Tryz.prog.underlying 3 = some (.int .i64) := by kernel_rfl
  have hc : Tryz.prog.cellsOf 3 = 1 := by kernel_rfl
  have he : Tryz.prog.cellsOf 22 = 1 := by kernel_rfl
  obtain ⟨a0, len, cap, rfl⟩ := okWide_slice Tryz.underlying104 hval
  obtain ⟨fuel, hf⟩ := hd
  rcases Go.Deep.open_int_rows Tryz.underlying104 Tryz.underlying22 hi he hc hf with ⟨hcs, hx⟩ | ⟨a, len', cap', A, L, C, Z, hcs, _, hl, hm, hx, hrow⟩
  · simp [Value.cells] at hcs
    obtain ⟨rfl, rfl, rfl⟩ := hcs
    exact ⟨[], RowsOf.nil W, by simp, fun l hl => by simp at hl⟩
  · simp [Value.cells] at hcs
    obtain ⟨rfl, rfl, rfl⟩ := hcs
    refine ⟨(List.range len).map fun i => (Z i).take (L i), ⟨(List.range len).map fun i => Value.slice (A i) (L i) (C i), ⟨some a, cap, by simp, by simpa using hl, fun h0 => ?_⟩, by simp, fun j u l hu hl' => ?_⟩, by simp; omega, fun l hl' => ?_⟩
    · have h0' : 0 < cap := by simp at h0; omega
      obtain ⟨b, off, spot⟩ := a
      have hspot : spot = none := by simpa [Addr.add] using World.cell?_spot (hrow 0 h0').1
      subst hspot
      refine ⟨b, off, rfl, fun j u hj => ?_⟩
      have hjl := (List.getElem?_eq_some_iff.1 hj).1
      simp at hjl
      rw [List.getElem?_map, List.getElem?_range hjl] at hj
      cases hj
      have := (hrow j (by omega)).1
      rw [addr_add] at this
      exact this
    · have hjl := (List.getElem?_eq_some_iff.1 hu).1
      simp at hjl
      rw [List.getElem?_map, List.getElem?_range hjl] at hu hl'
      cases hu
      cases hl'
      obtain ⟨_, hLC, hCm, hZ, _, hn, hcell⟩ := hrow j (by omega)
      have hlen : ((Z j).take (L j)).length = L j := by rw [List.length_take, hZ, Nat.min_eq_left hLC]
      refine ⟨A j, C j, by rw [hlen], by rw [hlen]; exact hLC, fun h0 => ?_⟩
      rw [hlen] at h0
      cases hA : A j with
      | none => have := hn hA; omega
      | some a' =>
        have hc' := (hcell a' hA).2
        obtain ⟨b, off, spot⟩ := a'
        have hspot : spot = none := by simpa [Addr.add] using World.cell?_spot (hc' 0 (by omega))
        subst hspot
        refine ⟨b, off, rfl, fun i hi' => ?_⟩
        rw [hlen] at hi'
        have := hc' i (by omega)
        rw [addr_add] at this
        rw [this, List.getElem?_take, if_pos hi']
        rfl
    · obtain ⟨i, hi', rfl⟩ := List.mem_map.1 hl'
      obtain ⟨_, hLC, hCm, hZ, _, _, _⟩ := hrow i (by have := List.mem_range.1 hi'; omega)
      rw [List.length_take, hZ]; omega


set_option maxRecDepth 100000 in
theorem tab_lifted (os : Os) (started : os.Started) (H : Type) (enc : TypeId × Value → H) :
    ReturnsInHanded {} Tryz.checked os 14 .any (fun w args => (Rows.loopTablesSpec.pre enc Tryz.prog Tryz.f14 [] false w args ∧ laidMetH Tryz.prog Rows.loopTablesRow.laid w) ∧ sizedMet enc Tryz.prog Tryz.f14 (OpenSpec.ofChange Rows.loopTablesSpec) false w args)
      (Rows.loopTablesSpec.post enc Tryz.prog Tryz.f14 false true false false) := by
  refine returnsInHanded_of_change_and (C := Tryz.checked) (X := fun w _ => laidMetH Tryz.prog Rows.loopTablesRow.laid w) (fun _ _ _ hh h => h.of_heap hh) own started (by kernel_rfl) Tryz.func14
    (ChangeSpec.witness_shaped (enc := enc) (C := Tryz.checked) (os := os) (X := fun w _ => laidMetH Tryz.prog Rows.loopTablesRow.laid w) false (World.doorLaid Tryz.prog 400 os) #[.slice none 0 0, .slice none 0 0] 8 rfl (World.shaped_of_RefB (by kernel_rfl) (by kernel_rfl)) (by kernel_rfl) (by kernel_rfl) (by kernel_rfl) (door_met os _)) ?_
  intro W base args ds gs before hval0 hW _ _ hL _
  have hval : ∀ (j : Nat) t v, Tryz.f14.params[j]? = some t → args[j]? = some v → Value.okWide Tryz.prog W .any base t v := hval0
  have hW' := hW
  obtain ⟨p, q, hA0, hV, rfl, hfz, hnd⟩ := hW
  have hA : DataW.TrodAll enc Tryz.prog W 0 (fun _ => true) true Tryz.f14.params.toList args.toList ds p := hA0
  rw [Tryz.params14] at hA hval
  obtain ⟨v0, vs0, d0, ds0, p0, q0, hargs, rfl, rfl, h0, r0⟩ := trodAll_cons hA
  obtain ⟨v1, vs1, d1, ds1, p1, q1, rfl, rfl, rfl, h1, r1⟩ := trodAll_cons r0
  obtain ⟨rfl, rfl, rfl⟩ := trodAll_nil r1
  obtain rfl : args = #[v0, v1] := by cases args; simp_all
  obtain ⟨rfl, rfl⟩ := trodVars_none hV
  obtain ⟨l0, i0, w0⟩ := open_intsArg Tryz.underlying22 (hval 0 22 v0 rfl rfl) h0
  obtain ⟨l1, i1, m1, w1⟩ := open_rowsArg (hval 1 104 v1 rfl rfl) h1
  clear hA0 hval0
  obtain ⟨hQ, hP⟩ := laid_facts hL
  refine (tab_law v0 v1 l0 l1 W hQ hP i0 i1 m1 w1).mono fun e W' ⟨he, bel⟩ => ?_
  subst he
  exact ⟨_, rfl, _, _, _, [], _, [], hW', trodAll_mk1 (shut_bool Tryz.underlying4 _), (trodAll_cons_mk (Below.trod laidOut (by kernel_rfl) (of_decide_eq_true (by kernel_rfl)) h0 bel (trod_places h0)) (trodAll_cons_mk (Below.trod laidOut (by kernel_rfl) (of_decide_eq_true (by kernel_rfl)) h1 bel (trod_places h1)) trodAll_mk0)), rfl, bel.frame _, fun h => by cases h⟩

theorem tab_holds : Rows.LoopTablesSaid :=
  OpenClaim.holds_of_wide 14 Tryz.f14 rfl rfl rfl rfl rfl rfl rfl ⟨rfl, rfl, rfl, rfl, rfl⟩ rfl rfl rfl rfl rfl (by kernel_rfl) Tryz.func14 (by kernel_rfl)
    (of_decide_eq_true (by kernel_rfl)) (by unfold Func.isWrapper; first | (rw [if_pos (by decide +kernel)]; kernel_rfl) | (rw [if_neg (by decide +kernel)]; exact ⟨rfl, rfl⟩))
    (fun os started H enc _ => tab_lifted os started H enc)

/-- the statement. -/
theorem tab_card : Rows.LoopTablesCardSaid :=
  Claim7.holds_tied_plain_at .later [] [.data, .data, .data, .data] true (true, "2d7be2c99e0785c11df1edcb99264260544e5a26fe5cf6eab9ef98df0922c00a") true
    tab_holds (fun _ h => by cases h) (by kernel_rfl) (fun _ h => by cases h) loopTables_row_tie rfl ⟨rfl, rfl⟩ (by kernel_rfl) rfl
    (fun f fn hf hfn => by
      obtain rfl : f = 14 := Option.some.inj ((show Tryz.prog.funcNamed "bipole/bipolelaw03.LoopTables" = some 14 by kernel_rfl).symm.trans hf) |>.symm
      obtain rfl : fn = Tryz.f14 := (Option.some.inj (Tryz.func14.symm.trans hfn)).symm
      exact ⟨by kernel_rfl, fun j t ht => by
        rw [Tryz.params14] at ht
        have hm := Array.mem_of_getElem? ht
        have hall : (#[22, 104].all fun u => !Tryz.prog.wantsStandIn u) = true := by kernel_rfl
        exact (show Tryz.prog.wantsStandIn t = false by simpa using Array.all_eq_true'.1 hall t hm)⟩)
    (by kernel_rfl)

#print axioms tab_card

end Go.Proofs.YtnlmaildmeihgaaGreatDoor

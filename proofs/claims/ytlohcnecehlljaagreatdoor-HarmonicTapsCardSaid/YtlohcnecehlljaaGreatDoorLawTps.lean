/- The law HarmonicTaps: the walk. (printed by gen/lawtps.py) -/
import Derived.Test.YtlohcnecehlljaaGreatDoorHtA
import Derived.Test.YtlohcnecehlljaaGreatDoorLawPol
import Derived.Test.YtlohcnecehlljaaGreatDoorLawFlt
namespace Go.Proofs.YtlohcnecehlljaaGreatDoor
set_option linter.unusedSimpArgs false
set_option linter.unusedVariables false
open Go.RowKit

theorem avoE_parts {ls l : List (Int × Int)} {b : Int} {os : List Int} (h : avoE ls b l os = 0) : braE ls b = 0 ∧ polE l = 0 ∧ ordE os = 0 := by
  unfold avoE at h
  obtain ⟨h1, h⟩ := firstE_cons_ok h
  obtain ⟨h2, h⟩ := firstE_cons_ok h
  exact ⟨h1, h2, (firstE_cons_ok h).1⟩
theorem ordE_all {os : List Int} (h : ordE os = 0) : ∀ x ∈ os, 1 ≤ x ∧ x ≤ 12 := ordE_zero h
theorem avoE_flat (ls : List (Int × Int)) (b : Int) (l : List (Int × Int)) (os : List Int) : firstE [fltE ls, whenE (decide (b < 0) || decide ((ls.length : Int) ≤ b)) 10, polE l, ordE os] = avoE ls b l os := by
  rw [avoE, braE]
  generalize fltE ls = e1
  generalize whenE (decide (b < 0) || decide ((ls.length : Int) ≤ b)) 10 = e2
  generalize polE l = e3
  generalize ordE os = e4
  by_cases h1 : e1 = 0 <;> by_cases h2 : e2 = 0 <;> by_cases h3 : e3 = 0 <;> by_cases h4 : e4 = 0 <;> simp [firstE, h1, h2, h3, h4]

set_option maxRecDepth 100000 in
set_option maxHeartbeats 40000000 in
theorem tps_law (v u z : Value) (ls l : List (Int × Int)) (os : List Int) (h ed b : Int) (w : World) (hw : Powers w) (hp : Pows w) (hv : Pairs w v ls) (hu : Pairs w u l) (hz : Ints w z os) :
    Calls Tryz.prog 4 #[.agg #[v], u, .agg #[.int .i64 h, .int .i64 ed, .int .i64 b, z]] w fun e w' => e = .returned (.bool true) ∧ Below w.heap.size w w' := by
  have S0 := Lib.hid (fun W hP => ShortR_any v ls W hP)
  have S1 := Lib.hid (fun W hP => ShortPolygonR_any u l W hP)
  obtain ⟨a, cp, rfl, _, _⟩ := id hv
  obtain ⟨a2, cp2, rfl, _, _⟩ := id hu
  obtain ⟨a3, cp3, rfl, _, _⟩ := id hz
  have HV := Lib.hid hv
  have HU := Lib.hid hu
  have HZ := Lib.hid hz
  have TAW := Lib.hid (fun W hP hQ => awake_any W hP hQ)
  clear hv hu hz
  by_cases hc4 : (ls.length : Int) ≤ 4
  · by_cases hc9 : (l.length : Int) ≤ 9
    · by_cases hc13 : (os.length : Int) ≤ 13
      · have hd4 : decide ((ls.length : Int) ≤ 4) = true := decide_eq_true hc4
        have hd9 : decide ((l.length : Int) ≤ 9) = true := decide_eq_true hc9
        have hl : ls.length ≤ 1000000 := by omega
        have hlu : l.length ≤ 1000000 := by omega
        have hlz : os.length ≤ 1000000 := by omega
        have TG := Lib.hid (fun W hP => given_any (.slice a ls.length cp) ls W hP hl)
        have TP := Lib.hid (fun W hP => points_any (.slice a2 l.length cp2) l W hP hlu)
        have TN := Lib.hid (fun W hP => ints_any (.slice a3 os.length cp3) os W hP hlz)
        have TM := Lib.hid (fun v u W hP hQ => Meets_any v u ls l h W hP hl hQ hlu)
        have TE := Lib.hid (fun v u W hP hQ => Edge_any v u ls l h W hP hl hQ hlu)
        have TC := Lib.hid (fun v u W hP hQ => CheckEdge_any v u ls l h ed W hP hl hQ hlu)
        have TA := Lib.hid (fun v u z W hP hQ hR => Avoid_any v u z ls b l os W hP hl hQ hlu hR hlz)
        have R0 := Lib.hid (fun W hP => CheckFilterR_any (.slice a ls.length cp) ls W hP hl)
        have R1 := Lib.hid (fun W hP => CheckPolygonR_any (.slice a2 l.length cp2) l W hP hlu)
        have R2 := Lib.hid (fun W => CheckOrderR_any h W)
        have R3 := Lib.hid (fun W hP => CheckOrdersR_any (.slice a3 os.length cp3) os W hP hlz)
        have F1 := Lib.hid (fun (u : Value) (W : World) (hI : Ints W u [fltE ls, polE l, withinE h 1 12]) => firstL_any u _ W (by simp) hI)
        rw [show firstE [fltE ls, polE l, withinE h 1 12] = meeE ls l h from rfl] at F1
        obtain ⟨cb, hcb⟩ : ∃ c, c = (decide (ed < 0) || decide ((l.length : Int) ≤ ed)) := ⟨_, rfl⟩
        obtain ⟨cd, hcd⟩ : ∃ c, c = (decide (b < 0) || decide ((ls.length : Int) ≤ b)) := ⟨_, rfl⟩
        have RW := Lib.hid (fun W => WhenR_any cb 10 W)
        have RX := Lib.hid (fun W => WhenR_any cd 10 W)
        have F2 := Lib.hid (fun (u : Value) (W : World) (hI : Ints W u [meeE ls l h, whenE cb 10]) => firstL_any u _ W (by simp) hI)
        rw [hcb, show firstE [meeE ls l h, whenE (decide (ed < 0) || decide ((l.length : Int) ≤ ed)) 10] = chkN ls l h ed from rfl, ← hcb] at F2
        have F3 := Lib.hid (fun (u : Value) (W : World) (hI : Ints W u [fltE ls, whenE cd 10, polE l, ordE os]) => firstL_any u _ W (by simp) hI)
        rw [hcd, avoE_flat, ← hcd] at F3
        have hm0 : meeE ls l h = 0 → fltE ls = 0 ∧ (0 ≤ h ∧ h ≤ 13) ∧ 0 < l.length := fun he => by
          obtain ⟨h1, h2, h3⟩ := meeE_zero he
          exact ⟨h1, by omega, by have := (polE_zero h2).1; omega⟩
        have R4 := Lib.hid (fun (he : meeE ls l h = 0) W hP hQ => MeetsR_any (.slice a ls.length cp) (.slice a2 l.length cp2) ls l h W hP hl hQ hlu (hm0 he).1 (hm0 he).2.1 (hm0 he).2.2)
        have R5 := Lib.hid (fun (he : meeE ls l h = 0) W hP hQ => EdgeR_any (.slice a ls.length cp) (.slice a2 l.length cp2) ls l h W hP hl hQ hlu (hm0 he).1 (hm0 he).2.1)
        have R6 := Lib.hid (fun (he : chkN ls l h ed = 0) W hP hQ => by
          obtain ⟨h1, h2, h3⟩ := chkN_zero he
          have := SeparatesR_any (.slice a ls.length cp) (.slice a2 l.length cp2) ls l h ed.toNat W hP hl hQ hlu (hm0 h1).1 (hm0 h1).2.1 (by omega)
          rw [Int.toNat_of_nonneg h2] at this
          exact this)
        have RQ := Lib.hid (fun W => WhenR_any (!sepB (edgeK l ed.toNat) ls h) 19 W)
        have R7 := Lib.hid (fun (he : avoE ls b l os = 0) W hP hQ hR => by
          obtain ⟨h1, h2, h3⟩ := avoE_parts he
          obtain ⟨_, hb0, hb1⟩ := braE_zero h1
          have := AvoidR_any (.slice a ls.length cp) (.slice a2 l.length cp2) (.slice a3 os.length cp3) ls b.toNat l os W hP hl (by omega) hQ hlu (by have := (polE_zero h2).1; omega) hR hlz (ordE_all h3)
          rw [Int.toNat_of_nonneg hb0] at this
          exact this)
        have hmb := Lib.hid (rfl : bOr (meeE ls l h) (meetB ls l h) = bOr (meeE ls l h) (meetB ls l h))
        obtain ⟨m, hm⟩ : ∃ m, m = bOr (meeE ls l h) (meetB ls l h) := ⟨_, rfl⟩
        obtain ⟨g, hg⟩ : ∃ g, g = edgR ls l h := ⟨_, rfl⟩
        obtain ⟨ce, hce⟩ : ∃ g, g = chkE ls l h ed := ⟨_, rfl⟩
        obtain ⟨av, hav⟩ : ∃ g, g = avoR ls b l os := ⟨_, rfl⟩
        rw [← hm] at TM
        rw [← hg] at TE
        rw [← hce] at TC
        rw [← hav] at TA
        rw [edgR] at hg
        rw [chkE, orE] at hce
        rw [avoR] at hav
        clear hmb hm0
        generalize avoT ls b.toNat l os = at0 at R7 hav
        generalize avoE ls b l os = four at F3 R7 hav
        generalize sepB (edgeK l ed.toNat) ls h = sp at R6 RQ hce
        generalize whenE (!sp) 19 = Z at RQ hce
        generalize chkN ls l h ed = three at F2 R6 hce
        generalize edgL ls l h = eg at R5 hg
        generalize meetB ls l h = mb at R4 hm
        generalize meeE ls l h = bad at F1 F2 R4 R5 hm hg TM
        generalize fltE ls = e1 at R0 F1 F3
        generalize polE l = e2 at R1 F1 F3
        generalize withinE h 1 12 = e3 at R2 F1
        generalize ordE os = e4 at R3 F3
        generalize whenE cb 10 = e5 at RW F2
        generalize whenE cd 10 = e6 at RX F3
        obtain ⟨g1, g2⟩ := g
        obtain ⟨av1, av2⟩ := av
        obtain ⟨at1, at2⟩ := at0
        simp only at TE TA R7
        have HM := Lib.hid hm
        have HG := Lib.hid hg
        have HCE := Lib.hid hce
        have HAV := Lib.hid hav
        have HCB := Lib.hid hcb
        have HCD := Lib.hid hcd
        clear hm hg hce hav hcb hcd
        go_enter Tryz.func4, Tryz.ntmps4
        go_upto_region 1 with fail
        obtain ⟨W1, hW1⟩ : ∃ v, v = World.alloc w (Obj.cells #[.slice a ls.length cp] 47) := ⟨_, rfl⟩
        have kW1 : Below w.heap.size w W1 := by rw [hW1]; exact below_new _ _
        have iW1 : Blk W1 (w.heap.size) 47 [.slice a ls.length cp] := by rw [hW1]; exact Blk.new _ _ _
        have sW1 : W1.heap.size = w.heap.size + 1 := by rw [hW1]; simp
        rw [← hW1]
        clear hW1
        obtain ⟨Wa, hWa⟩ : ∃ v, v = World.alloc W1 (Obj.cells #[.int .i64 h, .int .i64 ed, .int .i64 b, .slice a3 os.length cp3] 50) := ⟨_, rfl⟩
        have kWa : Below W1.heap.size W1 Wa := by rw [hWa]; exact below_new _ _
        have iWa : Blk Wa (w.heap.size + 1) 50 [.int .i64 h, .int .i64 ed, .int .i64 b, .slice a3 os.length cp3] := by rw [hWa, ← sW1]; exact Blk.new _ _ _
        have sWa : Wa.heap.size = w.heap.size + 1 + 1 := by rw [hWa]; simp [sW1]
        rw [← hWa]
        clear hWa
        have a0 := (iW1.carry kWa).cell (j := 0) (v := .slice a ls.length cp) rfl
        have q0 := iWa.cell (j := 0) (v := .int .i64 h) rfl
        have q1 := iWa.cell (j := 1) (v := .int .i64 ed) rfl
        have q2 := iWa.cell (j := 2) (v := .int .i64 b) rfl
        have q3 := iWa.cell (j := 3) (v := .slice a3 os.length cp3) rfl
        obtain ⟨G1, hG1⟩ : ∃ G, G = w.heap.size + 1 := ⟨_, rfl⟩
        rw [← hG1] at q0 q1 q2 q3 ⊢
        obtain ⟨G0, hG0⟩ : ∃ G, G = w.heap.size := ⟨_, rfl⟩
        rw [← hG0] at a0 ⊢
        have hB := bthen kW1 kWa
        clear iW1 kW1 sW1 iWa kWa sWa hG0 hG1
        have HVa := Lib.hid (HV.out.carry hB)
        have HUa := Lib.hid (HU.out.carry hB)
        have HZa := Lib.hid (HZ.out.carry hB)
        have HWa := Lib.hid (hw.carry hB)
        have HPa := Lib.hid (hp.carry hB)
        have HB := Lib.hid hB
        clear hB
        have S0b := Lib.hid (S0.out Wa HVa.out)
        rw [hd4] at S0b
        have A0 := Lib.hid a0
        have Q0 := Lib.hid q0
        have Q1 := Lib.hid q1
        have Q2 := Lib.hid q2
        have Q3 := Lib.hid q3
        have hd13 : decide ((13 : Int) < (os.length : Int)) = false := decide_eq_false (by omega)
        go_wp2_with fail
        refine (S0b.out).mono ?_
        rintro e Wb ⟨rfl, hA⟩
        have q3 := cellb q3 hA
        have S1b := Lib.hid (S1.out Wb (HUa.out.carry hA))
        rw [hd9] at S1b
        clear S0 S1 S0b hd4 hd9
        go_wp2_with fail
        refine (S1b.out).mono ?_
        rintro e Wb ⟨rfl, rfl⟩
        clear S1b
        go_upto_region 3 with fail
        clear a0 q0 q1 q2 q3 hd13 hc4 hc9 hc13
        go_cut [7, 8] from 36 to 46 (fun u7 u8 wn => u7 = .bool m ∧ u8 = .int .i64 bad ∧ Below Wa.heap.size Wa wn)
        case first =>
          refine wp_region_held_drew (S := (fun W => W.cell? ⟨G0, 0, none⟩ = some (.slice a ls.length cp) ∧ W.cell? ⟨G1, 0, none⟩ = some (.int .i64 h))) (by kernel_rfl) ⟨cellb A0.out hA.drew, cellb Q0.out hA.drew⟩ (fun hHeld0 => ?_)
          obtain ⟨wzd, hwz⟩ : ∃ v, v = Wb.drew := ⟨_, rfl⟩
          rw [← hwz] at hHeld0 ⊢
          have hbzd : Below Wa.heap.size Wa wzd := by rw [hwz]; exact hA.drew
          have hlzd : Below Wb.heap.size Wb wzd := by rw [hwz]; exact (Below.refl _ _).drew
          clear hwz hlzd
          refine wpAnyH_take (i := 0) (oi := { dst := some 37, op := Op.load 47 (Operand.tmp 3), type := 47, pos := "law.go:264", after := #[], guard := none }) (v := ?_) rfl (by kernel_rfl) (by kernel_rfl) (by kernel_rfl) (fun _ _ _ h => h) (Or.inl ⟨by rfl, ?_⟩) (by assumption) ?_
          rotate_left
          · (intro w hSw; (try dsimp only at hSw); go_simp); (try with_reducible rfl)
          try simp only [Act.put, List.setIfInBounds_toArray, List.set_cons_zero, List.set_cons_succ]
          refine wpAnyH_take (i := 2) (oi := { dst := some 39, op := Op.move (Operand.tmp 1), type := 48, pos := "law.go:264", after := #[], guard := none }) (v := ?_) rfl (by kernel_rfl) (by kernel_rfl) (by kernel_rfl) (fun _ _ _ h => h) (Or.inl ⟨by rfl, ?_⟩) (by assumption) ?_
          rotate_left
          · (intro w hSw; (try dsimp only at hSw); go_simp); (try with_reducible rfl)
          try simp only [Act.put, List.setIfInBounds_toArray, List.set_cons_zero, List.set_cons_succ]
          refine wpAnyH_take (i := 4) (oi := { dst := some 41, op := Op.fieldAddr 50 (Operand.tmp 5) 0, type := 0, pos := "law.go:264", after := #[], guard := none }) (v := ?_) rfl (by kernel_rfl) (by kernel_rfl) (by kernel_rfl) (fun _ _ _ h => h) (Or.inl ⟨by rfl, ?_⟩) (by assumption) ?_
          rotate_left
          · (intro w hSw; (try dsimp only at hSw); go_simp); (try with_reducible rfl)
          try simp only [Act.put, List.setIfInBounds_toArray, List.set_cons_zero, List.set_cons_succ]
          refine wpAnyH_take (i := 5) (oi := { dst := some 42, op := Op.load 3 (Operand.tmp 41), type := 3, pos := "law.go:264", after := #[{ on := 4, ground := Ground.data }], guard := none }) (v := ?_) rfl (by kernel_rfl) (by kernel_rfl) (by kernel_rfl) (fun _ _ _ h => h) (Or.inl ⟨by rfl, ?_⟩) (by assumption) ?_
          rotate_left
          · (intro w hSw; (try dsimp only at hSw); go_simp); (try with_reducible rfl)
          try simp only [Act.put, List.setIfInBounds_toArray, List.set_cons_zero, List.set_cons_succ]
          refine wpAnyH_ready (rs := [1]) (by kernel_rfl) (by simp) ?_
          refine (AllReadyH.cons (o := { dst := some 38, op := Op.call { callee := Callee.value (Operand.func 24), args := #[Operand.tmp 37], argTypes := #[47] }, type := 57, pos := "law.go:264", after := #[{ on := 0, ground := Ground.data }], guard := none }) rfl (fun K hK => ?_) AllReadyH.nil)
          go_simp
          refine (TG.out wzd (HVa.out.carry hbzd)).mono ?_
          rintro e wz1 ⟨⟨u1, rfl, hu1⟩, hl2⟩
          have hl := hl2
          clear hl2
          (try go_wp2_with fail)
          have hbz1 := bthen hbzd hl
          clear hl
          refine hK.out _ _ ⟨cellb A0.out hbz1, cellb Q0.out hbz1⟩ (fun hHeld1 => ?_)
          clear hK K hHeld0
          try simp only [Act.put, List.setIfInBounds_toArray, List.set_cons_zero, List.set_cons_succ]
          refine wpAnyH_ready (rs := [3]) (by kernel_rfl) (by simp) ?_
          refine (AllReadyH.cons (o := { dst := some 40, op := Op.call { callee := Callee.value (Operand.func 25), args := #[Operand.tmp 39], argTypes := #[48] }, type := 48, pos := "law.go:264", after := #[{ on := 2, ground := Ground.data }, { on := 1, ground := Ground.chain }], guard := none }) rfl (fun K hK => ?_) AllReadyH.nil)
          go_simp
          refine (TP.out wz1 (HUa.out.carry hbz1)).mono ?_
          rintro e wz3 ⟨⟨u2, rfl, hu2⟩, hl2⟩
          have hl := hl2
          clear hl2
          (try go_wp2_with fail)
          have hbz3 := bthen hbz1 hl
          have hu1 := hu1.carry hl
          clear hl
          refine hK.out _ _ ⟨cellb A0.out hbz3, cellb Q0.out hbz3⟩ (fun hHeld2 => ?_)
          clear hK K hHeld1
          try simp only [Act.put, List.setIfInBounds_toArray, List.set_cons_zero, List.set_cons_succ]
          refine wpAnyH_ready (rs := [6]) (by kernel_rfl) (by simp) ?_
          refine (AllReadyH.cons (o := { dst := some 43, op := Op.call { callee := Callee.value (Operand.func 23), args := #[Operand.tmp 38, Operand.tmp 40, Operand.tmp 42], argTypes := #[57, 48, 3] }, type := 53, pos := "law.go:264", after := #[{ on := 1, ground := Ground.data }, { on := 3, ground := Ground.data }, { on := 5, ground := Ground.data }, { on := 3, ground := Ground.chain }], guard := none }) rfl (fun K hK => ?_) AllReadyH.nil)
          go_simp
          refine (TM.out u1 u2 wz3 hu1 hu2).mono ?_
          rintro e wz6 ⟨rfl, hl⟩
          (try go_wp2_with fail)
          have hbz6 := bthen hbz3 hl
          have hu1 := hu1.carry hl
          have hu2 := hu2.carry hl
          clear hl
          refine hK.out _ _ ⟨cellb A0.out hbz6, cellb Q0.out hbz6⟩ (fun hHeld3 => ?_)
          clear hK K hHeld2
          try simp only [Act.put, List.setIfInBounds_toArray, List.set_cons_zero, List.set_cons_succ]
          refine wpAnyH_take (i := 7) (oi := { dst := some 36, op := Op.move (Operand.tmp 43), type := 53, pos := "law.go:264", after := #[{ on := 6, ground := Ground.data }], guard := none }) (v := ?_) rfl (by kernel_rfl) (by kernel_rfl) (by kernel_rfl) (fun _ _ _ h => h) (Or.inl ⟨by rfl, ?_⟩) (by assumption) ?_
          rotate_left
          · (intro w hSw; (try dsimp only at hSw); go_simp); (try with_reducible rfl)
          try simp only [Act.put, List.setIfInBounds_toArray, List.set_cons_zero, List.set_cons_succ]
          refine wpAnyH_take (i := 8) (oi := { dst := some 44, op := Op.extract (Operand.tmp 36) 0, type := 4, pos := "law.go:264", after := #[{ on := 7, ground := Ground.data }], guard := none }) (v := ?_) rfl (by kernel_rfl) (by kernel_rfl) (by kernel_rfl) (fun _ _ _ h => h) (Or.inl ⟨by rfl, ?_⟩) (by assumption) ?_
          rotate_left
          · (intro w hSw; (try dsimp only at hSw); go_simp); (try with_reducible rfl)
          try simp only [Act.put, List.setIfInBounds_toArray, List.set_cons_zero, List.set_cons_succ]
          refine wpAnyH_take (i := 9) (oi := { dst := some 45, op := Op.extract (Operand.tmp 36) 1, type := 28, pos := "law.go:264", after := #[{ on := 7, ground := Ground.data }, { on := 10, ground := Ground.gcOnly Departure.lateStores }], guard := none }) (v := ?_) rfl (by kernel_rfl) (by kernel_rfl) (by kernel_rfl) (fun _ _ _ h => h) (Or.inl ⟨by rfl, ?_⟩) (by assumption) ?_
          rotate_left
          · (intro w hSw; (try dsimp only at hSw); go_simp); (try with_reducible rfl)
          try simp only [Act.put, List.setIfInBounds_toArray, List.set_cons_zero, List.set_cons_succ]
          refine wpAnyH_take (i := 10) (oi := { dst := some 7, op := Op.assign (Operand.tmp 44), type := 4, pos := "law.go:264", after := #[{ on := 8, ground := Ground.data }, { on := 6, ground := Ground.chain }, { on := 0, ground := Ground.phase }, { on := 1, ground := Ground.phase }, { on := 2, ground := Ground.phase }, { on := 3, ground := Ground.phase }, { on := 4, ground := Ground.phase }, { on := 5, ground := Ground.phase }, { on := 6, ground := Ground.phase }, { on := 7, ground := Ground.phase }, { on := 8, ground := Ground.phase }, { on := 9, ground := Ground.textOnly Departure.lateStores }], guard := none }) (v := ?_) rfl (by kernel_rfl) (by kernel_rfl) (by kernel_rfl) (fun _ _ _ h => h) (Or.inl ⟨by rfl, ?_⟩) (by assumption) ?_
          rotate_left
          · (intro w hSw; (try dsimp only at hSw); go_simp); (try with_reducible rfl)
          try simp only [Act.put, List.setIfInBounds_toArray, List.set_cons_zero, List.set_cons_succ]
          refine wpAnyH_take (i := 11) (oi := { dst := some 8, op := Op.assign (Operand.tmp 45), type := 28, pos := "law.go:264", after := #[{ on := 9, ground := Ground.data }, { on := 10, ground := Ground.chain }, { on := 0, ground := Ground.phase }, { on := 1, ground := Ground.phase }, { on := 2, ground := Ground.phase }, { on := 3, ground := Ground.phase }, { on := 4, ground := Ground.phase }, { on := 5, ground := Ground.phase }, { on := 6, ground := Ground.phase }, { on := 7, ground := Ground.phase }, { on := 8, ground := Ground.phase }, { on := 9, ground := Ground.phase }, { on := 10, ground := Ground.phase }], guard := none }) (v := ?_) rfl (by kernel_rfl) (by kernel_rfl) (by kernel_rfl) (fun _ _ _ h => h) (Or.inl ⟨by rfl, ?_⟩) (by assumption) ?_
          rotate_left
          · (intro w hSw; (try dsimp only at hSw); go_simp); (try with_reducible rfl)
          try simp only [Act.put, List.setIfInBounds_toArray, List.set_cons_zero, List.set_cons_succ]
          refine wpAnyH_done (by kernel_rfl) ?_ _
          clear hHeld3
          go_wp2_with fail
          go_meet
          exact ⟨rfl, rfl, hbz6⟩
        case rest =>
          clear hA
          obtain ⟨rfl, rfl, hA⟩ := hcut
          go_upto_region 4 with fail
          go_cut [9, 10] from 46 to 56 (fun u9 u10 wn => u9 = .int .i64 g1 ∧ u10 = .int .i64 g2 ∧ Below Wa.heap.size Wa wn)
          case first =>
            refine wp_region_held_drew (S := (fun W => W.cell? ⟨G0, 0, none⟩ = some (.slice a ls.length cp) ∧ W.cell? ⟨G1, 0, none⟩ = some (.int .i64 h))) (by kernel_rfl) ⟨cellb A0.out hA.drew, cellb Q0.out hA.drew⟩ (fun hHeld0 => ?_)
            obtain ⟨wzd, hwz⟩ : ∃ v, v = wc.drew := ⟨_, rfl⟩
            rw [← hwz] at hHeld0 ⊢
            have hbzd : Below Wa.heap.size Wa wzd := by rw [hwz]; exact hA.drew
            have hlzd : Below wc.heap.size wc wzd := by rw [hwz]; exact (Below.refl _ _).drew
            clear hwz hlzd
            refine wpAnyH_take (i := 0) (oi := { dst := some 47, op := Op.load 47 (Operand.tmp 3), type := 47, pos := "law.go:265", after := #[], guard := none }) (v := ?_) rfl (by kernel_rfl) (by kernel_rfl) (by kernel_rfl) (fun _ _ _ h => h) (Or.inl ⟨by rfl, ?_⟩) (by assumption) ?_
            rotate_left
            · (intro w hSw; (try dsimp only at hSw); go_simp); (try with_reducible rfl)
            try simp only [Act.put, List.setIfInBounds_toArray, List.set_cons_zero, List.set_cons_succ]
            refine wpAnyH_take (i := 2) (oi := { dst := some 49, op := Op.move (Operand.tmp 1), type := 48, pos := "law.go:265", after := #[], guard := none }) (v := ?_) rfl (by kernel_rfl) (by kernel_rfl) (by kernel_rfl) (fun _ _ _ h => h) (Or.inl ⟨by rfl, ?_⟩) (by assumption) ?_
            rotate_left
            · (intro w hSw; (try dsimp only at hSw); go_simp); (try with_reducible rfl)
            try simp only [Act.put, List.setIfInBounds_toArray, List.set_cons_zero, List.set_cons_succ]
            refine wpAnyH_take (i := 4) (oi := { dst := some 51, op := Op.fieldAddr 50 (Operand.tmp 5) 0, type := 0, pos := "law.go:265", after := #[], guard := none }) (v := ?_) rfl (by kernel_rfl) (by kernel_rfl) (by kernel_rfl) (fun _ _ _ h => h) (Or.inl ⟨by rfl, ?_⟩) (by assumption) ?_
            rotate_left
            · (intro w hSw; (try dsimp only at hSw); go_simp); (try with_reducible rfl)
            try simp only [Act.put, List.setIfInBounds_toArray, List.set_cons_zero, List.set_cons_succ]
            refine wpAnyH_take (i := 5) (oi := { dst := some 52, op := Op.load 3 (Operand.tmp 51), type := 3, pos := "law.go:265", after := #[{ on := 4, ground := Ground.data }], guard := none }) (v := ?_) rfl (by kernel_rfl) (by kernel_rfl) (by kernel_rfl) (fun _ _ _ h => h) (Or.inl ⟨by rfl, ?_⟩) (by assumption) ?_
            rotate_left
            · (intro w hSw; (try dsimp only at hSw); go_simp); (try with_reducible rfl)
            try simp only [Act.put, List.setIfInBounds_toArray, List.set_cons_zero, List.set_cons_succ]
            refine wpAnyH_ready (rs := [1]) (by kernel_rfl) (by simp) ?_
            refine (AllReadyH.cons (o := { dst := some 48, op := Op.call { callee := Callee.value (Operand.func 24), args := #[Operand.tmp 47], argTypes := #[47] }, type := 57, pos := "law.go:265", after := #[{ on := 0, ground := Ground.data }], guard := none }) rfl (fun K hK => ?_) AllReadyH.nil)
            go_simp
            refine (TG.out wzd (HVa.out.carry hbzd)).mono ?_
            rintro e wz1 ⟨⟨u1, rfl, hu1⟩, hl2⟩
            have hl := hl2
            clear hl2
            (try go_wp2_with fail)
            have hbz1 := bthen hbzd hl
            clear hl
            refine hK.out _ _ ⟨cellb A0.out hbz1, cellb Q0.out hbz1⟩ (fun hHeld1 => ?_)
            clear hK K hHeld0
            try simp only [Act.put, List.setIfInBounds_toArray, List.set_cons_zero, List.set_cons_succ]
            refine wpAnyH_ready (rs := [3]) (by kernel_rfl) (by simp) ?_
            refine (AllReadyH.cons (o := { dst := some 50, op := Op.call { callee := Callee.value (Operand.func 25), args := #[Operand.tmp 49], argTypes := #[48] }, type := 48, pos := "law.go:265", after := #[{ on := 2, ground := Ground.data }, { on := 1, ground := Ground.chain }], guard := none }) rfl (fun K hK => ?_) AllReadyH.nil)
            go_simp
            refine (TP.out wz1 (HUa.out.carry hbz1)).mono ?_
            rintro e wz3 ⟨⟨u2, rfl, hu2⟩, hl2⟩
            have hl := hl2
            clear hl2
            (try go_wp2_with fail)
            have hbz3 := bthen hbz1 hl
            have hu1 := hu1.carry hl
            clear hl
            refine hK.out _ _ ⟨cellb A0.out hbz3, cellb Q0.out hbz3⟩ (fun hHeld2 => ?_)
            clear hK K hHeld1
            try simp only [Act.put, List.setIfInBounds_toArray, List.set_cons_zero, List.set_cons_succ]
            refine wpAnyH_ready (rs := [6]) (by kernel_rfl) (by simp) ?_
            refine (AllReadyH.cons (o := { dst := some 53, op := Op.call { callee := Callee.value (Operand.func 26), args := #[Operand.tmp 48, Operand.tmp 50, Operand.tmp 52], argTypes := #[57, 48, 3] }, type := 60, pos := "law.go:265", after := #[{ on := 1, ground := Ground.data }, { on := 3, ground := Ground.data }, { on := 5, ground := Ground.data }, { on := 3, ground := Ground.chain }], guard := none }) rfl (fun K hK => ?_) AllReadyH.nil)
            go_simp
            refine (TE.out u1 u2 wz3 hu1 hu2).mono ?_
            rintro e wz6 ⟨rfl, hl⟩
            (try go_wp2_with fail)
            have hbz6 := bthen hbz3 hl
            have hu1 := hu1.carry hl
            have hu2 := hu2.carry hl
            clear hl
            refine hK.out _ _ ⟨cellb A0.out hbz6, cellb Q0.out hbz6⟩ (fun hHeld3 => ?_)
            clear hK K hHeld2
            try simp only [Act.put, List.setIfInBounds_toArray, List.set_cons_zero, List.set_cons_succ]
            refine wpAnyH_take (i := 7) (oi := { dst := some 46, op := Op.move (Operand.tmp 53), type := 60, pos := "law.go:265", after := #[{ on := 6, ground := Ground.data }], guard := none }) (v := ?_) rfl (by kernel_rfl) (by kernel_rfl) (by kernel_rfl) (fun _ _ _ h => h) (Or.inl ⟨by rfl, ?_⟩) (by assumption) ?_
            rotate_left
            · (intro w hSw; (try dsimp only at hSw); go_simp); (try with_reducible rfl)
            try simp only [Act.put, List.setIfInBounds_toArray, List.set_cons_zero, List.set_cons_succ]
            refine wpAnyH_take (i := 8) (oi := { dst := some 54, op := Op.extract (Operand.tmp 46) 0, type := 3, pos := "law.go:265", after := #[{ on := 7, ground := Ground.data }], guard := none }) (v := ?_) rfl (by kernel_rfl) (by kernel_rfl) (by kernel_rfl) (fun _ _ _ h => h) (Or.inl ⟨by rfl, ?_⟩) (by assumption) ?_
            rotate_left
            · (intro w hSw; (try dsimp only at hSw); go_simp); (try with_reducible rfl)
            try simp only [Act.put, List.setIfInBounds_toArray, List.set_cons_zero, List.set_cons_succ]
            refine wpAnyH_take (i := 9) (oi := { dst := some 55, op := Op.extract (Operand.tmp 46) 1, type := 28, pos := "law.go:265", after := #[{ on := 7, ground := Ground.data }, { on := 10, ground := Ground.gcOnly Departure.lateStores }], guard := none }) (v := ?_) rfl (by kernel_rfl) (by kernel_rfl) (by kernel_rfl) (fun _ _ _ h => h) (Or.inl ⟨by rfl, ?_⟩) (by assumption) ?_
            rotate_left
            · (intro w hSw; (try dsimp only at hSw); go_simp); (try with_reducible rfl)
            try simp only [Act.put, List.setIfInBounds_toArray, List.set_cons_zero, List.set_cons_succ]
            refine wpAnyH_take (i := 10) (oi := { dst := some 9, op := Op.assign (Operand.tmp 54), type := 3, pos := "law.go:265", after := #[{ on := 8, ground := Ground.data }, { on := 6, ground := Ground.chain }, { on := 0, ground := Ground.phase }, { on := 1, ground := Ground.phase }, { on := 2, ground := Ground.phase }, { on := 3, ground := Ground.phase }, { on := 4, ground := Ground.phase }, { on := 5, ground := Ground.phase }, { on := 6, ground := Ground.phase }, { on := 7, ground := Ground.phase }, { on := 8, ground := Ground.phase }, { on := 9, ground := Ground.textOnly Departure.lateStores }], guard := none }) (v := ?_) rfl (by kernel_rfl) (by kernel_rfl) (by kernel_rfl) (fun _ _ _ h => h) (Or.inl ⟨by rfl, ?_⟩) (by assumption) ?_
            rotate_left
            · (intro w hSw; (try dsimp only at hSw); go_simp); (try with_reducible rfl)
            try simp only [Act.put, List.setIfInBounds_toArray, List.set_cons_zero, List.set_cons_succ]
            refine wpAnyH_take (i := 11) (oi := { dst := some 10, op := Op.assign (Operand.tmp 55), type := 28, pos := "law.go:265", after := #[{ on := 9, ground := Ground.data }, { on := 10, ground := Ground.chain }, { on := 0, ground := Ground.phase }, { on := 1, ground := Ground.phase }, { on := 2, ground := Ground.phase }, { on := 3, ground := Ground.phase }, { on := 4, ground := Ground.phase }, { on := 5, ground := Ground.phase }, { on := 6, ground := Ground.phase }, { on := 7, ground := Ground.phase }, { on := 8, ground := Ground.phase }, { on := 9, ground := Ground.phase }, { on := 10, ground := Ground.phase }], guard := none }) (v := ?_) rfl (by kernel_rfl) (by kernel_rfl) (by kernel_rfl) (fun _ _ _ h => h) (Or.inl ⟨by rfl, ?_⟩) (by assumption) ?_
            rotate_left
            · (intro w hSw; (try dsimp only at hSw); go_simp); (try with_reducible rfl)
            try simp only [Act.put, List.setIfInBounds_toArray, List.set_cons_zero, List.set_cons_succ]
            refine wpAnyH_done (by kernel_rfl) ?_ _
            clear hHeld3
            go_wp2_with fail
            go_meet
            exact ⟨rfl, rfl, hbz6⟩
          case rest =>
            clear hA
            obtain ⟨rfl, rfl, hA⟩ := hcut
            go_upto_region 5 with fail
            go_cut [11] from 56 to 65 (fun u11 wn => u11 = .int .i64 ce ∧ Below Wa.heap.size Wa wn)
            case first =>
              refine wp_region_held_drew (S := (fun W => W.cell? ⟨G0, 0, none⟩ = some (.slice a ls.length cp) ∧ W.cell? ⟨G1, 0, none⟩ = some (.int .i64 h) ∧ W.cell? ⟨G1, 1, none⟩ = some (.int .i64 ed))) (by kernel_rfl) ⟨cellb A0.out hA.drew, cellb Q0.out hA.drew, cellb Q1.out hA.drew⟩ (fun hHeld0 => ?_)
              obtain ⟨wzd, hwz⟩ : ∃ v, v = wc.drew := ⟨_, rfl⟩
              rw [← hwz] at hHeld0 ⊢
              have hbzd : Below Wa.heap.size Wa wzd := by rw [hwz]; exact hA.drew
              have hlzd : Below wc.heap.size wc wzd := by rw [hwz]; exact (Below.refl _ _).drew
              clear hwz hlzd
              refine wpAnyH_take (i := 0) (oi := { dst := some 56, op := Op.load 47 (Operand.tmp 3), type := 47, pos := "law.go:266", after := #[], guard := none }) (v := ?_) rfl (by kernel_rfl) (by kernel_rfl) (by kernel_rfl) (fun _ _ _ h => h) (Or.inl ⟨by rfl, ?_⟩) (by assumption) ?_
              rotate_left
              · (intro w hSw; (try dsimp only at hSw); go_simp); (try with_reducible rfl)
              try simp only [Act.put, List.setIfInBounds_toArray, List.set_cons_zero, List.set_cons_succ]
              refine wpAnyH_take (i := 2) (oi := { dst := some 58, op := Op.move (Operand.tmp 1), type := 48, pos := "law.go:266", after := #[], guard := none }) (v := ?_) rfl (by kernel_rfl) (by kernel_rfl) (by kernel_rfl) (fun _ _ _ h => h) (Or.inl ⟨by rfl, ?_⟩) (by assumption) ?_
              rotate_left
              · (intro w hSw; (try dsimp only at hSw); go_simp); (try with_reducible rfl)
              try simp only [Act.put, List.setIfInBounds_toArray, List.set_cons_zero, List.set_cons_succ]
              refine wpAnyH_take (i := 4) (oi := { dst := some 60, op := Op.fieldAddr 50 (Operand.tmp 5) 0, type := 0, pos := "law.go:266", after := #[], guard := none }) (v := ?_) rfl (by kernel_rfl) (by kernel_rfl) (by kernel_rfl) (fun _ _ _ h => h) (Or.inl ⟨by rfl, ?_⟩) (by assumption) ?_
              rotate_left
              · (intro w hSw; (try dsimp only at hSw); go_simp); (try with_reducible rfl)
              try simp only [Act.put, List.setIfInBounds_toArray, List.set_cons_zero, List.set_cons_succ]
              refine wpAnyH_take (i := 5) (oi := { dst := some 61, op := Op.load 3 (Operand.tmp 60), type := 3, pos := "law.go:266", after := #[{ on := 4, ground := Ground.data }], guard := none }) (v := ?_) rfl (by kernel_rfl) (by kernel_rfl) (by kernel_rfl) (fun _ _ _ h => h) (Or.inl ⟨by rfl, ?_⟩) (by assumption) ?_
              rotate_left
              · (intro w hSw; (try dsimp only at hSw); go_simp); (try with_reducible rfl)
              try simp only [Act.put, List.setIfInBounds_toArray, List.set_cons_zero, List.set_cons_succ]
              refine wpAnyH_take (i := 6) (oi := { dst := some 62, op := Op.fieldAddr 50 (Operand.tmp 5) 1, type := 0, pos := "law.go:266", after := #[], guard := none }) (v := ?_) rfl (by kernel_rfl) (by kernel_rfl) (by kernel_rfl) (fun _ _ _ h => h) (Or.inl ⟨by rfl, ?_⟩) (by assumption) ?_
              rotate_left
              · (intro w hSw; (try dsimp only at hSw); go_simp); (try with_reducible rfl)
              try simp only [Act.put, List.setIfInBounds_toArray, List.set_cons_zero, List.set_cons_succ]
              refine wpAnyH_take (i := 7) (oi := { dst := some 63, op := Op.load 3 (Operand.tmp 62), type := 3, pos := "law.go:266", after := #[{ on := 6, ground := Ground.data }], guard := none }) (v := ?_) rfl (by kernel_rfl) (by kernel_rfl) (by kernel_rfl) (fun _ _ _ h => h) (Or.inl ⟨by rfl, ?_⟩) (by assumption) ?_
              rotate_left
              · (intro w hSw; (try dsimp only at hSw); go_simp); (try with_reducible rfl)
              try simp only [Act.put, List.setIfInBounds_toArray, List.set_cons_zero, List.set_cons_succ]
              refine wpAnyH_ready (rs := [1]) (by kernel_rfl) (by simp) ?_
              refine (AllReadyH.cons (o := { dst := some 57, op := Op.call { callee := Callee.value (Operand.func 24), args := #[Operand.tmp 56], argTypes := #[47] }, type := 57, pos := "law.go:266", after := #[{ on := 0, ground := Ground.data }], guard := none }) rfl (fun K hK => ?_) AllReadyH.nil)
              go_simp
              refine (TG.out wzd (HVa.out.carry hbzd)).mono ?_
              rintro e wz1 ⟨⟨u1, rfl, hu1⟩, hl2⟩
              have hl := hl2
              clear hl2
              (try go_wp2_with fail)
              have hbz1 := bthen hbzd hl
              clear hl
              refine hK.out _ _ ⟨cellb A0.out hbz1, cellb Q0.out hbz1, cellb Q1.out hbz1⟩ (fun hHeld1 => ?_)
              clear hK K hHeld0
              try simp only [Act.put, List.setIfInBounds_toArray, List.set_cons_zero, List.set_cons_succ]
              refine wpAnyH_ready (rs := [3]) (by kernel_rfl) (by simp) ?_
              refine (AllReadyH.cons (o := { dst := some 59, op := Op.call { callee := Callee.value (Operand.func 25), args := #[Operand.tmp 58], argTypes := #[48] }, type := 48, pos := "law.go:266", after := #[{ on := 2, ground := Ground.data }, { on := 1, ground := Ground.chain }], guard := none }) rfl (fun K hK => ?_) AllReadyH.nil)
              go_simp
              refine (TP.out wz1 (HUa.out.carry hbz1)).mono ?_
              rintro e wz3 ⟨⟨u2, rfl, hu2⟩, hl2⟩
              have hl := hl2
              clear hl2
              (try go_wp2_with fail)
              have hbz3 := bthen hbz1 hl
              have hu1 := hu1.carry hl
              clear hl
              refine hK.out _ _ ⟨cellb A0.out hbz3, cellb Q0.out hbz3, cellb Q1.out hbz3⟩ (fun hHeld2 => ?_)
              clear hK K hHeld1
              try simp only [Act.put, List.setIfInBounds_toArray, List.set_cons_zero, List.set_cons_succ]
              refine wpAnyH_ready (rs := [8]) (by kernel_rfl) (by simp) ?_
              refine (AllReadyH.cons (o := { dst := some 64, op := Op.call { callee := Callee.value (Operand.func 27), args := #[Operand.tmp 57, Operand.tmp 59, Operand.tmp 61, Operand.tmp 63], argTypes := #[57, 48, 3, 3] }, type := 28, pos := "law.go:266", after := #[{ on := 1, ground := Ground.data }, { on := 3, ground := Ground.data }, { on := 5, ground := Ground.data }, { on := 7, ground := Ground.data }, { on := 3, ground := Ground.chain }], guard := none }) rfl (fun K hK => ?_) AllReadyH.nil)
              go_simp
              refine (TC.out u1 u2 wz3 hu1 hu2).mono ?_
              rintro e wz8 ⟨rfl, hl⟩
              (try go_wp2_with fail)
              have hbz8 := bthen hbz3 hl
              have hu1 := hu1.carry hl
              have hu2 := hu2.carry hl
              clear hl
              refine hK.out _ _ ⟨cellb A0.out hbz8, cellb Q0.out hbz8, cellb Q1.out hbz8⟩ (fun hHeld3 => ?_)
              clear hK K hHeld2
              try simp only [Act.put, List.setIfInBounds_toArray, List.set_cons_zero, List.set_cons_succ]
              refine wpAnyH_take (i := 9) (oi := { dst := some 11, op := Op.assign (Operand.tmp 64), type := 28, pos := "law.go:266", after := #[{ on := 8, ground := Ground.data }, { on := 8, ground := Ground.chain }, { on := 0, ground := Ground.phase }, { on := 1, ground := Ground.phase }, { on := 2, ground := Ground.phase }, { on := 3, ground := Ground.phase }, { on := 4, ground := Ground.phase }, { on := 5, ground := Ground.phase }, { on := 6, ground := Ground.phase }, { on := 7, ground := Ground.phase }, { on := 8, ground := Ground.phase }], guard := none }) (v := ?_) rfl (by kernel_rfl) (by kernel_rfl) (by kernel_rfl) (fun _ _ _ h => h) (Or.inl ⟨by rfl, ?_⟩) (by assumption) ?_
              rotate_left
              · (intro w hSw; (try dsimp only at hSw); go_simp); (try with_reducible rfl)
              try simp only [Act.put, List.setIfInBounds_toArray, List.set_cons_zero, List.set_cons_succ]
              refine wpAnyH_done (by kernel_rfl) ?_ _
              clear hHeld3
              go_wp2_with fail
              go_meet
              exact ⟨rfl, hbz8⟩
            case rest =>
              clear hA
              obtain ⟨rfl, hA⟩ := hcut
              go_upto_region 6 with fail
              go_cut [12, 13] from 65 to 78 (fun u12 u13 wn => u12 = .int .i64 av1 ∧ u13 = .int .i64 av2 ∧ Below Wa.heap.size Wa wn)
              case first =>
                refine wp_region_held_drew (S := (fun W => W.cell? ⟨G0, 0, none⟩ = some (.slice a ls.length cp) ∧ W.cell? ⟨G1, 2, none⟩ = some (.int .i64 b) ∧ W.cell? ⟨G1, 3, none⟩ = some (.slice a3 os.length cp3))) (by kernel_rfl) ⟨cellb A0.out hA.drew, cellb Q2.out hA.drew, cellb Q3.out hA.drew⟩ (fun hHeld0 => ?_)
                obtain ⟨wzd, hwz⟩ : ∃ v, v = wc.drew := ⟨_, rfl⟩
                rw [← hwz] at hHeld0 ⊢
                have hbzd : Below Wa.heap.size Wa wzd := by rw [hwz]; exact hA.drew
                have hlzd : Below wc.heap.size wc wzd := by rw [hwz]; exact (Below.refl _ _).drew
                clear hwz hlzd
                refine wpAnyH_take (i := 0) (oi := { dst := some 66, op := Op.load 47 (Operand.tmp 3), type := 47, pos := "law.go:267", after := #[], guard := none }) (v := ?_) rfl (by kernel_rfl) (by kernel_rfl) (by kernel_rfl) (fun _ _ _ h => h) (Or.inl ⟨by rfl, ?_⟩) (by assumption) ?_
                rotate_left
                · (intro w hSw; (try dsimp only at hSw); go_simp); (try with_reducible rfl)
                try simp only [Act.put, List.setIfInBounds_toArray, List.set_cons_zero, List.set_cons_succ]
                refine wpAnyH_take (i := 2) (oi := { dst := some 68, op := Op.fieldAddr 50 (Operand.tmp 5) 2, type := 0, pos := "law.go:267", after := #[], guard := none }) (v := ?_) rfl (by kernel_rfl) (by kernel_rfl) (by kernel_rfl) (fun _ _ _ h => h) (Or.inl ⟨by rfl, ?_⟩) (by assumption) ?_
                rotate_left
                · (intro w hSw; (try dsimp only at hSw); go_simp); (try with_reducible rfl)
                try simp only [Act.put, List.setIfInBounds_toArray, List.set_cons_zero, List.set_cons_succ]
                refine wpAnyH_take (i := 3) (oi := { dst := some 69, op := Op.load 3 (Operand.tmp 68), type := 3, pos := "law.go:267", after := #[{ on := 2, ground := Ground.data }], guard := none }) (v := ?_) rfl (by kernel_rfl) (by kernel_rfl) (by kernel_rfl) (fun _ _ _ h => h) (Or.inl ⟨by rfl, ?_⟩) (by assumption) ?_
                rotate_left
                · (intro w hSw; (try dsimp only at hSw); go_simp); (try with_reducible rfl)
                try simp only [Act.put, List.setIfInBounds_toArray, List.set_cons_zero, List.set_cons_succ]
                refine wpAnyH_take (i := 4) (oi := { dst := some 70, op := Op.move (Operand.tmp 1), type := 48, pos := "law.go:267", after := #[], guard := none }) (v := ?_) rfl (by kernel_rfl) (by kernel_rfl) (by kernel_rfl) (fun _ _ _ h => h) (Or.inl ⟨by rfl, ?_⟩) (by assumption) ?_
                rotate_left
                · (intro w hSw; (try dsimp only at hSw); go_simp); (try with_reducible rfl)
                try simp only [Act.put, List.setIfInBounds_toArray, List.set_cons_zero, List.set_cons_succ]
                refine wpAnyH_take (i := 6) (oi := { dst := some 72, op := Op.fieldAddr 50 (Operand.tmp 5) 3, type := 0, pos := "law.go:267", after := #[], guard := none }) (v := ?_) rfl (by kernel_rfl) (by kernel_rfl) (by kernel_rfl) (fun _ _ _ h => h) (Or.inl ⟨by rfl, ?_⟩) (by assumption) ?_
                rotate_left
                · (intro w hSw; (try dsimp only at hSw); go_simp); (try with_reducible rfl)
                try simp only [Act.put, List.setIfInBounds_toArray, List.set_cons_zero, List.set_cons_succ]
                refine wpAnyH_take (i := 7) (oi := { dst := some 73, op := Op.load 27 (Operand.tmp 72), type := 27, pos := "law.go:267", after := #[{ on := 6, ground := Ground.data }], guard := none }) (v := ?_) rfl (by kernel_rfl) (by kernel_rfl) (by kernel_rfl) (fun _ _ _ h => h) (Or.inl ⟨by rfl, ?_⟩) (by assumption) ?_
                rotate_left
                · (intro w hSw; (try dsimp only at hSw); go_simp); (try with_reducible rfl)
                try simp only [Act.put, List.setIfInBounds_toArray, List.set_cons_zero, List.set_cons_succ]
                refine wpAnyH_ready (rs := [1]) (by kernel_rfl) (by simp) ?_
                refine (AllReadyH.cons (o := { dst := some 67, op := Op.call { callee := Callee.value (Operand.func 24), args := #[Operand.tmp 66], argTypes := #[47] }, type := 57, pos := "law.go:267", after := #[{ on := 0, ground := Ground.data }], guard := none }) rfl (fun K hK => ?_) AllReadyH.nil)
                go_simp
                refine (TG.out wzd (HVa.out.carry hbzd)).mono ?_
                rintro e wz1 ⟨⟨u1, rfl, hu1⟩, hl2⟩
                have hl := hl2
                clear hl2
                (try go_wp2_with fail)
                have hbz1 := bthen hbzd hl
                clear hl
                refine hK.out _ _ ⟨cellb A0.out hbz1, cellb Q2.out hbz1, cellb Q3.out hbz1⟩ (fun hHeld1 => ?_)
                clear hK K hHeld0
                try simp only [Act.put, List.setIfInBounds_toArray, List.set_cons_zero, List.set_cons_succ]
                refine wpAnyH_ready (rs := [5]) (by kernel_rfl) (by simp) ?_
                refine (AllReadyH.cons (o := { dst := some 71, op := Op.call { callee := Callee.value (Operand.func 25), args := #[Operand.tmp 70], argTypes := #[48] }, type := 48, pos := "law.go:267", after := #[{ on := 4, ground := Ground.data }, { on := 1, ground := Ground.chain }], guard := none }) rfl (fun K hK => ?_) AllReadyH.nil)
                go_simp
                refine (TP.out wz1 (HUa.out.carry hbz1)).mono ?_
                rintro e wz5 ⟨⟨u2, rfl, hu2⟩, hl2⟩
                have hl := hl2
                clear hl2
                (try go_wp2_with fail)
                have hbz5 := bthen hbz1 hl
                have hu1 := hu1.carry hl
                clear hl
                refine hK.out _ _ ⟨cellb A0.out hbz5, cellb Q2.out hbz5, cellb Q3.out hbz5⟩ (fun hHeld2 => ?_)
                clear hK K hHeld1
                try simp only [Act.put, List.setIfInBounds_toArray, List.set_cons_zero, List.set_cons_succ]
                refine wpAnyH_ready (rs := [8]) (by kernel_rfl) (by simp) ?_
                refine (AllReadyH.cons (o := { dst := some 74, op := Op.call { callee := Callee.value (Operand.func 29), args := #[Operand.tmp 73], argTypes := #[27] }, type := 27, pos := "law.go:267", after := #[{ on := 7, ground := Ground.data }, { on := 5, ground := Ground.chain }], guard := none }) rfl (fun K hK => ?_) AllReadyH.nil)
                go_simp
                refine (TN.out wz5 (HZa.out.carry hbz5)).mono ?_
                rintro e wz8 ⟨⟨u3, rfl, hu3⟩, hl2⟩
                have hl := hl2
                clear hl2
                (try go_wp2_with fail)
                have hbz8 := bthen hbz5 hl
                have hu1 := hu1.carry hl
                have hu2 := hu2.carry hl
                clear hl
                refine hK.out _ _ ⟨cellb A0.out hbz8, cellb Q2.out hbz8, cellb Q3.out hbz8⟩ (fun hHeld3 => ?_)
                clear hK K hHeld2
                try simp only [Act.put, List.setIfInBounds_toArray, List.set_cons_zero, List.set_cons_succ]
                refine wpAnyH_ready (rs := [9]) (by kernel_rfl) (by simp) ?_
                refine (AllReadyH.cons (o := { dst := some 75, op := Op.call { callee := Callee.value (Operand.func 28), args := #[Operand.tmp 67, Operand.tmp 69, Operand.tmp 71, Operand.tmp 74], argTypes := #[57, 3, 48, 27] }, type := 60, pos := "law.go:267", after := #[{ on := 1, ground := Ground.data }, { on := 3, ground := Ground.data }, { on := 5, ground := Ground.data }, { on := 8, ground := Ground.data }, { on := 8, ground := Ground.chain }], guard := none }) rfl (fun K hK => ?_) AllReadyH.nil)
                go_simp
                refine (TA.out u1 u2 u3 wz8 hu1 hu2 hu3).mono ?_
                rintro e wz9 ⟨rfl, hl⟩
                (try go_wp2_with fail)
                have hbz9 := bthen hbz8 hl
                have hu1 := hu1.carry hl
                have hu2 := hu2.carry hl
                have hu3 := hu3.carry hl
                clear hl
                refine hK.out _ _ ⟨cellb A0.out hbz9, cellb Q2.out hbz9, cellb Q3.out hbz9⟩ (fun hHeld4 => ?_)
                clear hK K hHeld3
                try simp only [Act.put, List.setIfInBounds_toArray, List.set_cons_zero, List.set_cons_succ]
                refine wpAnyH_take (i := 10) (oi := { dst := some 65, op := Op.move (Operand.tmp 75), type := 60, pos := "law.go:267", after := #[{ on := 9, ground := Ground.data }], guard := none }) (v := ?_) rfl (by kernel_rfl) (by kernel_rfl) (by kernel_rfl) (fun _ _ _ h => h) (Or.inl ⟨by rfl, ?_⟩) (by assumption) ?_
                rotate_left
                · (intro w hSw; (try dsimp only at hSw); go_simp); (try with_reducible rfl)
                try simp only [Act.put, List.setIfInBounds_toArray, List.set_cons_zero, List.set_cons_succ]
                refine wpAnyH_take (i := 11) (oi := { dst := some 76, op := Op.extract (Operand.tmp 65) 0, type := 3, pos := "law.go:267", after := #[{ on := 10, ground := Ground.data }], guard := none }) (v := ?_) rfl (by kernel_rfl) (by kernel_rfl) (by kernel_rfl) (fun _ _ _ h => h) (Or.inl ⟨by rfl, ?_⟩) (by assumption) ?_
                rotate_left
                · (intro w hSw; (try dsimp only at hSw); go_simp); (try with_reducible rfl)
                try simp only [Act.put, List.setIfInBounds_toArray, List.set_cons_zero, List.set_cons_succ]
                refine wpAnyH_take (i := 12) (oi := { dst := some 77, op := Op.extract (Operand.tmp 65) 1, type := 28, pos := "law.go:267", after := #[{ on := 10, ground := Ground.data }, { on := 13, ground := Ground.gcOnly Departure.lateStores }], guard := none }) (v := ?_) rfl (by kernel_rfl) (by kernel_rfl) (by kernel_rfl) (fun _ _ _ h => h) (Or.inl ⟨by rfl, ?_⟩) (by assumption) ?_
                rotate_left
                · (intro w hSw; (try dsimp only at hSw); go_simp); (try with_reducible rfl)
                try simp only [Act.put, List.setIfInBounds_toArray, List.set_cons_zero, List.set_cons_succ]
                refine wpAnyH_take (i := 13) (oi := { dst := some 12, op := Op.assign (Operand.tmp 76), type := 3, pos := "law.go:267", after := #[{ on := 11, ground := Ground.data }, { on := 9, ground := Ground.chain }, { on := 0, ground := Ground.phase }, { on := 1, ground := Ground.phase }, { on := 2, ground := Ground.phase }, { on := 3, ground := Ground.phase }, { on := 4, ground := Ground.phase }, { on := 5, ground := Ground.phase }, { on := 6, ground := Ground.phase }, { on := 7, ground := Ground.phase }, { on := 8, ground := Ground.phase }, { on := 9, ground := Ground.phase }, { on := 10, ground := Ground.phase }, { on := 11, ground := Ground.phase }, { on := 12, ground := Ground.textOnly Departure.lateStores }], guard := none }) (v := ?_) rfl (by kernel_rfl) (by kernel_rfl) (by kernel_rfl) (fun _ _ _ h => h) (Or.inl ⟨by rfl, ?_⟩) (by assumption) ?_
                rotate_left
                · (intro w hSw; (try dsimp only at hSw); go_simp); (try with_reducible rfl)
                try simp only [Act.put, List.setIfInBounds_toArray, List.set_cons_zero, List.set_cons_succ]
                refine wpAnyH_take (i := 14) (oi := { dst := some 13, op := Op.assign (Operand.tmp 77), type := 28, pos := "law.go:267", after := #[{ on := 12, ground := Ground.data }, { on := 13, ground := Ground.chain }, { on := 0, ground := Ground.phase }, { on := 1, ground := Ground.phase }, { on := 2, ground := Ground.phase }, { on := 3, ground := Ground.phase }, { on := 4, ground := Ground.phase }, { on := 5, ground := Ground.phase }, { on := 6, ground := Ground.phase }, { on := 7, ground := Ground.phase }, { on := 8, ground := Ground.phase }, { on := 9, ground := Ground.phase }, { on := 10, ground := Ground.phase }, { on := 11, ground := Ground.phase }, { on := 12, ground := Ground.phase }, { on := 13, ground := Ground.phase }], guard := none }) (v := ?_) rfl (by kernel_rfl) (by kernel_rfl) (by kernel_rfl) (fun _ _ _ h => h) (Or.inl ⟨by rfl, ?_⟩) (by assumption) ?_
                rotate_left
                · (intro w hSw; (try dsimp only at hSw); go_simp); (try with_reducible rfl)
                try simp only [Act.put, List.setIfInBounds_toArray, List.set_cons_zero, List.set_cons_succ]
                refine wpAnyH_done (by kernel_rfl) ?_ _
                clear hHeld4
                go_wp2_with fail
                go_meet
                exact ⟨rfl, rfl, hbz9⟩
              case rest =>
                clear hA
                obtain ⟨rfl, rfl, hA⟩ := hcut
                clear TG TP TN TM TE TC TA
                go_upto_region 7 with fail
                go_cut [14] from 78 to 87 (fun u14 wn => u14 = .int .i64 bad ∧ Below Wa.heap.size Wa wn)
                case first =>
                  have a0 := cellb A0.out hA
                  have q0 := cellb Q0.out hA
                  refine wp_region_E 99 (by kernel_rfl) ?_
                  obtain ⟨wz, hwz⟩ : ∃ v, v = wc.drew := ⟨_, rfl⟩
                  rw [← hwz]
                  have hlz : Below wc.heap.size wc wz := by rw [hwz]; exact (Below.refl _ _).drew
                  have hbz := bthen hA hlz
                  have a0 := cellb a0 hlz
                  have q0 := cellb q0 hlz
                  clear hwz hlz
                  refine wpAnyE_take (i := 0) (oi := { dst := some 78, op := Op.load 47 (Operand.tmp 3), type := 47, pos := "law.go:268", after := #[], guard := none }) (v := ?_) rfl (by kernel_rfl) (by kernel_rfl) (by kernel_rfl) (by kernel_rfl) (fun _ _ _ h => h) (Or.inl ⟨by rfl, ?_⟩) ?_
                  rotate_left
                  · (intro w hE; have a0 := cellb a0 hE; have q0 := cellb q0 hE; (try dsimp only); go_simp); (try with_reducible rfl)
                  try simp only [Act.put, List.setIfInBounds_toArray, List.set_cons_zero, List.set_cons_succ]
                  refine wpAnyE_take (i := 2) (oi := { dst := some 80, op := Op.move (Operand.tmp 1), type := 48, pos := "law.go:268", after := #[], guard := none }) (v := ?_) rfl (by kernel_rfl) (by kernel_rfl) (by kernel_rfl) (by kernel_rfl) (fun _ _ _ h => h) (Or.inl ⟨by rfl, ?_⟩) ?_
                  rotate_left
                  · (intro w hE; have a0 := cellb a0 hE; have q0 := cellb q0 hE; (try dsimp only); go_simp); (try with_reducible rfl)
                  try simp only [Act.put, List.setIfInBounds_toArray, List.set_cons_zero, List.set_cons_succ]
                  refine wpAnyE_take (i := 4) (oi := { dst := some 82, op := Op.fieldAddr 50 (Operand.tmp 5) 0, type := 0, pos := "law.go:268", after := #[], guard := none }) (v := ?_) rfl (by kernel_rfl) (by kernel_rfl) (by kernel_rfl) (by kernel_rfl) (fun _ _ _ h => h) (Or.inl ⟨by rfl, ?_⟩) ?_
                  rotate_left
                  · (intro w hE; have a0 := cellb a0 hE; have q0 := cellb q0 hE; (try dsimp only); go_simp); (try with_reducible rfl)
                  try simp only [Act.put, List.setIfInBounds_toArray, List.set_cons_zero, List.set_cons_succ]
                  refine wpAnyE_take (i := 5) (oi := { dst := some 83, op := Op.load 3 (Operand.tmp 82), type := 3, pos := "law.go:268", after := #[{ on := 4, ground := Ground.data }], guard := none }) (v := ?_) rfl (by kernel_rfl) (by kernel_rfl) (by kernel_rfl) (by kernel_rfl) (fun _ _ _ h => h) (Or.inl ⟨by rfl, ?_⟩) ?_
                  rotate_left
                  · (intro w hE; have a0 := cellb a0 hE; have q0 := cellb q0 hE; (try dsimp only); go_simp); (try with_reducible rfl)
                  try simp only [Act.put, List.setIfInBounds_toArray, List.set_cons_zero, List.set_cons_succ]
                  refine wpAnyE_call (i := 1) (oi := { dst := some 79, op := Op.call { callee := Callee.value (Operand.func 30), args := #[Operand.tmp 78], argTypes := #[47] }, type := 3, pos := "law.go:268", after := #[{ on := 0, ground := Ground.data }], guard := none }) (fun w hE => R0.out w (HVa.out.carry (bthen hbz hE))) rfl (by kernel_rfl) (by kernel_rfl) (by kernel_rfl) (by kernel_rfl) (fun _ _ _ h => h) (by rfl) (fun w hE => by (try dsimp only); go_simp) ?_
                  try simp only [Act.put, List.setIfInBounds_toArray, List.set_cons_zero, List.set_cons_succ]
                  refine wpAnyE_call (i := 3) (oi := { dst := some 81, op := Op.call { callee := Callee.value (Operand.func 31), args := #[Operand.tmp 80], argTypes := #[48] }, type := 3, pos := "law.go:268", after := #[{ on := 2, ground := Ground.data }, { on := 1, ground := Ground.chain }], guard := none }) (fun w hE => R1.out w (HUa.out.carry (bthen hbz hE))) rfl (by kernel_rfl) (by kernel_rfl) (by kernel_rfl) (by kernel_rfl) (fun _ _ _ h => h) (by rfl) (fun w hE => by (try dsimp only); go_simp) ?_
                  try simp only [Act.put, List.setIfInBounds_toArray, List.set_cons_zero, List.set_cons_succ]
                  refine wpAnyE_call (i := 6) (oi := { dst := some 84, op := Op.call { callee := Callee.value (Operand.func 32), args := #[Operand.tmp 83], argTypes := #[3] }, type := 3, pos := "law.go:268", after := #[{ on := 5, ground := Ground.data }, { on := 3, ground := Ground.chain }], guard := none }) (fun w hE => ofPure (R2.out w)) rfl (by kernel_rfl) (by kernel_rfl) (by kernel_rfl) (by kernel_rfl) (fun _ _ _ h => h) (by rfl) (fun w hE => by (try dsimp only); go_simp) ?_
                  try simp only [Act.put, List.setIfInBounds_toArray, List.set_cons_zero, List.set_cons_succ]
                  refine wpAnyE_one (i := 7) (o := { dst := some 85, op := Op.buildSlice 27 3 #[(0, Operand.tmp 79), (1, Operand.tmp 81), (2, Operand.tmp 84)], type := 27, pos := "law.go:268", after := #[{ on := 1, ground := Ground.data }, { on := 3, ground := Ground.data }, { on := 6, ground := Ground.data }], guard := none }) (by kernel_rfl) rfl (fun wy1 hE K hK => ?_)
                  have a0 := cellb a0 hE
                  have q0 := cellb q0 hE
                  have hbz1 := bthen hbz hE
                  clear hE
                  go_simp
                  obtain ⟨wx1, hwz⟩ : ∃ v, v = wy1.alloc (Obj.cells #[.int .i64 e1, .int .i64 e2, .int .i64 e3] 3) := ⟨_, rfl⟩
                  rw [← hwz]
                  have hl : Below wy1.heap.size wy1 wx1 := by rw [hwz]; exact below_new _ _
                  have hcz1 := bthen hbz1 hl
                  have iN : BlkI wx1 wy1.heap.size 3 [e1, e2, e3] := by rw [hwz]; exact Blk.new _ _ _
                  generalize wy1.heap.size = G9 at iN ⊢
                  have a0 := cellb a0 hl
                  have q0 := cellb q0 hl
                  clear hwz
                  refine hK _ _ (fun _ => hl) ?_
                  clear hK K hl
                  try simp only [Act.put, List.setIfInBounds_toArray, List.set_cons_zero, List.set_cons_succ]
                  refine wpAnyE_call (i := 8) (oi := { dst := some 86, op := Op.call { callee := Callee.value (Operand.func 13), args := #[Operand.tmp 85], argTypes := #[27] }, type := 3, pos := "law.go:268", after := #[{ on := 7, ground := Ground.data }, { on := 6, ground := Ground.chain }], guard := none }) (fun w hE => ofPure (F1.out _ w (BlkI.ints (l := [e1, e2, e3]) (iN.carry hE) rfl))) rfl (by kernel_rfl) (by kernel_rfl) (by kernel_rfl) (by kernel_rfl) (fun _ _ _ h => h) (by rfl) (fun w hE => by (try dsimp only); go_simp) ?_
                  try simp only [Act.put, List.setIfInBounds_toArray, List.set_cons_zero, List.set_cons_succ]
                  refine wpAnyE_take (i := 9) (oi := { dst := some 14, op := Op.assign (Operand.tmp 86), type := 3, pos := "law.go:268", after := #[{ on := 8, ground := Ground.data }, { on := 8, ground := Ground.chain }, { on := 0, ground := Ground.phase }, { on := 1, ground := Ground.phase }, { on := 2, ground := Ground.phase }, { on := 3, ground := Ground.phase }, { on := 4, ground := Ground.phase }, { on := 5, ground := Ground.phase }, { on := 6, ground := Ground.phase }, { on := 7, ground := Ground.phase }, { on := 8, ground := Ground.phase }], guard := none }) (v := ?_) rfl (by kernel_rfl) (by kernel_rfl) (by kernel_rfl) (by kernel_rfl) (fun _ _ _ h => h) (Or.inl ⟨by rfl, ?_⟩) ?_
                  rotate_left
                  · (intro w hE; have a0 := cellb a0 hE; have q0 := cellb q0 hE; (try dsimp only); go_simp); (try with_reducible rfl)
                  try simp only [Act.put, List.setIfInBounds_toArray, List.set_cons_zero, List.set_cons_succ]
                  refine wpAnyE_done (by kernel_rfl) (fun wy2 hE => ?_) _
                  have hbz2 := bthen hcz1 hE
                  have a0 := cellb a0 hE
                  have q0 := cellb q0 hE
                  have iN := iN.carry hE
                  clear hE
                  go_wp2_with fail
                  go_meet
                  exact ⟨rfl, hbz2⟩
                case rest =>
                  clear hA
                  obtain ⟨rfl, hA⟩ := hcut
                  go_upto_region 8 with fail
                  go_cut [15, 16] from 87 to 102 (fun u15 u16 wn => u15 = .int .i64 bad ∧ u16 = .int .i64 three ∧ Below Wa.heap.size Wa wn)
                  case first =>
                    have q1 := cellb Q1.out hA
                    by_cases c1 : ed < 0
                    · obtain rfl : cb = true := by rw [HCB.out]; simp [c1]
                      go_wp2_with fail
                      refine (RW.out wc).mono ?_
                      rintro e Y1 ⟨rfl, rfl⟩
                      go_wp2_with fail
                      obtain ⟨Y2, hY2⟩ : ∃ v, v = World.alloc wc (Obj.cells #[.int .i64 bad, .int .i64 e5] 3) := ⟨_, rfl⟩
                      have kY2 : Below wc.heap.size wc Y2 := by rw [hY2]; exact below_new _ _
                      have iY2 : Blk Y2 (wc.heap.size) 3 [.int .i64 bad, .int .i64 e5] := by rw [hY2]; exact Blk.new _ _ _
                      have sY2 : Y2.heap.size = wc.heap.size + 1 := by rw [hY2]; simp
                      rw [← hY2]
                      clear hY2
                      refine (F2.out _ Y2 (BlkI.ints (l := [bad, e5]) iY2 rfl)).mono ?_
                      rintro e Y3 ⟨rfl, rfl⟩
                      go_wp2_with fail
                      go_meet
                      exact ⟨rfl, rfl, bthen hA kY2⟩
                    · have RW2 := Lib.hid (show ∀ W, Calls Tryz.prog 33 #[.bool (decide ((l.length : Int) ≤ ed)), .int .i64 10] W fun r w' => r = .returned (.int .i64 e5) ∧ W = w' from by
                          have := RW.out
                          rw [HCB.out, decide_eq_false c1, Bool.false_or] at this
                          exact this)
                      go_wp2_with fail
                      refine (RW2.out wc).mono ?_
                      rintro e Y1 ⟨rfl, rfl⟩
                      go_wp2_with fail
                      obtain ⟨Y2, hY2⟩ : ∃ v, v = World.alloc wc (Obj.cells #[.int .i64 bad, .int .i64 e5] 3) := ⟨_, rfl⟩
                      have kY2 : Below wc.heap.size wc Y2 := by rw [hY2]; exact below_new _ _
                      have iY2 : Blk Y2 (wc.heap.size) 3 [.int .i64 bad, .int .i64 e5] := by rw [hY2]; exact Blk.new _ _ _
                      have sY2 : Y2.heap.size = wc.heap.size + 1 := by rw [hY2]; simp
                      rw [← hY2]
                      clear hY2
                      refine (F2.out _ Y2 (BlkI.ints (l := [bad, e5]) iY2 rfl)).mono ?_
                      rintro e Y3 ⟨rfl, rfl⟩
                      go_wp2_with fail
                      go_meet
                      exact ⟨rfl, rfl, bthen hA kY2⟩
                  case rest =>
                    clear hA
                    obtain ⟨rfl, rfl, hA⟩ := hcut
                    go_upto_region 9 with fail
                    go_cut [17] from 102 to 123 (fun u17 wn => u17 = .int .i64 four ∧ Below Wa.heap.size Wa wn)
                    case first =>
                      have a0 := cellb A0.out hA
                      have q2 := cellb Q2.out hA
                      have q3 := cellb Q3.out hA
                      by_cases c1 : b < 0
                      · obtain rfl : cd = true := by rw [HCD.out]; simp [c1]
                        have hdb : decide (b < 0) = true := decide_eq_true c1
                        refine wp_region_E 99 (by kernel_rfl) ?_
                        obtain ⟨wz, hwz⟩ : ∃ v, v = wc.drew := ⟨_, rfl⟩
                        rw [← hwz]
                        have hlz : Below wc.heap.size wc wz := by rw [hwz]; exact (Below.refl _ _).drew
                        have hbz := bthen hA hlz
                        have a0 := cellb a0 hlz
                        have q2 := cellb q2 hlz
                        have q3 := cellb q3 hlz
                        clear hwz hlz
                        refine wpAnyE_take (i := 0) (oi := { dst := some 102, op := Op.load 47 (Operand.tmp 3), type := 47, pos := "law.go:270", after := #[], guard := none }) (v := ?_) rfl (by kernel_rfl) (by kernel_rfl) (by kernel_rfl) (by kernel_rfl) (fun _ _ _ h => h) (Or.inl ⟨by rfl, ?_⟩) ?_
                        rotate_left
                        · (intro w hE; have a0 := cellb a0 hE; have q2 := cellb q2 hE; have q3 := cellb q3 hE; (try dsimp only); go_simp); (try with_reducible rfl)
                        try simp only [Act.put, List.setIfInBounds_toArray, List.set_cons_zero, List.set_cons_succ]
                        refine wpAnyE_take (i := 2) (oi := { dst := some 104, op := Op.fieldAddr 50 (Operand.tmp 5) 2, type := 0, pos := "law.go:270", after := #[], guard := none }) (v := ?_) rfl (by kernel_rfl) (by kernel_rfl) (by kernel_rfl) (by kernel_rfl) (fun _ _ _ h => h) (Or.inl ⟨by rfl, ?_⟩) ?_
                        rotate_left
                        · (intro w hE; have a0 := cellb a0 hE; have q2 := cellb q2 hE; have q3 := cellb q3 hE; (try dsimp only); go_simp); (try with_reducible rfl)
                        try simp only [Act.put, List.setIfInBounds_toArray, List.set_cons_zero, List.set_cons_succ]
                        refine wpAnyE_take (i := 3) (oi := { dst := some 105, op := Op.load 3 (Operand.tmp 104), type := 3, pos := "law.go:270", after := #[{ on := 2, ground := Ground.data }], guard := none }) (v := ?_) rfl (by kernel_rfl) (by kernel_rfl) (by kernel_rfl) (by kernel_rfl) (fun _ _ _ h => h) (Or.inl ⟨by rfl, ?_⟩) ?_
                        rotate_left
                        · (intro w hE; have a0 := cellb a0 hE; have q2 := cellb q2 hE; have q3 := cellb q3 hE; (try dsimp only); go_simp); (try with_reducible rfl)
                        try simp only [Act.put, List.setIfInBounds_toArray, List.set_cons_zero, List.set_cons_succ]
                        refine wpAnyE_take (i := 4) (oi := { dst := some 106, op := Op.binOp BinOp.lss 3 (Operand.tmp 105) (Operand.const (Value.int IntKind.i64 0)) 3, type := 4, pos := "law.go:270", after := #[{ on := 3, ground := Ground.data }], guard := none }) (v := ?_) rfl (by kernel_rfl) (by kernel_rfl) (by kernel_rfl) (by kernel_rfl) (fun _ _ _ h => h) (Or.inl ⟨by rfl, ?_⟩) ?_
                        rotate_left
                        · (intro w hE; have a0 := cellb a0 hE; have q2 := cellb q2 hE; have q3 := cellb q3 hE; (try dsimp only); go_simp); (try with_reducible rfl)
                        try simp only [Act.put, List.setIfInBounds_toArray, List.set_cons_zero, List.set_cons_succ]
                        refine wpAnyE_take (i := 14) (oi := { dst := some 116, op := Op.move (Operand.tmp 1), type := 48, pos := "law.go:270", after := #[], guard := none }) (v := ?_) rfl (by kernel_rfl) (by kernel_rfl) (by kernel_rfl) (by kernel_rfl) (fun _ _ _ h => h) (Or.inl ⟨by rfl, ?_⟩) ?_
                        rotate_left
                        · (intro w hE; have a0 := cellb a0 hE; have q2 := cellb q2 hE; have q3 := cellb q3 hE; (try dsimp only); go_simp); (try with_reducible rfl)
                        try simp only [Act.put, List.setIfInBounds_toArray, List.set_cons_zero, List.set_cons_succ]
                        refine wpAnyE_take (i := 16) (oi := { dst := some 118, op := Op.fieldAddr 50 (Operand.tmp 5) 3, type := 0, pos := "law.go:270", after := #[], guard := none }) (v := ?_) rfl (by kernel_rfl) (by kernel_rfl) (by kernel_rfl) (by kernel_rfl) (fun _ _ _ h => h) (Or.inl ⟨by rfl, ?_⟩) ?_
                        rotate_left
                        · (intro w hE; have a0 := cellb a0 hE; have q2 := cellb q2 hE; have q3 := cellb q3 hE; (try dsimp only); go_simp); (try with_reducible rfl)
                        try simp only [Act.put, List.setIfInBounds_toArray, List.set_cons_zero, List.set_cons_succ]
                        refine wpAnyE_take (i := 17) (oi := { dst := some 119, op := Op.load 27 (Operand.tmp 118), type := 27, pos := "law.go:270", after := #[{ on := 16, ground := Ground.data }], guard := none }) (v := ?_) rfl (by kernel_rfl) (by kernel_rfl) (by kernel_rfl) (by kernel_rfl) (fun _ _ _ h => h) (Or.inl ⟨by rfl, ?_⟩) ?_
                        rotate_left
                        · (intro w hE; have a0 := cellb a0 hE; have q2 := cellb q2 hE; have q3 := cellb q3 hE; (try dsimp only); go_simp); (try with_reducible rfl)
                        try simp only [Act.put, List.setIfInBounds_toArray, List.set_cons_zero, List.set_cons_succ]
                        refine wpAnyE_call (i := 1) (oi := { dst := some 103, op := Op.call { callee := Callee.value (Operand.func 30), args := #[Operand.tmp 102], argTypes := #[47] }, type := 3, pos := "law.go:270", after := #[{ on := 0, ground := Ground.data }], guard := none }) (fun w hE => R0.out w (HVa.out.carry (bthen hbz hE))) rfl (by kernel_rfl) (by kernel_rfl) (by kernel_rfl) (by kernel_rfl) (fun _ _ _ h => h) (by rfl) (fun w hE => by (try dsimp only); go_simp) ?_
                        try simp only [Act.put, List.setIfInBounds_toArray, List.set_cons_zero, List.set_cons_succ]
                        refine wpAnyE_take (i := 5) (oi := { dst := some 107, op := Op.move (Operand.tmp 106), type := 4, pos := "law.go:270", after := #[{ on := 4, ground := Ground.data }, { on := 1, ground := Ground.chain }], guard := none }) (v := ?_) rfl (by kernel_rfl) (by kernel_rfl) (by kernel_rfl) (by kernel_rfl) (fun _ _ _ h => h) (Or.inl ⟨by rfl, ?_⟩) ?_
                        rotate_left
                        · (intro w hE; have a0 := cellb a0 hE; have q2 := cellb q2 hE; have q3 := cellb q3 hE; (try dsimp only); go_simp); (try with_reducible rfl)
                        try simp only [Act.put, List.setIfInBounds_toArray, List.set_cons_zero, List.set_cons_succ]
                        refine wpAnyE_take (i := 6) (oi := { dst := some 108, op := Op.fieldAddr 50 (Operand.tmp 5) 2, type := 0, pos := "law.go:270", after := #[{ on := 5, ground := Ground.guard }], guard := some (5, false) }) (v := undef) rfl (by kernel_rfl) (by kernel_rfl) (by kernel_rfl) (by kernel_rfl) (fun _ _ _ h => h) (Or.inr (Or.inr ⟨by rfl, rfl⟩)) ?_
                        try simp only [Act.put, List.setIfInBounds_toArray, List.set_cons_zero, List.set_cons_succ]
                        refine wpAnyE_take (i := 7) (oi := { dst := some 109, op := Op.load 3 (Operand.tmp 108), type := 3, pos := "law.go:270", after := #[{ on := 6, ground := Ground.data }, { on := 5, ground := Ground.guard }], guard := some (5, false) }) (v := undef) rfl (by kernel_rfl) (by kernel_rfl) (by kernel_rfl) (by kernel_rfl) (fun _ _ _ h => h) (Or.inr (Or.inr ⟨by rfl, rfl⟩)) ?_
                        try simp only [Act.put, List.setIfInBounds_toArray, List.set_cons_zero, List.set_cons_succ]
                        refine wpAnyE_take (i := 8) (oi := { dst := some 110, op := Op.fieldAddr 47 (Operand.tmp 3) 0, type := 0, pos := "law.go:270", after := #[{ on := 5, ground := Ground.guard }], guard := some (5, false) }) (v := undef) rfl (by kernel_rfl) (by kernel_rfl) (by kernel_rfl) (by kernel_rfl) (fun _ _ _ h => h) (Or.inr (Or.inr ⟨by rfl, rfl⟩)) ?_
                        try simp only [Act.put, List.setIfInBounds_toArray, List.set_cons_zero, List.set_cons_succ]
                        refine wpAnyE_take (i := 9) (oi := { dst := some 111, op := Op.load 45 (Operand.tmp 110), type := 45, pos := "law.go:270", after := #[{ on := 8, ground := Ground.data }, { on := 5, ground := Ground.guard }], guard := some (5, false) }) (v := undef) rfl (by kernel_rfl) (by kernel_rfl) (by kernel_rfl) (by kernel_rfl) (fun _ _ _ h => h) (Or.inr (Or.inr ⟨by rfl, rfl⟩)) ?_
                        try simp only [Act.put, List.setIfInBounds_toArray, List.set_cons_zero, List.set_cons_succ]
                        refine wpAnyE_take (i := 10) (oi := { dst := some 112, op := Op.call { callee := Callee.builtin Builtin.len, args := #[Operand.tmp 111], argTypes := #[45] }, type := 3, pos := "law.go:270", after := #[{ on := 9, ground := Ground.data }, { on := 5, ground := Ground.guard }], guard := some (5, false) }) (v := undef) rfl (by kernel_rfl) (by kernel_rfl) (by kernel_rfl) (by kernel_rfl) (fun _ _ _ h => h) (Or.inr (Or.inr ⟨by rfl, rfl⟩)) ?_
                        try simp only [Act.put, List.setIfInBounds_toArray, List.set_cons_zero, List.set_cons_succ]
                        refine wpAnyE_take (i := 11) (oi := { dst := some 113, op := Op.binOp BinOp.geq 3 (Operand.tmp 109) (Operand.tmp 112) 3, type := 4, pos := "law.go:270", after := #[{ on := 7, ground := Ground.data }, { on := 10, ground := Ground.data }, { on := 5, ground := Ground.guard }], guard := some (5, false) }) (v := undef) rfl (by kernel_rfl) (by kernel_rfl) (by kernel_rfl) (by kernel_rfl) (fun _ _ _ h => h) (Or.inr (Or.inr ⟨by rfl, rfl⟩)) ?_
                        try simp only [Act.put, List.setIfInBounds_toArray, List.set_cons_zero, List.set_cons_succ]
                        refine wpAnyE_take (i := 12) (oi := { dst := some 114, op := Op.pick (Operand.tmp 107) (Operand.const (Value.bool true)) (Operand.tmp 113), type := 4, pos := "law.go:270", after := #[{ on := 5, ground := Ground.data }, { on := 11, ground := Ground.data }], guard := none }) (v := ?_) rfl (by kernel_rfl) (by kernel_rfl) (by kernel_rfl) (by kernel_rfl) (fun _ _ _ h => h) (Or.inl ⟨by rfl, ?_⟩) ?_
                        rotate_left
                        · (intro w hE; have a0 := cellb a0 hE; have q2 := cellb q2 hE; have q3 := cellb q3 hE; (try dsimp only); go_simp); (try with_reducible rfl)
                        try simp only [Act.put, List.setIfInBounds_toArray, List.set_cons_zero, List.set_cons_succ]
                        refine wpAnyE_call (i := 13) (oi := { dst := some 115, op := Op.call { callee := Callee.value (Operand.func 33), args := #[Operand.tmp 114, Operand.const (Value.int IntKind.i64 10)], argTypes := #[4, 3] }, type := 3, pos := "law.go:270", after := #[{ on := 12, ground := Ground.data }, { on := 5, ground := Ground.chain }], guard := none }) (fun w hE => ofPure (RX.out w)) rfl (by kernel_rfl) (by kernel_rfl) (by kernel_rfl) (by kernel_rfl) (fun _ _ _ h => h) (by rfl) (fun w hE => by (try dsimp only); go_simp) ?_
                        try simp only [Act.put, List.setIfInBounds_toArray, List.set_cons_zero, List.set_cons_succ]
                        refine wpAnyE_call (i := 15) (oi := { dst := some 117, op := Op.call { callee := Callee.value (Operand.func 31), args := #[Operand.tmp 116], argTypes := #[48] }, type := 3, pos := "law.go:270", after := #[{ on := 14, ground := Ground.data }, { on := 13, ground := Ground.chain }], guard := none }) (fun w hE => R1.out w (HUa.out.carry (bthen hbz hE))) rfl (by kernel_rfl) (by kernel_rfl) (by kernel_rfl) (by kernel_rfl) (fun _ _ _ h => h) (by rfl) (fun w hE => by (try dsimp only); go_simp) ?_
                        try simp only [Act.put, List.setIfInBounds_toArray, List.set_cons_zero, List.set_cons_succ]
                        refine wpAnyE_call (i := 18) (oi := { dst := some 120, op := Op.call { callee := Callee.value (Operand.func 34), args := #[Operand.tmp 119], argTypes := #[27] }, type := 3, pos := "law.go:270", after := #[{ on := 17, ground := Ground.data }, { on := 15, ground := Ground.chain }], guard := none }) (fun w hE => R3.out w (HZa.out.carry (bthen hbz hE))) rfl (by kernel_rfl) (by kernel_rfl) (by kernel_rfl) (by kernel_rfl) (fun _ _ _ h => h) (by rfl) (fun w hE => by (try dsimp only); go_simp) ?_
                        try simp only [Act.put, List.setIfInBounds_toArray, List.set_cons_zero, List.set_cons_succ]
                        refine wpAnyE_one (i := 19) (o := { dst := some 121, op := Op.buildSlice 27 4 #[(0, Operand.tmp 103), (1, Operand.tmp 115), (2, Operand.tmp 117), (3, Operand.tmp 120)], type := 27, pos := "law.go:270", after := #[{ on := 1, ground := Ground.data }, { on := 13, ground := Ground.data }, { on := 15, ground := Ground.data }, { on := 18, ground := Ground.data }], guard := none }) (by kernel_rfl) rfl (fun wy1 hE K hK => ?_)
                        have a0 := cellb a0 hE
                        have q2 := cellb q2 hE
                        have q3 := cellb q3 hE
                        have hbz1 := bthen hbz hE
                        clear hE
                        go_simp
                        obtain ⟨wx1, hwz⟩ : ∃ v, v = wy1.alloc (Obj.cells #[.int .i64 e1, .int .i64 e6, .int .i64 e2, .int .i64 e4] 3) := ⟨_, rfl⟩
                        rw [← hwz]
                        have hl : Below wy1.heap.size wy1 wx1 := by rw [hwz]; exact below_new _ _
                        have hcz1 := bthen hbz1 hl
                        have iN : BlkI wx1 wy1.heap.size 3 [e1, e6, e2, e4] := by rw [hwz]; exact Blk.new _ _ _
                        generalize wy1.heap.size = G9 at iN ⊢
                        have a0 := cellb a0 hl
                        have q2 := cellb q2 hl
                        have q3 := cellb q3 hl
                        clear hwz
                        refine hK _ _ (fun _ => hl) ?_
                        clear hK K hl
                        try simp only [Act.put, List.setIfInBounds_toArray, List.set_cons_zero, List.set_cons_succ]
                        refine wpAnyE_call (i := 20) (oi := { dst := some 122, op := Op.call { callee := Callee.value (Operand.func 13), args := #[Operand.tmp 121], argTypes := #[27] }, type := 3, pos := "law.go:270", after := #[{ on := 19, ground := Ground.data }, { on := 18, ground := Ground.chain }], guard := none }) (fun w hE => ofPure (F3.out _ w (BlkI.ints (l := [e1, e6, e2, e4]) (iN.carry hE) rfl))) rfl (by kernel_rfl) (by kernel_rfl) (by kernel_rfl) (by kernel_rfl) (fun _ _ _ h => h) (by rfl) (fun w hE => by (try dsimp only); go_simp) ?_
                        try simp only [Act.put, List.setIfInBounds_toArray, List.set_cons_zero, List.set_cons_succ]
                        refine wpAnyE_take (i := 21) (oi := { dst := some 17, op := Op.assign (Operand.tmp 122), type := 3, pos := "law.go:270", after := #[{ on := 20, ground := Ground.data }, { on := 20, ground := Ground.chain }, { on := 0, ground := Ground.phase }, { on := 1, ground := Ground.phase }, { on := 2, ground := Ground.phase }, { on := 3, ground := Ground.phase }, { on := 4, ground := Ground.phase }, { on := 5, ground := Ground.phase }, { on := 6, ground := Ground.phase }, { on := 7, ground := Ground.phase }, { on := 8, ground := Ground.phase }, { on := 9, ground := Ground.phase }, { on := 10, ground := Ground.phase }, { on := 11, ground := Ground.phase }, { on := 12, ground := Ground.phase }, { on := 13, ground := Ground.phase }, { on := 14, ground := Ground.phase }, { on := 15, ground := Ground.phase }, { on := 16, ground := Ground.phase }, { on := 17, ground := Ground.phase }, { on := 18, ground := Ground.phase }, { on := 19, ground := Ground.phase }, { on := 20, ground := Ground.phase }], guard := none }) (v := ?_) rfl (by kernel_rfl) (by kernel_rfl) (by kernel_rfl) (by kernel_rfl) (fun _ _ _ h => h) (Or.inl ⟨by rfl, ?_⟩) ?_
                        rotate_left
                        · (intro w hE; have a0 := cellb a0 hE; have q2 := cellb q2 hE; have q3 := cellb q3 hE; (try dsimp only); go_simp); (try with_reducible rfl)
                        try simp only [Act.put, List.setIfInBounds_toArray, List.set_cons_zero, List.set_cons_succ]
                        refine wpAnyE_done (by kernel_rfl) (fun wy2 hE => ?_) _
                        have hbz2 := bthen hcz1 hE
                        have a0 := cellb a0 hE
                        have q2 := cellb q2 hE
                        have q3 := cellb q3 hE
                        have iN := iN.carry hE
                        clear hE
                        go_wp2_with fail
                        go_meet
                        exact ⟨rfl, hbz2⟩
                      · have RX2 := Lib.hid (show ∀ W, Calls Tryz.prog 33 #[.bool (decide ((ls.length : Int) ≤ b)), .int .i64 10] W fun r w' => r = .returned (.int .i64 e6) ∧ W = w' from by
                            have := RX.out
                            rw [HCD.out, decide_eq_false c1, Bool.false_or] at this
                            exact this)
                        have hdb : decide (b < 0) = false := decide_eq_false c1
                        refine wp_region_E 99 (by kernel_rfl) ?_
                        obtain ⟨wz, hwz⟩ : ∃ v, v = wc.drew := ⟨_, rfl⟩
                        rw [← hwz]
                        have hlz : Below wc.heap.size wc wz := by rw [hwz]; exact (Below.refl _ _).drew
                        have hbz := bthen hA hlz
                        have a0 := cellb a0 hlz
                        have q2 := cellb q2 hlz
                        have q3 := cellb q3 hlz
                        clear hwz hlz
                        refine wpAnyE_take (i := 0) (oi := { dst := some 102, op := Op.load 47 (Operand.tmp 3), type := 47, pos := "law.go:270", after := #[], guard := none }) (v := ?_) rfl (by kernel_rfl) (by kernel_rfl) (by kernel_rfl) (by kernel_rfl) (fun _ _ _ h => h) (Or.inl ⟨by rfl, ?_⟩) ?_
                        rotate_left
                        · (intro w hE; have a0 := cellb a0 hE; have q2 := cellb q2 hE; have q3 := cellb q3 hE; (try dsimp only); go_simp); (try with_reducible rfl)
                        try simp only [Act.put, List.setIfInBounds_toArray, List.set_cons_zero, List.set_cons_succ]
                        refine wpAnyE_take (i := 2) (oi := { dst := some 104, op := Op.fieldAddr 50 (Operand.tmp 5) 2, type := 0, pos := "law.go:270", after := #[], guard := none }) (v := ?_) rfl (by kernel_rfl) (by kernel_rfl) (by kernel_rfl) (by kernel_rfl) (fun _ _ _ h => h) (Or.inl ⟨by rfl, ?_⟩) ?_
                        rotate_left
                        · (intro w hE; have a0 := cellb a0 hE; have q2 := cellb q2 hE; have q3 := cellb q3 hE; (try dsimp only); go_simp); (try with_reducible rfl)
                        try simp only [Act.put, List.setIfInBounds_toArray, List.set_cons_zero, List.set_cons_succ]
                        refine wpAnyE_take (i := 3) (oi := { dst := some 105, op := Op.load 3 (Operand.tmp 104), type := 3, pos := "law.go:270", after := #[{ on := 2, ground := Ground.data }], guard := none }) (v := ?_) rfl (by kernel_rfl) (by kernel_rfl) (by kernel_rfl) (by kernel_rfl) (fun _ _ _ h => h) (Or.inl ⟨by rfl, ?_⟩) ?_
                        rotate_left
                        · (intro w hE; have a0 := cellb a0 hE; have q2 := cellb q2 hE; have q3 := cellb q3 hE; (try dsimp only); go_simp); (try with_reducible rfl)
                        try simp only [Act.put, List.setIfInBounds_toArray, List.set_cons_zero, List.set_cons_succ]
                        refine wpAnyE_take (i := 4) (oi := { dst := some 106, op := Op.binOp BinOp.lss 3 (Operand.tmp 105) (Operand.const (Value.int IntKind.i64 0)) 3, type := 4, pos := "law.go:270", after := #[{ on := 3, ground := Ground.data }], guard := none }) (v := ?_) rfl (by kernel_rfl) (by kernel_rfl) (by kernel_rfl) (by kernel_rfl) (fun _ _ _ h => h) (Or.inl ⟨by rfl, ?_⟩) ?_
                        rotate_left
                        · (intro w hE; have a0 := cellb a0 hE; have q2 := cellb q2 hE; have q3 := cellb q3 hE; (try dsimp only); go_simp); (try with_reducible rfl)
                        try simp only [Act.put, List.setIfInBounds_toArray, List.set_cons_zero, List.set_cons_succ]
                        refine wpAnyE_take (i := 14) (oi := { dst := some 116, op := Op.move (Operand.tmp 1), type := 48, pos := "law.go:270", after := #[], guard := none }) (v := ?_) rfl (by kernel_rfl) (by kernel_rfl) (by kernel_rfl) (by kernel_rfl) (fun _ _ _ h => h) (Or.inl ⟨by rfl, ?_⟩) ?_
                        rotate_left
                        · (intro w hE; have a0 := cellb a0 hE; have q2 := cellb q2 hE; have q3 := cellb q3 hE; (try dsimp only); go_simp); (try with_reducible rfl)
                        try simp only [Act.put, List.setIfInBounds_toArray, List.set_cons_zero, List.set_cons_succ]
                        refine wpAnyE_take (i := 16) (oi := { dst := some 118, op := Op.fieldAddr 50 (Operand.tmp 5) 3, type := 0, pos := "law.go:270", after := #[], guard := none }) (v := ?_) rfl (by kernel_rfl) (by kernel_rfl) (by kernel_rfl) (by kernel_rfl) (fun _ _ _ h => h) (Or.inl ⟨by rfl, ?_⟩) ?_
                        rotate_left
                        · (intro w hE; have a0 := cellb a0 hE; have q2 := cellb q2 hE; have q3 := cellb q3 hE; (try dsimp only); go_simp); (try with_reducible rfl)
                        try simp only [Act.put, List.setIfInBounds_toArray, List.set_cons_zero, List.set_cons_succ]
                        refine wpAnyE_take (i := 17) (oi := { dst := some 119, op := Op.load 27 (Operand.tmp 118), type := 27, pos := "law.go:270", after := #[{ on := 16, ground := Ground.data }], guard := none }) (v := ?_) rfl (by kernel_rfl) (by kernel_rfl) (by kernel_rfl) (by kernel_rfl) (fun _ _ _ h => h) (Or.inl ⟨by rfl, ?_⟩) ?_
                        rotate_left
                        · (intro w hE; have a0 := cellb a0 hE; have q2 := cellb q2 hE; have q3 := cellb q3 hE; (try dsimp only); go_simp); (try with_reducible rfl)
                        try simp only [Act.put, List.setIfInBounds_toArray, List.set_cons_zero, List.set_cons_succ]
                        refine wpAnyE_call (i := 1) (oi := { dst := some 103, op := Op.call { callee := Callee.value (Operand.func 30), args := #[Operand.tmp 102], argTypes := #[47] }, type := 3, pos := "law.go:270", after := #[{ on := 0, ground := Ground.data }], guard := none }) (fun w hE => R0.out w (HVa.out.carry (bthen hbz hE))) rfl (by kernel_rfl) (by kernel_rfl) (by kernel_rfl) (by kernel_rfl) (fun _ _ _ h => h) (by rfl) (fun w hE => by (try dsimp only); go_simp) ?_
                        try simp only [Act.put, List.setIfInBounds_toArray, List.set_cons_zero, List.set_cons_succ]
                        refine wpAnyE_take (i := 5) (oi := { dst := some 107, op := Op.move (Operand.tmp 106), type := 4, pos := "law.go:270", after := #[{ on := 4, ground := Ground.data }, { on := 1, ground := Ground.chain }], guard := none }) (v := ?_) rfl (by kernel_rfl) (by kernel_rfl) (by kernel_rfl) (by kernel_rfl) (fun _ _ _ h => h) (Or.inl ⟨by rfl, ?_⟩) ?_
                        rotate_left
                        · (intro w hE; have a0 := cellb a0 hE; have q2 := cellb q2 hE; have q3 := cellb q3 hE; (try dsimp only); go_simp); (try with_reducible rfl)
                        try simp only [Act.put, List.setIfInBounds_toArray, List.set_cons_zero, List.set_cons_succ]
                        refine wpAnyE_take (i := 6) (oi := { dst := some 108, op := Op.fieldAddr 50 (Operand.tmp 5) 2, type := 0, pos := "law.go:270", after := #[{ on := 5, ground := Ground.guard }], guard := some (5, false) }) (v := ?_) rfl (by kernel_rfl) (by kernel_rfl) (by kernel_rfl) (by kernel_rfl) (fun _ _ _ h => h) (Or.inl ⟨by rfl, ?_⟩) ?_
                        rotate_left
                        · (intro w hE; have a0 := cellb a0 hE; have q2 := cellb q2 hE; have q3 := cellb q3 hE; (try dsimp only); go_simp); (try with_reducible rfl)
                        try simp only [Act.put, List.setIfInBounds_toArray, List.set_cons_zero, List.set_cons_succ]
                        refine wpAnyE_take (i := 7) (oi := { dst := some 109, op := Op.load 3 (Operand.tmp 108), type := 3, pos := "law.go:270", after := #[{ on := 6, ground := Ground.data }, { on := 5, ground := Ground.guard }], guard := some (5, false) }) (v := ?_) rfl (by kernel_rfl) (by kernel_rfl) (by kernel_rfl) (by kernel_rfl) (fun _ _ _ h => h) (Or.inl ⟨by rfl, ?_⟩) ?_
                        rotate_left
                        · (intro w hE; have a0 := cellb a0 hE; have q2 := cellb q2 hE; have q3 := cellb q3 hE; (try dsimp only); go_simp); (try with_reducible rfl)
                        try simp only [Act.put, List.setIfInBounds_toArray, List.set_cons_zero, List.set_cons_succ]
                        refine wpAnyE_take (i := 8) (oi := { dst := some 110, op := Op.fieldAddr 47 (Operand.tmp 3) 0, type := 0, pos := "law.go:270", after := #[{ on := 5, ground := Ground.guard }], guard := some (5, false) }) (v := ?_) rfl (by kernel_rfl) (by kernel_rfl) (by kernel_rfl) (by kernel_rfl) (fun _ _ _ h => h) (Or.inl ⟨by rfl, ?_⟩) ?_
                        rotate_left
                        · (intro w hE; have a0 := cellb a0 hE; have q2 := cellb q2 hE; have q3 := cellb q3 hE; (try dsimp only); go_simp); (try with_reducible rfl)
                        try simp only [Act.put, List.setIfInBounds_toArray, List.set_cons_zero, List.set_cons_succ]
                        refine wpAnyE_take (i := 9) (oi := { dst := some 111, op := Op.load 45 (Operand.tmp 110), type := 45, pos := "law.go:270", after := #[{ on := 8, ground := Ground.data }, { on := 5, ground := Ground.guard }], guard := some (5, false) }) (v := ?_) rfl (by kernel_rfl) (by kernel_rfl) (by kernel_rfl) (by kernel_rfl) (fun _ _ _ h => h) (Or.inl ⟨by rfl, ?_⟩) ?_
                        rotate_left
                        · (intro w hE; have a0 := cellb a0 hE; have q2 := cellb q2 hE; have q3 := cellb q3 hE; (try dsimp only); go_simp); (try with_reducible rfl)
                        try simp only [Act.put, List.setIfInBounds_toArray, List.set_cons_zero, List.set_cons_succ]
                        refine wpAnyE_take (i := 10) (oi := { dst := some 112, op := Op.call { callee := Callee.builtin Builtin.len, args := #[Operand.tmp 111], argTypes := #[45] }, type := 3, pos := "law.go:270", after := #[{ on := 9, ground := Ground.data }, { on := 5, ground := Ground.guard }], guard := some (5, false) }) (v := ?_) rfl (by kernel_rfl) (by kernel_rfl) (by kernel_rfl) (by kernel_rfl) (fun _ _ _ h => h) (Or.inl ⟨by rfl, ?_⟩) ?_
                        rotate_left
                        · (intro w hE; have a0 := cellb a0 hE; have q2 := cellb q2 hE; have q3 := cellb q3 hE; (try dsimp only); go_simp); (try with_reducible rfl)
                        try simp only [Act.put, List.setIfInBounds_toArray, List.set_cons_zero, List.set_cons_succ]
                        refine wpAnyE_take (i := 11) (oi := { dst := some 113, op := Op.binOp BinOp.geq 3 (Operand.tmp 109) (Operand.tmp 112) 3, type := 4, pos := "law.go:270", after := #[{ on := 7, ground := Ground.data }, { on := 10, ground := Ground.data }, { on := 5, ground := Ground.guard }], guard := some (5, false) }) (v := ?_) rfl (by kernel_rfl) (by kernel_rfl) (by kernel_rfl) (by kernel_rfl) (fun _ _ _ h => h) (Or.inl ⟨by rfl, ?_⟩) ?_
                        rotate_left
                        · (intro w hE; have a0 := cellb a0 hE; have q2 := cellb q2 hE; have q3 := cellb q3 hE; (try dsimp only); go_simp); (try with_reducible rfl)
                        try simp only [Act.put, List.setIfInBounds_toArray, List.set_cons_zero, List.set_cons_succ]
                        refine wpAnyE_take (i := 12) (oi := { dst := some 114, op := Op.pick (Operand.tmp 107) (Operand.const (Value.bool true)) (Operand.tmp 113), type := 4, pos := "law.go:270", after := #[{ on := 5, ground := Ground.data }, { on := 11, ground := Ground.data }], guard := none }) (v := ?_) rfl (by kernel_rfl) (by kernel_rfl) (by kernel_rfl) (by kernel_rfl) (fun _ _ _ h => h) (Or.inl ⟨by rfl, ?_⟩) ?_
                        rotate_left
                        · (intro w hE; have a0 := cellb a0 hE; have q2 := cellb q2 hE; have q3 := cellb q3 hE; (try dsimp only); go_simp); (try with_reducible rfl)
                        try simp only [Act.put, List.setIfInBounds_toArray, List.set_cons_zero, List.set_cons_succ]
                        refine wpAnyE_call (i := 13) (oi := { dst := some 115, op := Op.call { callee := Callee.value (Operand.func 33), args := #[Operand.tmp 114, Operand.const (Value.int IntKind.i64 10)], argTypes := #[4, 3] }, type := 3, pos := "law.go:270", after := #[{ on := 12, ground := Ground.data }, { on := 5, ground := Ground.chain }], guard := none }) (fun w hE => ofPure (RX2.out w)) rfl (by kernel_rfl) (by kernel_rfl) (by kernel_rfl) (by kernel_rfl) (fun _ _ _ h => h) (by rfl) (fun w hE => by (try dsimp only); go_simp) ?_
                        try simp only [Act.put, List.setIfInBounds_toArray, List.set_cons_zero, List.set_cons_succ]
                        refine wpAnyE_call (i := 15) (oi := { dst := some 117, op := Op.call { callee := Callee.value (Operand.func 31), args := #[Operand.tmp 116], argTypes := #[48] }, type := 3, pos := "law.go:270", after := #[{ on := 14, ground := Ground.data }, { on := 13, ground := Ground.chain }], guard := none }) (fun w hE => R1.out w (HUa.out.carry (bthen hbz hE))) rfl (by kernel_rfl) (by kernel_rfl) (by kernel_rfl) (by kernel_rfl) (fun _ _ _ h => h) (by rfl) (fun w hE => by (try dsimp only); go_simp) ?_
                        try simp only [Act.put, List.setIfInBounds_toArray, List.set_cons_zero, List.set_cons_succ]
                        refine wpAnyE_call (i := 18) (oi := { dst := some 120, op := Op.call { callee := Callee.value (Operand.func 34), args := #[Operand.tmp 119], argTypes := #[27] }, type := 3, pos := "law.go:270", after := #[{ on := 17, ground := Ground.data }, { on := 15, ground := Ground.chain }], guard := none }) (fun w hE => R3.out w (HZa.out.carry (bthen hbz hE))) rfl (by kernel_rfl) (by kernel_rfl) (by kernel_rfl) (by kernel_rfl) (fun _ _ _ h => h) (by rfl) (fun w hE => by (try dsimp only); go_simp) ?_
                        try simp only [Act.put, List.setIfInBounds_toArray, List.set_cons_zero, List.set_cons_succ]
                        refine wpAnyE_one (i := 19) (o := { dst := some 121, op := Op.buildSlice 27 4 #[(0, Operand.tmp 103), (1, Operand.tmp 115), (2, Operand.tmp 117), (3, Operand.tmp 120)], type := 27, pos := "law.go:270", after := #[{ on := 1, ground := Ground.data }, { on := 13, ground := Ground.data }, { on := 15, ground := Ground.data }, { on := 18, ground := Ground.data }], guard := none }) (by kernel_rfl) rfl (fun wy1 hE K hK => ?_)
                        have a0 := cellb a0 hE
                        have q2 := cellb q2 hE
                        have q3 := cellb q3 hE
                        have hbz1 := bthen hbz hE
                        clear hE
                        go_simp
                        obtain ⟨wx1, hwz⟩ : ∃ v, v = wy1.alloc (Obj.cells #[.int .i64 e1, .int .i64 e6, .int .i64 e2, .int .i64 e4] 3) := ⟨_, rfl⟩
                        rw [← hwz]
                        have hl : Below wy1.heap.size wy1 wx1 := by rw [hwz]; exact below_new _ _
                        have hcz1 := bthen hbz1 hl
                        have iN : BlkI wx1 wy1.heap.size 3 [e1, e6, e2, e4] := by rw [hwz]; exact Blk.new _ _ _
                        generalize wy1.heap.size = G9 at iN ⊢
                        have a0 := cellb a0 hl
                        have q2 := cellb q2 hl
                        have q3 := cellb q3 hl
                        clear hwz
                        refine hK _ _ (fun _ => hl) ?_
                        clear hK K hl
                        try simp only [Act.put, List.setIfInBounds_toArray, List.set_cons_zero, List.set_cons_succ]
                        refine wpAnyE_call (i := 20) (oi := { dst := some 122, op := Op.call { callee := Callee.value (Operand.func 13), args := #[Operand.tmp 121], argTypes := #[27] }, type := 3, pos := "law.go:270", after := #[{ on := 19, ground := Ground.data }, { on := 18, ground := Ground.chain }], guard := none }) (fun w hE => ofPure (F3.out _ w (BlkI.ints (l := [e1, e6, e2, e4]) (iN.carry hE) rfl))) rfl (by kernel_rfl) (by kernel_rfl) (by kernel_rfl) (by kernel_rfl) (fun _ _ _ h => h) (by rfl) (fun w hE => by (try dsimp only); go_simp) ?_
                        try simp only [Act.put, List.setIfInBounds_toArray, List.set_cons_zero, List.set_cons_succ]
                        refine wpAnyE_take (i := 21) (oi := { dst := some 17, op := Op.assign (Operand.tmp 122), type := 3, pos := "law.go:270", after := #[{ on := 20, ground := Ground.data }, { on := 20, ground := Ground.chain }, { on := 0, ground := Ground.phase }, { on := 1, ground := Ground.phase }, { on := 2, ground := Ground.phase }, { on := 3, ground := Ground.phase }, { on := 4, ground := Ground.phase }, { on := 5, ground := Ground.phase }, { on := 6, ground := Ground.phase }, { on := 7, ground := Ground.phase }, { on := 8, ground := Ground.phase }, { on := 9, ground := Ground.phase }, { on := 10, ground := Ground.phase }, { on := 11, ground := Ground.phase }, { on := 12, ground := Ground.phase }, { on := 13, ground := Ground.phase }, { on := 14, ground := Ground.phase }, { on := 15, ground := Ground.phase }, { on := 16, ground := Ground.phase }, { on := 17, ground := Ground.phase }, { on := 18, ground := Ground.phase }, { on := 19, ground := Ground.phase }, { on := 20, ground := Ground.phase }], guard := none }) (v := ?_) rfl (by kernel_rfl) (by kernel_rfl) (by kernel_rfl) (by kernel_rfl) (fun _ _ _ h => h) (Or.inl ⟨by rfl, ?_⟩) ?_
                        rotate_left
                        · (intro w hE; have a0 := cellb a0 hE; have q2 := cellb q2 hE; have q3 := cellb q3 hE; (try dsimp only); go_simp); (try with_reducible rfl)
                        try simp only [Act.put, List.setIfInBounds_toArray, List.set_cons_zero, List.set_cons_succ]
                        refine wpAnyE_done (by kernel_rfl) (fun wy2 hE => ?_) _
                        have hbz2 := bthen hcz1 hE
                        have a0 := cellb a0 hE
                        have q2 := cellb q2 hE
                        have q3 := cellb q3 hE
                        have iN := iN.carry hE
                        clear hE
                        go_wp2_with fail
                        go_meet
                        exact ⟨rfl, hbz2⟩
                    case rest =>
                      clear hA
                      obtain ⟨rfl, hA⟩ := hcut
                      go_upto_if 124 with fail
                      go_cut [15, 18, 19] from 125 to 137 (fun u15 u18 u19 wn => u15 = .int .i64 g2 ∧ u18 = .bool m ∧ u19 = .int .i64 g1 ∧ Below Wa.heap.size Wa wn)
                      case first =>
                        by_cases h1 : bad = 0
                        · subst h1
                          obtain rfl : m = mb := HM.out
                          have a0 := cellb A0.out hA
                          have q0 := cellb Q0.out hA
                          have R4b := Lib.hid (R4.out (by trivial))
                          have R5b := Lib.hid (R5.out (by trivial))
                          go_upto_region 12 with fail
                          refine wp_region_E 99 (by kernel_rfl) ?_
                          obtain ⟨wz, hwz⟩ : ∃ v, v = wc.drew := ⟨_, rfl⟩
                          rw [← hwz]
                          have hlz : Below wc.heap.size wc wz := by rw [hwz]; exact (Below.refl _ _).drew
                          have hbz := bthen hA hlz
                          have a0 := cellb a0 hlz
                          have q0 := cellb q0 hlz
                          clear hwz hlz
                          refine wpAnyE_take (i := 0) (oi := { dst := some 125, op := Op.load 47 (Operand.tmp 3), type := 47, pos := "law.go:273", after := #[], guard := none }) (v := ?_) rfl (by kernel_rfl) (by kernel_rfl) (by kernel_rfl) (by kernel_rfl) (fun _ _ _ h => h) (Or.inl ⟨by rfl, ?_⟩) ?_
                          rotate_left
                          · (intro w hE; have a0 := cellb a0 hE; have q0 := cellb q0 hE; (try dsimp only); go_simp); (try with_reducible rfl)
                          try simp only [Act.put, List.setIfInBounds_toArray, List.set_cons_zero, List.set_cons_succ]
                          refine wpAnyE_take (i := 1) (oi := { dst := some 126, op := Op.move (Operand.tmp 1), type := 48, pos := "law.go:273", after := #[], guard := none }) (v := ?_) rfl (by kernel_rfl) (by kernel_rfl) (by kernel_rfl) (by kernel_rfl) (fun _ _ _ h => h) (Or.inl ⟨by rfl, ?_⟩) ?_
                          rotate_left
                          · (intro w hE; have a0 := cellb a0 hE; have q0 := cellb q0 hE; (try dsimp only); go_simp); (try with_reducible rfl)
                          try simp only [Act.put, List.setIfInBounds_toArray, List.set_cons_zero, List.set_cons_succ]
                          refine wpAnyE_take (i := 2) (oi := { dst := some 127, op := Op.fieldAddr 50 (Operand.tmp 5) 0, type := 0, pos := "law.go:273", after := #[], guard := none }) (v := ?_) rfl (by kernel_rfl) (by kernel_rfl) (by kernel_rfl) (by kernel_rfl) (fun _ _ _ h => h) (Or.inl ⟨by rfl, ?_⟩) ?_
                          rotate_left
                          · (intro w hE; have a0 := cellb a0 hE; have q0 := cellb q0 hE; (try dsimp only); go_simp); (try with_reducible rfl)
                          try simp only [Act.put, List.setIfInBounds_toArray, List.set_cons_zero, List.set_cons_succ]
                          refine wpAnyE_take (i := 3) (oi := { dst := some 128, op := Op.load 3 (Operand.tmp 127), type := 3, pos := "law.go:273", after := #[{ on := 2, ground := Ground.data }], guard := none }) (v := ?_) rfl (by kernel_rfl) (by kernel_rfl) (by kernel_rfl) (by kernel_rfl) (fun _ _ _ h => h) (Or.inl ⟨by rfl, ?_⟩) ?_
                          rotate_left
                          · (intro w hE; have a0 := cellb a0 hE; have q0 := cellb q0 hE; (try dsimp only); go_simp); (try with_reducible rfl)
                          try simp only [Act.put, List.setIfInBounds_toArray, List.set_cons_zero, List.set_cons_succ]
                          refine wpAnyE_take (i := 5) (oi := { dst := some 130, op := Op.load 47 (Operand.tmp 3), type := 47, pos := "law.go:273", after := #[], guard := none }) (v := ?_) rfl (by kernel_rfl) (by kernel_rfl) (by kernel_rfl) (by kernel_rfl) (fun _ _ _ h => h) (Or.inl ⟨by rfl, ?_⟩) ?_
                          rotate_left
                          · (intro w hE; have a0 := cellb a0 hE; have q0 := cellb q0 hE; (try dsimp only); go_simp); (try with_reducible rfl)
                          try simp only [Act.put, List.setIfInBounds_toArray, List.set_cons_zero, List.set_cons_succ]
                          refine wpAnyE_take (i := 6) (oi := { dst := some 131, op := Op.move (Operand.tmp 1), type := 48, pos := "law.go:273", after := #[], guard := none }) (v := ?_) rfl (by kernel_rfl) (by kernel_rfl) (by kernel_rfl) (by kernel_rfl) (fun _ _ _ h => h) (Or.inl ⟨by rfl, ?_⟩) ?_
                          rotate_left
                          · (intro w hE; have a0 := cellb a0 hE; have q0 := cellb q0 hE; (try dsimp only); go_simp); (try with_reducible rfl)
                          try simp only [Act.put, List.setIfInBounds_toArray, List.set_cons_zero, List.set_cons_succ]
                          refine wpAnyE_take (i := 7) (oi := { dst := some 132, op := Op.fieldAddr 50 (Operand.tmp 5) 0, type := 0, pos := "law.go:273", after := #[], guard := none }) (v := ?_) rfl (by kernel_rfl) (by kernel_rfl) (by kernel_rfl) (by kernel_rfl) (fun _ _ _ h => h) (Or.inl ⟨by rfl, ?_⟩) ?_
                          rotate_left
                          · (intro w hE; have a0 := cellb a0 hE; have q0 := cellb q0 hE; (try dsimp only); go_simp); (try with_reducible rfl)
                          try simp only [Act.put, List.setIfInBounds_toArray, List.set_cons_zero, List.set_cons_succ]
                          refine wpAnyE_take (i := 8) (oi := { dst := some 133, op := Op.load 3 (Operand.tmp 132), type := 3, pos := "law.go:273", after := #[{ on := 7, ground := Ground.data }], guard := none }) (v := ?_) rfl (by kernel_rfl) (by kernel_rfl) (by kernel_rfl) (by kernel_rfl) (fun _ _ _ h => h) (Or.inl ⟨by rfl, ?_⟩) ?_
                          rotate_left
                          · (intro w hE; have a0 := cellb a0 hE; have q0 := cellb q0 hE; (try dsimp only); go_simp); (try with_reducible rfl)
                          try simp only [Act.put, List.setIfInBounds_toArray, List.set_cons_zero, List.set_cons_succ]
                          refine wpAnyE_call (i := 4) (oi := { dst := some 129, op := Op.call { callee := Callee.value (Operand.func 35), args := #[Operand.tmp 125, Operand.tmp 126, Operand.tmp 128], argTypes := #[47, 48, 3] }, type := 4, pos := "law.go:273", after := #[{ on := 0, ground := Ground.data }, { on := 1, ground := Ground.data }, { on := 3, ground := Ground.data }], guard := none }) (fun w hE => R4b.out w (HVa.out.carry (bthen hbz hE)) (HUa.out.carry (bthen hbz hE))) rfl (by kernel_rfl) (by kernel_rfl) (by kernel_rfl) (by kernel_rfl) (fun _ _ _ h => h) (by rfl) (fun w hE => by (try dsimp only); go_simp) ?_
                          try simp only [Act.put, List.setIfInBounds_toArray, List.set_cons_zero, List.set_cons_succ]
                          refine wpAnyE_call (i := 9) (oi := { dst := some 134, op := Op.call { callee := Callee.value (Operand.func 36), args := #[Operand.tmp 130, Operand.tmp 131, Operand.tmp 133], argTypes := #[47, 48, 3] }, type := 3, pos := "law.go:273", after := #[{ on := 5, ground := Ground.data }, { on := 6, ground := Ground.data }, { on := 8, ground := Ground.data }, { on := 4, ground := Ground.chain }], guard := none }) (fun w hE => R5b.out w (HVa.out.carry (bthen hbz hE)) (HUa.out.carry (bthen hbz hE))) rfl (by kernel_rfl) (by kernel_rfl) (by kernel_rfl) (by kernel_rfl) (fun _ _ _ h => h) (by rfl) (fun w hE => by (try dsimp only); go_simp) ?_
                          try simp only [Act.put, List.setIfInBounds_toArray, List.set_cons_zero, List.set_cons_succ]
                          refine wpAnyE_take (i := 10) (oi := { dst := some 18, op := Op.assign (Operand.tmp 129), type := 4, pos := "law.go:273", after := #[{ on := 4, ground := Ground.data }, { on := 9, ground := Ground.chain }, { on := 0, ground := Ground.phase }, { on := 1, ground := Ground.phase }, { on := 2, ground := Ground.phase }, { on := 3, ground := Ground.phase }, { on := 4, ground := Ground.phase }, { on := 5, ground := Ground.textOnly Departure.lateStores }, { on := 6, ground := Ground.textOnly Departure.lateStores }, { on := 7, ground := Ground.textOnly Departure.lateStores }, { on := 8, ground := Ground.textOnly Departure.lateStores }, { on := 9, ground := Ground.textOnly Departure.lateStoresUnsure }], guard := none }) (v := ?_) rfl (by kernel_rfl) (by kernel_rfl) (by kernel_rfl) (by kernel_rfl) (fun _ _ _ h => h) (Or.inl ⟨by rfl, ?_⟩) ?_
                          rotate_left
                          · (intro w hE; have a0 := cellb a0 hE; have q0 := cellb q0 hE; (try dsimp only); go_simp); (try with_reducible rfl)
                          try simp only [Act.put, List.setIfInBounds_toArray, List.set_cons_zero, List.set_cons_succ]
                          refine wpAnyE_take (i := 11) (oi := { dst := some 19, op := Op.assign (Operand.tmp 134), type := 3, pos := "law.go:273", after := #[{ on := 9, ground := Ground.data }, { on := 10, ground := Ground.chain }, { on := 0, ground := Ground.phase }, { on := 1, ground := Ground.phase }, { on := 2, ground := Ground.phase }, { on := 3, ground := Ground.phase }, { on := 4, ground := Ground.phase }, { on := 5, ground := Ground.phase }, { on := 6, ground := Ground.phase }, { on := 7, ground := Ground.phase }, { on := 8, ground := Ground.phase }, { on := 9, ground := Ground.phase }, { on := 10, ground := Ground.phase }], guard := none }) (v := ?_) rfl (by kernel_rfl) (by kernel_rfl) (by kernel_rfl) (by kernel_rfl) (fun _ _ _ h => h) (Or.inl ⟨by rfl, ?_⟩) ?_
                          rotate_left
                          · (intro w hE; have a0 := cellb a0 hE; have q0 := cellb q0 hE; (try dsimp only); go_simp); (try with_reducible rfl)
                          try simp only [Act.put, List.setIfInBounds_toArray, List.set_cons_zero, List.set_cons_succ]
                          refine wpAnyE_done (by kernel_rfl) (fun wy1 hE => ?_) _
                          have hbz1 := bthen hbz hE
                          have a0 := cellb a0 hE
                          have q0 := cellb q0 hE
                          clear hE
                          have hA2 := hbz1
                          obtain ⟨X1, hX1⟩ : ∃ v, v = wy1 := ⟨_, rfl⟩
                          rw [← hX1] at hA2 ⊢
                          clear hX1
                          by_cases hk : eg < 0
                          · have HK := Lib.hid (show negB eg = true by simp [negB, hk])
                            have hgg := HG.out
                            rw [HK.out] at hgg
                            obtain ⟨rfl, rfl⟩ : g1 = 0 ∧ g2 = 7 := by simpa using hgg
                            clear hgg
                            go_wp2_with fail
                            go_meet
                            exact ⟨rfl, rfl, rfl, hA2⟩
                          · have HK := Lib.hid (show negB eg = false by simp [negB]; omega)
                            have hgg := HG.out
                            rw [HK.out] at hgg
                            obtain ⟨rfl, rfl⟩ : g1 = eg ∧ g2 = 0 := by simpa using hgg
                            clear hgg
                            go_wp2_with fail
                            go_meet
                            exact ⟨rfl, rfl, rfl, hA2⟩
                        · have z : (bad == 0) = false := by rw [beq_eq_false_iff_ne]; exact h1
                          obtain rfl : m = false := by have := HM.out; rw [bOr, z] at this; exact this
                          have hgg := HG.out
                          rw [z] at hgg
                          obtain ⟨rfl, rfl⟩ : g1 = 0 ∧ g2 = bad := by simpa using hgg
                          clear hgg
                          go_wp2_with fail
                          go_meet
                          exact ⟨rfl, rfl, rfl, hA⟩
                      case rest =>
                        clear hA
                        obtain ⟨rfl, rfl, rfl, hA⟩ := hcut
                        go_upto_if 138 with fail
                        go_cut [16] from 139 to 148 (fun u16 wn => u16 = .int .i64 ce ∧ Below Wa.heap.size Wa wn)
                        case first =>
                          by_cases h1 : three = 0
                          · subst h1
                            obtain rfl : ce = Z := by rw [HCE.out, if_pos rfl]
                            have a0 := cellb A0.out hA
                            have q0 := cellb Q0.out hA
                            have q1 := cellb Q1.out hA
                            have R6b := Lib.hid (R6.out (by trivial) wc (HVa.out.carry hA) (HUa.out.carry hA))
                            go_wp2_with fail
                            refine (R6b.out).mono ?_
                            rintro e X1 ⟨rfl, hb⟩
                            go_wp2_with fail
                            refine (RQ.out X1).mono ?_
                            rintro e X2 ⟨rfl, rfl⟩
                            go_wp2_with fail
                            go_meet
                            exact ⟨rfl, bthen hA hb⟩
                          · have z : (three == 0) = false := by rw [beq_eq_false_iff_ne]; exact h1
                            obtain rfl : ce = three := by rw [HCE.out, if_neg h1]
                            go_wp2_with fail
                            go_meet
                            exact ⟨rfl, hA⟩
                        case rest =>
                          clear hA
                          obtain ⟨rfl, hA⟩ := hcut
                          go_upto_if 149 with fail
                          go_cut [17, 20] from 150 to 160 (fun u17 u20 wn => u17 = .int .i64 av2 ∧ u20 = .int .i64 av1 ∧ Below Wa.heap.size Wa wn)
                          case first =>
                            by_cases h1 : four = 0
                            · subst h1
                              have hvv := HAV.out
                              obtain ⟨rfl, rfl⟩ : av1 = at1 ∧ av2 = at2 := by simpa using hvv
                              clear hvv
                              have a0 := cellb A0.out hA
                              have q2 := cellb Q2.out hA
                              have q3 := cellb Q3.out hA
                              have R7b := Lib.hid (R7.out (by trivial) wc (HVa.out.carry hA) (HUa.out.carry hA) (HZa.out.carry hA))
                              go_wp2_with fail
                              refine (R7b.out).mono ?_
                              rintro e X1 ⟨rfl, hb⟩
                              go_wp2_with fail
                              go_meet
                              exact ⟨rfl, rfl, bthen hA hb⟩
                            · have z : (four == 0) = false := by rw [beq_eq_false_iff_ne]; exact h1
                              have hvv := HAV.out
                              rw [z] at hvv
                              obtain ⟨rfl, rfl⟩ : av1 = 0 ∧ av2 = four := by simpa using hvv
                              clear hvv
                              go_wp2_with fail
                              go_meet
                              exact ⟨rfl, rfl, hA⟩
                          case rest =>
                            clear hA
                            obtain ⟨rfl, rfl, hA⟩ := hcut
                            go_wp2_with fail
                            refine (TAW.out wc (HWa.out.carry hA) (HPa.out.carry hA)).mono ?_
                            rintro e X1 ⟨rfl, hb⟩
                            go_wp2_with fail
                            go_ret
                            exact ⟨rfl, bthen HB.out (bthen hA hb)⟩
      · have hd4 : decide ((ls.length : Int) ≤ 4) = true := decide_eq_true hc4
        have hd9 : decide ((l.length : Int) ≤ 9) = true := decide_eq_true hc9
        go_enter Tryz.func4, Tryz.ntmps4
        go_upto_region 1 with fail
        obtain ⟨W1, hW1⟩ : ∃ v, v = World.alloc w (Obj.cells #[.slice a ls.length cp] 47) := ⟨_, rfl⟩
        have kW1 : Below w.heap.size w W1 := by rw [hW1]; exact below_new _ _
        have iW1 : Blk W1 (w.heap.size) 47 [.slice a ls.length cp] := by rw [hW1]; exact Blk.new _ _ _
        have sW1 : W1.heap.size = w.heap.size + 1 := by rw [hW1]; simp
        rw [← hW1]
        clear hW1
        obtain ⟨Wa, hWa⟩ : ∃ v, v = World.alloc W1 (Obj.cells #[.int .i64 h, .int .i64 ed, .int .i64 b, .slice a3 os.length cp3] 50) := ⟨_, rfl⟩
        have kWa : Below W1.heap.size W1 Wa := by rw [hWa]; exact below_new _ _
        have iWa : Blk Wa (w.heap.size + 1) 50 [.int .i64 h, .int .i64 ed, .int .i64 b, .slice a3 os.length cp3] := by rw [hWa, ← sW1]; exact Blk.new _ _ _
        have sWa : Wa.heap.size = w.heap.size + 1 + 1 := by rw [hWa]; simp [sW1]
        rw [← hWa]
        clear hWa
        have a0 := (iW1.carry kWa).cell (j := 0) (v := .slice a ls.length cp) rfl
        have q0 := iWa.cell (j := 0) (v := .int .i64 h) rfl
        have q1 := iWa.cell (j := 1) (v := .int .i64 ed) rfl
        have q2 := iWa.cell (j := 2) (v := .int .i64 b) rfl
        have q3 := iWa.cell (j := 3) (v := .slice a3 os.length cp3) rfl
        obtain ⟨G1, hG1⟩ : ∃ G, G = w.heap.size + 1 := ⟨_, rfl⟩
        rw [← hG1] at q0 q1 q2 q3 ⊢
        obtain ⟨G0, hG0⟩ : ∃ G, G = w.heap.size := ⟨_, rfl⟩
        rw [← hG0] at a0 ⊢
        have hB := bthen kW1 kWa
        clear iW1 kW1 sW1 iWa kWa sWa hG0 hG1
        have HVa := Lib.hid (HV.out.carry hB)
        have HUa := Lib.hid (HU.out.carry hB)
        have HZa := Lib.hid (HZ.out.carry hB)
        have HWa := Lib.hid (hw.carry hB)
        have HPa := Lib.hid (hp.carry hB)
        have HB := Lib.hid hB
        clear hB
        have S0b := Lib.hid (S0.out Wa HVa.out)
        rw [hd4] at S0b
        have hd13 : decide ((13 : Int) < (os.length : Int)) = true := decide_eq_true (by omega)
        go_wp2_with fail
        refine (S0b.out).mono ?_
        rintro e Wb ⟨rfl, hA⟩
        have q3 := cellb q3 hA
        have S1b := Lib.hid (S1.out Wb (HUa.out.carry hA))
        rw [hd9] at S1b
        clear S0b S0 S1
        go_wp2_with fail
        refine (S1b.out).mono ?_
        rintro e Wb ⟨rfl, rfl⟩
        clear S1b
        go_wp2_with fail
        refine (TAW.out Wb (HWa.out.carry hA) (HPa.out.carry hA)).mono ?_
        rintro e Wc ⟨rfl, hb⟩
        go_wp2_with fail
        go_ret
        exact ⟨rfl, bthen HB.out (bthen hA hb)⟩
    · have hd4 : decide ((ls.length : Int) ≤ 4) = true := decide_eq_true hc4
      have hd9 : decide ((l.length : Int) ≤ 9) = false := decide_eq_false hc9
      go_enter Tryz.func4, Tryz.ntmps4
      go_upto_region 1 with fail
      obtain ⟨W1, hW1⟩ : ∃ v, v = World.alloc w (Obj.cells #[.slice a ls.length cp] 47) := ⟨_, rfl⟩
      have kW1 : Below w.heap.size w W1 := by rw [hW1]; exact below_new _ _
      have iW1 : Blk W1 (w.heap.size) 47 [.slice a ls.length cp] := by rw [hW1]; exact Blk.new _ _ _
      have sW1 : W1.heap.size = w.heap.size + 1 := by rw [hW1]; simp
      rw [← hW1]
      clear hW1
      obtain ⟨Wa, hWa⟩ : ∃ v, v = World.alloc W1 (Obj.cells #[.int .i64 h, .int .i64 ed, .int .i64 b, .slice a3 os.length cp3] 50) := ⟨_, rfl⟩
      have kWa : Below W1.heap.size W1 Wa := by rw [hWa]; exact below_new _ _
      have iWa : Blk Wa (w.heap.size + 1) 50 [.int .i64 h, .int .i64 ed, .int .i64 b, .slice a3 os.length cp3] := by rw [hWa, ← sW1]; exact Blk.new _ _ _
      have sWa : Wa.heap.size = w.heap.size + 1 + 1 := by rw [hWa]; simp [sW1]
      rw [← hWa]
      clear hWa
      have a0 := (iW1.carry kWa).cell (j := 0) (v := .slice a ls.length cp) rfl
      have q0 := iWa.cell (j := 0) (v := .int .i64 h) rfl
      have q1 := iWa.cell (j := 1) (v := .int .i64 ed) rfl
      have q2 := iWa.cell (j := 2) (v := .int .i64 b) rfl
      have q3 := iWa.cell (j := 3) (v := .slice a3 os.length cp3) rfl
      obtain ⟨G1, hG1⟩ : ∃ G, G = w.heap.size + 1 := ⟨_, rfl⟩
      rw [← hG1] at q0 q1 q2 q3 ⊢
      obtain ⟨G0, hG0⟩ : ∃ G, G = w.heap.size := ⟨_, rfl⟩
      rw [← hG0] at a0 ⊢
      have hB := bthen kW1 kWa
      clear iW1 kW1 sW1 iWa kWa sWa hG0 hG1
      have HVa := Lib.hid (HV.out.carry hB)
      have HUa := Lib.hid (HU.out.carry hB)
      have HZa := Lib.hid (HZ.out.carry hB)
      have HWa := Lib.hid (hw.carry hB)
      have HPa := Lib.hid (hp.carry hB)
      have HB := Lib.hid hB
      clear hB
      have S0b := Lib.hid (S0.out Wa HVa.out)
      rw [hd4] at S0b
      go_wp2_with fail
      refine (S0b.out).mono ?_
      rintro e Wb ⟨rfl, hA⟩
      have q3 := cellb q3 hA
      have S1b := Lib.hid (S1.out Wb (HUa.out.carry hA))
      rw [hd9] at S1b
      clear S0b S0 S1
      go_wp2_with fail
      refine (S1b.out).mono ?_
      rintro e Wb ⟨rfl, rfl⟩
      clear S1b
      go_wp2_with fail
      refine (TAW.out Wb (HWa.out.carry hA) (HPa.out.carry hA)).mono ?_
      rintro e Wc ⟨rfl, hb⟩
      go_wp2_with fail
      go_ret
      exact ⟨rfl, bthen HB.out (bthen hA hb)⟩
  · have hd4 : decide ((ls.length : Int) ≤ 4) = false := decide_eq_false hc4
    go_enter Tryz.func4, Tryz.ntmps4
    go_upto_region 1 with fail
    obtain ⟨W1, hW1⟩ : ∃ v, v = World.alloc w (Obj.cells #[.slice a ls.length cp] 47) := ⟨_, rfl⟩
    have kW1 : Below w.heap.size w W1 := by rw [hW1]; exact below_new _ _
    have iW1 : Blk W1 (w.heap.size) 47 [.slice a ls.length cp] := by rw [hW1]; exact Blk.new _ _ _
    have sW1 : W1.heap.size = w.heap.size + 1 := by rw [hW1]; simp
    rw [← hW1]
    clear hW1
    obtain ⟨Wa, hWa⟩ : ∃ v, v = World.alloc W1 (Obj.cells #[.int .i64 h, .int .i64 ed, .int .i64 b, .slice a3 os.length cp3] 50) := ⟨_, rfl⟩
    have kWa : Below W1.heap.size W1 Wa := by rw [hWa]; exact below_new _ _
    have iWa : Blk Wa (w.heap.size + 1) 50 [.int .i64 h, .int .i64 ed, .int .i64 b, .slice a3 os.length cp3] := by rw [hWa, ← sW1]; exact Blk.new _ _ _
    have sWa : Wa.heap.size = w.heap.size + 1 + 1 := by rw [hWa]; simp [sW1]
    rw [← hWa]
    clear hWa
    have a0 := (iW1.carry kWa).cell (j := 0) (v := .slice a ls.length cp) rfl
    have q0 := iWa.cell (j := 0) (v := .int .i64 h) rfl
    have q1 := iWa.cell (j := 1) (v := .int .i64 ed) rfl
    have q2 := iWa.cell (j := 2) (v := .int .i64 b) rfl
    have q3 := iWa.cell (j := 3) (v := .slice a3 os.length cp3) rfl
    obtain ⟨G1, hG1⟩ : ∃ G, G = w.heap.size + 1 := ⟨_, rfl⟩
    rw [← hG1] at q0 q1 q2 q3 ⊢
    obtain ⟨G0, hG0⟩ : ∃ G, G = w.heap.size := ⟨_, rfl⟩
    rw [← hG0] at a0 ⊢
    have hB := bthen kW1 kWa
    clear iW1 kW1 sW1 iWa kWa sWa hG0 hG1
    have HVa := Lib.hid (HV.out.carry hB)
    have HUa := Lib.hid (HU.out.carry hB)
    have HZa := Lib.hid (HZ.out.carry hB)
    have HWa := Lib.hid (hw.carry hB)
    have HPa := Lib.hid (hp.carry hB)
    have HB := Lib.hid hB
    clear hB
    have S0b := Lib.hid (S0.out Wa HVa.out)
    rw [hd4] at S0b
    go_wp2_with fail
    refine (S0b.out).mono ?_
    rintro e Wb ⟨rfl, hA⟩
    clear S0b S0 S1
    go_wp2_with fail
    refine (TAW.out Wb (HWa.out.carry hA) (HPa.out.carry hA)).mono ?_
    rintro e Wc ⟨rfl, hb⟩
    go_wp2_with fail
    go_ret
    exact ⟨rfl, bthen HB.out (bthen hA hb)⟩
end Go.Proofs.YtlohcnecehlljaaGreatDoor

/- Texts of loops: what the laws share: own, SameLoop, what two Parses tell alike. -/
import Derived.Test.YtfdehcphmmhjaaaGreatDoorLopE
import Derived.Test.YtfdehcphmmhjaaaGreatDoorAwakeE
namespace Go.Proofs.YtfdehcphmmhjaaaGreatDoor
set_option linter.unusedSimpArgs false
set_option linter.unusedVariables false
open Go.RowKit

set_option maxRecDepth 100000 in
set_option maxHeartbeats 2000000 in
theorem own_any (va vb vc vd : Value) (a b c d : List Int) (w : World) (ha : Ints w va a) (hb : Ints w vb b) (hc : Ints w vc c) (hd : Ints w vd d) :
    Calls Tryz.prog 14 #[.agg #[va, vb, vc, vd]] w fun e w' => e = .returned (.agg #[va, vb, vc, vd]) ∧ Below w.heap.size w w' := by
  obtain ⟨xa, ca, rfl, _⟩ := ha
  obtain ⟨xb, cb, rfl, _⟩ := hb
  obtain ⟨xc, cc, rfl, _⟩ := hc
  obtain ⟨xd, cd, rfl, _⟩ := hd
  generalize a.length = na
  generalize b.length = nb
  generalize c.length = nc
  generalize d.length = nd
  go_enter Tryz.func14, Tryz.ntmps14
  go_upto_region 1 with fail
  obtain ⟨W1, hW1⟩ : ∃ v, v = World.alloc w (Obj.cells #[.slice xa na ca, .slice xb nb cb, .slice xc nc cc, .slice xd nd cd] 32) := ⟨_, rfl⟩
  have kW1 : Below w.heap.size w W1 := by rw [hW1]; exact below_new _ _
  have iW1 : Blk W1 (w.heap.size) 32 [.slice xa na ca, .slice xb nb cb, .slice xc nc cc, .slice xd nd cd] := by rw [hW1]; exact Blk.new _ _ _
  have sW1 : W1.heap.size = w.heap.size + 1 := by rw [hW1]; simp
  rw [← hW1]
  clear hW1
  obtain ⟨W2, hW2⟩ : ∃ v, v = World.alloc W1 (Obj.cells #[.slice none 0 0, .slice none 0 0, .slice none 0 0, .slice none 0 0] 24) := ⟨_, rfl⟩
  have kW2 : Below W1.heap.size W1 W2 := by rw [hW2]; exact below_new _ _
  have iW2 : Blk W2 (w.heap.size + 1) 24 [.slice none 0 0, .slice none 0 0, .slice none 0 0, .slice none 0 0] := by rw [hW2, ← sW1]; exact Blk.new _ _ _
  have sW2 : W2.heap.size = w.heap.size + 1 + 1 := by rw [hW2]; simp [sW1]
  rw [← hW2]
  clear hW2
  have b1 := iW1.carry kW2
  have b2 := iW2
  have hB := bthen kW1 kW2
  clear iW1 iW2 kW1 kW2 sW1 sW2
  have e0 := b1.cell (j := 0) (v := .slice xa na ca) rfl
  have e1 := b1.cell (j := 1) (v := .slice xb nb cb) rfl
  have e2 := b1.cell (j := 2) (v := .slice xc nc cc) rfl
  have e3 := b1.cell (j := 3) (v := .slice xd nd cd) rfl
  have e20 := b2.cell (j := 0) (v := .slice none 0 0) rfl
  have e21 := b2.cell (j := 1) (v := .slice none 0 0) rfl
  have e22 := b2.cell (j := 2) (v := .slice none 0 0) rfl
  have e23 := b2.cell (j := 3) (v := .slice none 0 0) rfl
  have f20 := b2.frozen 0
  have f21 := b2.frozen 1
  have f22 := b2.frozen 2
  have f23 := b2.frozen 3
  go_wp2
  have h2 := (((b2.set 0 (.slice xa na ca)).set 1 (.slice xb nb cb)).set 2 (.slice xc nc cc)).set 3 (.slice xd nd cd)
  have hB6 := (((hB.setCell (show w.heap.size ≤ (⟨w.heap.size + 1, 0, none⟩ : Addr).block by simp) (.slice xa na ca)).setCell (show w.heap.size ≤ (⟨w.heap.size + 1, 1, none⟩ : Addr).block by simp) (.slice xb nb cb)).setCell (show w.heap.size ≤ (⟨w.heap.size + 1, 2, none⟩ : Addr).block by simp) (.slice xc nc cc)).setCell (show w.heap.size ≤ (⟨w.heap.size + 1, 3, none⟩ : Addr).block by simp) (.slice xd nd cd)
  generalize (((W2.setCell ⟨w.heap.size + 1, 0, none⟩ (.slice xa na ca)).setCell ⟨w.heap.size + 1, 1, none⟩ (.slice xb nb cb)).setCell ⟨w.heap.size + 1, 2, none⟩ (.slice xc nc cc)).setCell ⟨w.heap.size + 1, 3, none⟩ (.slice xd nd cd) = Z at h2 hB6 ⊢
  have g0 := h2.cell (j := 0) (v := .slice xa na ca) rfl
  have g1 := h2.cell (j := 1) (v := .slice xb nb cb) rfl
  have g2 := h2.cell (j := 2) (v := .slice xc nc cc) rfl
  have g3 := h2.cell (j := 3) (v := .slice xd nd cd) rfl
  exact bodyPost_ret (v := .agg #[.slice xa na ca, .slice xb nb cb, .slice xc nc cc, .slice xd nd cd]) (by simp [results, Tryz.f14, go_sem, g0, g1, g2, g3]) rfl ⟨rfl, hB6⟩
set_option maxRecDepth 100000 in
set_option maxHeartbeats 2000000 in
theorem SameLoop_any (va vb vc vd wa wb wc wd : Value) (a b c d : List Int) (w : World) (ha : Ints w va a) (hb : Ints w vb b) (hc : Ints w vc c) (hd : Ints w vd d) (ga : Ints w wa a) (gb : Ints w wb b) (gc : Ints w wc c) (gd : Ints w wd d)
    (la : a.length ≤ 1000000) (lb : b.length ≤ 1000000) (lc : c.length ≤ 1000000) (ld : d.length ≤ 1000000) :
    Calls Tryz.prog 13 #[.agg #[va, vb, vc, vd], .agg #[wa, wb, wc, wd]] w fun e w' => e = .returned (.bool true) ∧ Below w.heap.size w w' := by
  have TA := Lib.hid (fun (W : World) (h : Below w.heap.size w W) => SameInts_any va wa a a W (ha.carry h) (ga.carry h) (by omega))
  have TB := Lib.hid (fun (W : World) (h : Below w.heap.size w W) => SameInts_any vb wb b b W (hb.carry h) (gb.carry h) (by omega))
  have TC := Lib.hid (fun (W : World) (h : Below w.heap.size w W) => SameInts_any vc wc c c W (hc.carry h) (gc.carry h) (by omega))
  have TD := Lib.hid (fun (W : World) (h : Below w.heap.size w W) => SameInts_any vd wd d d W (hd.carry h) (gd.carry h) (by omega))
  obtain ⟨xa, ca, rfl, _⟩ := ha
  obtain ⟨xb, cb, rfl, _⟩ := hb
  obtain ⟨xc, cc, rfl, _⟩ := hc
  obtain ⟨xd, cd, rfl, _⟩ := hd
  obtain ⟨ya, da, rfl, _⟩ := ga
  obtain ⟨yb, db, rfl, _⟩ := gb
  obtain ⟨yc, dc, rfl, _⟩ := gc
  obtain ⟨yd, dd, rfl, _⟩ := gd
  simp only [decide_true] at TA TB TC TD
  generalize a.length = na at TA la ⊢
  generalize b.length = nb at TB lb ⊢
  generalize c.length = nc at TC lc ⊢
  generalize d.length = nd at TD ld ⊢
  go_enter Tryz.func13, Tryz.ntmps13
  go_upto_region 1 with fail
  obtain ⟨W1, hW1⟩ : ∃ v, v = World.alloc w (Obj.cells #[.slice xa na ca, .slice xb nb cb, .slice xc nc cc, .slice xd nd cd] 24) := ⟨_, rfl⟩
  have kW1 : Below w.heap.size w W1 := by rw [hW1]; exact below_new _ _
  have iW1 : Blk W1 (w.heap.size) 24 [.slice xa na ca, .slice xb nb cb, .slice xc nc cc, .slice xd nd cd] := by rw [hW1]; exact Blk.new _ _ _
  have sW1 : W1.heap.size = w.heap.size + 1 := by rw [hW1]; simp
  rw [← hW1]
  clear hW1
  obtain ⟨W2, hW2⟩ : ∃ v, v = World.alloc W1 (Obj.cells #[.slice ya na da, .slice yb nb db, .slice yc nc dc, .slice yd nd dd] 24) := ⟨_, rfl⟩
  have kW2 : Below W1.heap.size W1 W2 := by rw [hW2]; exact below_new _ _
  have iW2 : Blk W2 (w.heap.size + 1) 24 [.slice ya na da, .slice yb nb db, .slice yc nc dc, .slice yd nd dd] := by rw [hW2, ← sW1]; exact Blk.new _ _ _
  have sW2 : W2.heap.size = w.heap.size + 1 + 1 := by rw [hW2]; simp [sW1]
  rw [← hW2]
  clear hW2
  have b1 := iW1.carry kW2
  have b2 := iW2
  have hB := bthen kW1 kW2
  clear iW1 iW2 kW1 kW2 sW1 sW2
  have a0 := b1.cell (j := 0) (v := .slice xa na ca) rfl
  have a1 := b1.cell (j := 1) (v := .slice xb nb cb) rfl
  have a2 := b1.cell (j := 2) (v := .slice xc nc cc) rfl
  have a3 := b1.cell (j := 3) (v := .slice xd nd cd) rfl
  have e0 := b2.cell (j := 0) (v := .slice ya na da) rfl
  have e1 := b2.cell (j := 1) (v := .slice yb nb db) rfl
  have e2 := b2.cell (j := 2) (v := .slice yc nc dc) rfl
  have e3 := b2.cell (j := 3) (v := .slice yd nd dd) rfl
  clear b1 b2
  go_wp2_with fail
  refine (TA.out W2 hB).mono ?_
  rintro e w1 ⟨rfl, h1⟩
  replace a1 := cellb a1 h1
  replace a2 := cellb a2 h1
  replace a3 := cellb a3 h1
  replace e1 := cellb e1 h1
  replace e2 := cellb e2 h1
  replace e3 := cellb e3 h1
  replace hB := bthen hB h1
  clear a0 e0 h1
  go_wp2_with fail
  refine (TB.out w1 hB).mono ?_
  rintro e w2 ⟨rfl, h1⟩
  replace a2 := cellb a2 h1
  replace a3 := cellb a3 h1
  replace e2 := cellb e2 h1
  replace e3 := cellb e3 h1
  replace hB := bthen hB h1
  clear a1 e1 h1
  go_wp2_with fail
  refine (TC.out w2 hB).mono ?_
  rintro e w3 ⟨rfl, h1⟩
  replace a3 := cellb a3 h1
  replace e3 := cellb e3 h1
  replace hB := bthen hB h1
  clear a2 e2 h1
  go_wp2_with fail
  refine (TD.out w3 hB).mono ?_
  rintro e w4 ⟨rfl, h1⟩
  replace hB := bthen hB h1
  clear a3 e3 h1
  go_wp2
  go_ret
  exact ⟨rfl, hB⟩
/-- what every Parse of a text tells. -/
def Told (L : List UInt8) (n c : Int) (q0 q1 q2 q3 : List Int) : Prop := ∀ e W', ParsePost L e W' → ∃ a0 a1 a2 a3 k0 k1 k2 k3, e = .returned (.tuple #[.agg #[.slice a0 q0.length k0, .slice a1 q1.length k1, .slice a2 q2.length k2, .slice a3 q3.length k3], .int .i64 n, .int .i64 c]) ∧
  Ints W' (.slice a0 q0.length k0) q0 ∧ Ints W' (.slice a1 q1.length k1) q1 ∧ Ints W' (.slice a2 q2.length k2) q2 ∧ Ints W' (.slice a3 q3.length k3) q3
theorem told_zero {L : List UInt8} {n c : Int} (h : ∀ e W', ParsePost L e W' → e = .returned (.tuple #[zeroL, .int .i64 n, .int .i64 c])) : Told L n c [] [] [] [] := fun e W' hp =>
  ⟨none, none, none, none, 0, 0, 0, 0, h e W' hp, Ints.nil _, Ints.nil _, Ints.nil _, Ints.nil _⟩
/-- Parse's answer: an error, or a loop whose text it is. -/
theorem parse_told (L : List UInt8) : (∃ n c : Int, c ≠ 0 ∧ Told L n c [] [] [] []) ∨
    (∃ f : Nat → List Int, checkLoopE (f 0) (f 1) (f 2) (f 3) = 0 ∧ (printT 4 f).data.toList = L ∧ Told L 0 0 (f 0) (f 1) (f 2) (f 3)) := by
  by_cases hlt : 4096 < L.length
  · exact .inl ⟨0, 26, by decide, told_zero fun e W' h => by unfold ParsePost at h; rw [if_pos hlt] at h; exact h⟩
  · cases hb : badN (linesL L) with
    | some n => exact .inl ⟨n, 25, by decide, told_zero fun e W' h => by unfold ParsePost at h; rw [if_neg hlt, hb] at h; exact h⟩
    | none =>
      by_cases h4 : (linesL L).length < 4
      · exact .inl ⟨_, 2, by decide, told_zero fun e W' h => by unfold ParsePost at h; rw [if_neg hlt, hb] at h; simp only at h; rw [if_pos h4] at h; exact h⟩
      · have hl := badN_len hb
        by_cases hz : checkLoopE (polyN (linesL L) 0) (polyN (linesL L) 1) (polyN (linesL L) 2) (polyN (linesL L) 3) = 0
        · refine .inr ⟨polyN (linesL L), hz, print_parse hb (by omega), fun e W' h => ?_⟩
          unfold ParsePost at h
          rw [if_neg hlt, hb] at h
          simp only at h
          rw [if_neg h4, if_pos hz] at h
          obtain ⟨u0, u1, u2, u3, rfl, i0, i1, i2, i3⟩ := h
          obtain ⟨a0, k0, rfl, _⟩ := id i0
          obtain ⟨a1, k1, rfl, _⟩ := id i1
          obtain ⟨a2, k2, rfl, _⟩ := id i2
          obtain ⟨a3, k3, rfl, _⟩ := id i3
          exact ⟨a0, a1, a2, a3, k0, k1, k2, k3, rfl, i0, i1, i2, i3⟩
        · exact .inl ⟨_, _, hz, told_zero fun e W' h => by unfold ParsePost at h; rw [if_neg hlt, hb] at h; simp only at h; rw [if_neg h4, if_neg hz] at h; exact h⟩
theorem four_rng {f : Nat → List Int} (h : checkLoopE (f 0) (f 1) (f 2) (f 3) = 0) : ∀ k, k < 4 → f k ≠ [] ∧ (f k).length ≤ 5 ∧ ∀ x ∈ f k, -1000000000 < x ∧ x < 1000000000 := fun k hk => by
  obtain ⟨h1, h2, h3, h4⟩ := checkLoopE_ok h
  have hp : checkPolyE (f k) = 0 := by
    obtain rfl | rfl | rfl | rfl : k = 0 ∨ k = 1 ∨ k = 2 ∨ k = 3 := by omega
    all_goals assumption
  have r1 := checkPolyE_range hp
  have r2 := checkPolyE_ok hp
  refine ⟨fun e => by rw [e] at r2; have := r2.1; simp at this, r2.2, fun x hx => by have := r1.1 x hx; omega⟩
theorem told_len {f : Nat → List Int} (h : checkLoopE (f 0) (f 1) (f 2) (f 3) = 0) : (f 0).length ≤ 5 ∧ (f 1).length ≤ 5 ∧ (f 2).length ≤ 5 ∧ (f 3).length ≤ 5 :=
  ⟨(four_rng h 0 (by omega)).2.1, (four_rng h 1 (by omega)).2.1, (four_rng h 2 (by omega)).2.1, (four_rng h 3 (by omega)).2.1⟩
/-- a loop's own text. -/
theorem parse_own {f : Nat → List Int} (h : checkLoopE (f 0) (f 1) (f 2) (f 3) = 0) (hl : (printT 4 f).data.toList.length ≤ 4096) : Told (printT 4 f).data.toList 0 0 (f 0) (f 1) (f 2) (f 3) := fun e W' hp => by
  obtain ⟨p1, p2, p3⟩ := parse_print (f := f) (fun k hk => ⟨(four_rng h k hk).1, (four_rng h k hk).2.2⟩)
  unfold ParsePost at hp
  rw [if_neg (by omega), p1] at hp
  simp only at hp
  rw [if_neg (by omega), p3 0 (by omega), p3 1 (by omega), p3 2 (by omega), p3 3 (by omega), if_pos h] at hp
  obtain ⟨u0, u1, u2, u3, rfl, i0, i1, i2, i3⟩ := hp
  obtain ⟨a0, k0, rfl, _⟩ := id i0
  obtain ⟨a1, k1, rfl, _⟩ := id i1
  obtain ⟨a2, k2, rfl, _⟩ := id i2
  obtain ⟨a3, k3, rfl, _⟩ := id i3
  exact ⟨a0, a1, a2, a3, k0, k1, k2, k3, rfl, i0, i1, i2, i3⟩
theorem parse_cut {f : Nat → List Int} (h : checkLoopE (f 0) (f 1) (f 2) (f 3) = 0) (hl : (printT 4 f).data.toList.length ≤ 4096) (t : List UInt8) (ht : t = (printT 4 f).data.toList.dropLast) : Told t 3 25 [] [] [] [] := told_zero fun e W' hp => by
  have p1 := parse_short (f := f) (fun k hk => ⟨(four_rng h k hk).1, (four_rng h k hk).2.2⟩)
  unfold ParsePost at hp
  rw [ht, if_neg (by rw [List.length_dropLast]; omega), p1] at hp
  exact hp
end Go.Proofs.YtfdehcphmmhjaaaGreatDoor

/- The law LoopSteps. -/
import Derived.Test.YtnlmaildmeihgaaGreatDoorRefC
import Derived.Test.YtnlmaildmeihgaaGreatDoorAwakeE
namespace Go.Proofs.YtnlmaildmeihgaaGreatDoor
open Go.RowKit

/-- two results of one contract agree: the comparison of both lists, of both errors, and the examples. -/
theorem steppedR_length (p l : List Int) (steps : Int) : (steppedR p l steps).length ≤ 1000000 := by
  have hL : ∀ n t out, stepL p l n t = some out → out.length = t := by
    intro n t
    induction t with
    | zero => intro out h; cases h; rfl
    | succ t ih =>
      intro out h
      rw [stepL] at h
      cases hq : stepL p l n t with
      | none => rw [hq] at h; cases h
      | some o =>
        rw [hq] at h
        simp only at h
        split at h
        · cases h; simp [ih o hq]
        · cases h
  unfold steppedR
  split
  · simp
  · split
    · simp
    · rename_i h1 h2
      have hp := checkPolyE_ok (by simpa using h1 : checkPolyE p = 0)
      have h2 : step2E p l steps = 0 := by simpa using h2
      unfold step2E at h2
      obtain ⟨_, h2⟩ := firstE_cons_ok h2
      obtain ⟨_, h2⟩ := firstE_cons_ok h2
      obtain ⟨h2, _⟩ := firstE_cons_ok h2
      have hs := withinE_ok h2
      cases hq : stepL p l (p.length - 1) (p.length - 1 + steps.toNat) with
      | none => simp
      | some o => have := hL _ _ _ hq; simp; omega

set_option maxRecDepth 100000 in
set_option maxHeartbeats 2000000 in
theorem stp_law (vp vl : Value) (p l : List Int) (steps : Int) (w : World) (hq : Quarters w) (hpw : Pows w) (hp : Ints w vp p) (hl : Ints w vl l) :
    Calls Tryz.prog 6 #[vp, vl, .int .i64 steps] w fun e w' => e = .returned (.bool true) ∧ Below w.heap.size w w' := by
  have HP := Lib.hid hp
  have HL := Lib.hid hl
  have TA := Lib.hid (awake_any w hq hpw)
  have hlen := steppedR_length p l steps
  obtain ⟨ap, cp, rfl, _⟩ := hp
  obtain ⟨al, cl, rfl, _⟩ := hl
  by_cases h1 : 7 < p.length
  · have h1' : (7 : Int) < (p.length : Int) := by omega
    go_enter Tryz.func6, Tryz.ntmps6
    go_wp2_with fail
    refine TA.out.mono ?_
    rintro e w1 ⟨rfl, hb⟩
    go_wp2
    go_ret
    exact ⟨rfl, hb⟩
  · have h1' : ¬ (7 : Int) < (p.length : Int) := by omega
    by_cases h2 : 7 < l.length
    · have h2' : (7 : Int) < (l.length : Int) := by omega
      go_enter Tryz.func6, Tryz.ntmps6
      go_wp2_with fail
      refine TA.out.mono ?_
      rintro e w1 ⟨rfl, hb⟩
      go_wp2
      go_ret
      exact ⟨rfl, hb⟩
    · have h2' : ¬ (7 : Int) < (l.length : Int) := by omega
      clear TA
      go_enter Tryz.func6, Tryz.ntmps6
      go_wp2_with fail
      refine (polyL_any _ p w HP.out (by omega)).mono ?_
      rintro e w1 ⟨⟨u1, rfl, hu1⟩, hb1⟩
      go_wp2_with fail
      refine (intsL_any _ l w1 (HL.out.carry hb1) (by omega)).mono ?_
      rintro e w2 ⟨⟨u2, rfl, hu2⟩, hb2⟩
      have hB2 := bthen hb1 hb2
      go_wp2_with fail
      refine (Stepped_any u1 u2 p l steps w2 (hu1.carry hb2) hu2 (by omega) (by omega)).mono ?_
      rintro e w3 ⟨⟨u3, rfl, hu3⟩, hb3⟩
      have hB3 := bthen hB2 hb3
      go_wp2_with fail
      refine (SteppedR_any _ _ p l steps w3 (HP.out.carry hB3) (HL.out.carry hB3) (by omega) (by omega)).mono ?_
      rintro e w4 ⟨⟨u4, rfl, hu4⟩, hb4⟩
      have hB4 := bthen hB3 hb4
      generalize steppedE p l steps = ee
      go_wp2_with fail
      refine (sameInts u3 u4 _ w4 (hu3.carry hb4) hu4 hlen).mono ?_
      rintro e w5 ⟨rfl, hb5⟩
      have hB5 := bthen hB4 hb5
      go_wp2_with fail
      refine (awake_any w5 (hq.below hB5 hq.size) (hpw.below hB5)).mono ?_
      rintro e w6 ⟨rfl, hb6⟩
      go_wp2
      go_ret
      exact ⟨rfl, bthen hB5 hb6⟩

end Go.Proofs.YtnlmaildmeihgaaGreatDoor

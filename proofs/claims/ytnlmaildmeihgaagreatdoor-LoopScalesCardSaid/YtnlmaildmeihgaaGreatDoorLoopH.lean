import Derived.Test.YtnlmaildmeihgaaGreatDoorLoopG
namespace Go.Proofs.YtnlmaildmeihgaaGreatDoor
open Go.RowKit

/-- what Closed, Product and their like hand back: a list and an error. -/
def GivesPoly (w : World) (l : List Int) (e : Int) (r : Ending) (w' : World) : Prop := (∃ u, r = .returned (.tuple #[u, .int .i64 e]) ∧ Ints w' u l) ∧ Below w.heap.size w w'

def closedR (a b c d : List Int) : List Int := if checkLoopE a b c d ≠ 0 then [] else closedW a b c d

theorem checkLoopE_ok {a b c d : List Int} (h : checkLoopE a b c d = 0) : checkPolyE a = 0 ∧ checkPolyE b = 0 ∧ checkPolyE c = 0 ∧ checkPolyE d = 0 := by
  unfold checkLoopE at h
  split at h
  · exact absurd h (by assumption)
  · rename_i h1; exact loop1E_ok (by simpa using h1)

set_option maxHeartbeats 1000000 in
theorem Closed_any (va vb vc vd : Value) (a b c d : List Int) (w : World) (ha : Ints w va a) (hb : Ints w vb b) (hc : Ints w vc c) (hd : Ints w vd d)
    (ha2 : a.length ≤ 100000) (hb2 : b.length ≤ 100000) (hc2 : c.length ≤ 100000) (hd2 : d.length ≤ 100000) :
    Calls Tryz.prog 26 #[.agg #[va, vb, vc, vd]] w (GivesPoly w (closedR a b c d) (checkLoopE a b c d)) := by
  have hbW : Below w.heap.size w (w.alloc (.cells #[va, vb, vc, vd] 44)) := (Below.refl _ _).alloc (Nat.le_refl _) _
  have h4 := Four.new w 44 va vb vc vd
  have tc := CheckLoop_any va vb vc vd a b c d _ (ha.below hbW) (hb.below hbW) (hc.below hbW) (hd.below hbW) ha2 hb2 hc2 hd2
  have TC := Lib.hid tc
  clear tc
  obtain ⟨W, hW⟩ : ∃ W, W = w.alloc (.cells #[va, vb, vc, vd] 44) := ⟨_, rfl⟩
  by_cases he : checkLoopE a b c d = 0
  · obtain ⟨ea, eb, ec, ed⟩ := checkLoopE_ok he
    have ⟨a1, a5⟩ := checkPolyE_ok ea
    have ⟨b1, b5⟩ := checkPolyE_ok eb
    have ⟨c1, c5⟩ := checkPolyE_ok ec
    have ⟨d1, d5⟩ := checkPolyE_ok ed
    clear ea eb ec ed
    have hF := h4
    obtain ⟨k0, k1, k2, k3⟩ := h4
    go_enter Tryz.func26, Tryz.ntmps26
    go_wp2_with fail
    rw [← hW] at hF k0 k1 k2 k3 hbW TC ⊢
    clear hW
    refine TC.out.mono ?_
    rw [he]
    have HE := Lib.hid he
    clear he
    rintro e w2 ⟨rfl, h2⟩
    have hF2 := hF.below h2
    clear hF k0 k1 k2 k3 TC
    obtain ⟨k0, k1, k2, k3⟩ := hF2
    have b2 := bthen hbW h2
    have t2 := closed_any va vb vc vd a b c d w2 (ha.below b2) (hb.below b2) (hc.below b2) (hd.below b2) a1 b1 c1 d1 ha2 hb2 hc2 hd2
    have T2 := Lib.hid t2
    clear t2
    go_wp2_with fail
    refine T2.out.mono ?_
    rintro e w3 ⟨⟨u, rfl, hu⟩, h3⟩
    go_wp2
    go_ret2
    exact ⟨⟨u, by rw [HE.out]; rfl, by rw [closedR, if_neg (by rw [HE.out]; simp)]; exact hu⟩, bthen b2 h3⟩
  · obtain ⟨k0, k1, k2, k3⟩ := h4
    go_enter Tryz.func26, Tryz.ntmps26
    go_wp2_with fail
    rw [← hW] at k0 k1 k2 k3 hbW TC ⊢
    clear hW
    refine TC.out.mono ?_
    rintro e w2 ⟨rfl, h2⟩
    go_wp2
    go_ret2
    exact ⟨⟨_, rfl, by rw [closedR, if_pos he]; exact Ints.nil _⟩, bthen hbW h2⟩

end Go.Proofs.YtnlmaildmeihgaaGreatDoor

import Derived.Test.YtnlmaildmeihgaaGreatDoorLoopE
namespace Go.Proofs.YtnlmaildmeihgaaGreatDoor
open Go.RowKit

/-- a call that hands back a slice that holds l, in new memory. -/
def GivesInts (w : World) (l : List Int) (r : Ending) (w' : World) : Prop := (∃ u, r = .returned u ∧ Ints w' u l) ∧ Below w.heap.size w w'

theorem times_i (vp vq : Value) (p q : List Int) (w : World) (hp : Ints w vp p) (hq : Ints w vq q) (hp1 : 1 ≤ p.length) (hq1 : 1 ≤ q.length) (hp2 : p.length ≤ 1000000) (hq2 : q.length ≤ 1000000) :
    Calls Tryz.prog 120 #[vp, vq] w (GivesInts w (timesW p q)) :=
  (times_any vp vq p q w hp hq hp1 hq1 hp2 hq2).mono fun _ _ ⟨h1, h2⟩ => by
    subst h2
    refine ⟨⟨_, h1, ?_⟩, (Below.refl _ _).alloc (Nat.le_refl _) _⟩
    rw [← timesW_length]
    exact Ints.ofIa w _ _

theorem plus_i (vp vq : Value) (p q : List Int) (w : World) (hp : Ints w vp p) (hq : Ints w vq q) (hp2 : p.length ≤ 1000000) (hq2 : q.length ≤ 1000000) :
    Calls Tryz.prog 121 #[vp, vq] w (GivesInts w (plusW p q)) := by
  have hp' := hp
  have hq' := hq
  obtain ⟨ap, cp, rfl, _⟩ := hp'
  obtain ⟨aq, cq, rfl, _⟩ := hq'
  exact (plus_any ap aq cp cq p q w hp hq hp2 hq2).mono fun _ _ ⟨h1, h2⟩ => by
    subst h2
    exact ⟨⟨_, h1, Ints.plus w _ p q _ _ rfl rfl⟩, (Below.refl _ _).alloc (Nat.le_refl _) _⟩

def closedW (a b c d : List Int) : List Int := plusW (timesW b d) (timesW a c)

set_option maxHeartbeats 1000000 in
theorem closed_any (va vb vc vd : Value) (a b c d : List Int) (w : World) (ha : Ints w va a) (hb : Ints w vb b) (hc : Ints w vc c) (hd : Ints w vd d)
    (ha1 : 1 ≤ a.length) (hb1 : 1 ≤ b.length) (hc1 : 1 ≤ c.length) (hd1 : 1 ≤ d.length) (ha2 : a.length ≤ 100000) (hb2 : b.length ≤ 100000) (hc2 : c.length ≤ 100000) (hd2 : d.length ≤ 100000) :
    Calls Tryz.prog 98 #[.agg #[va, vb, vc, vd]] w (GivesInts w (closedW a b c d)) := by
  go_enter Tryz.func98, Tryz.ntmps98
  go_wp2_with fail
  have hbW : Below w.heap.size w (w.alloc (.cells #[va, vb, vc, vd] 44)) := (Below.refl _ _).alloc (Nat.le_refl _) _
  have h4 := Four.new w 44 va vb vc vd
  obtain ⟨W, hW⟩ : ∃ W, W = w.alloc (.cells #[va, vb, vc, vd] 44) := ⟨_, rfl⟩
  rw [← hW] at hbW h4 ⊢
  clear hW
  have hF := Lib.hid h4
  obtain ⟨k0, k1, k2, k3⟩ := h4
  have hT1 := times_i vb vd b d W.drew (hb.below hbW).drew (hd.below hbW).drew hb1 hd1 (by omega) (by omega)
  go_region_held3 (fun w' => w'.cell? ⟨w.heap.size, 0, none⟩ = some va ∧ w'.cell? ⟨w.heap.size, 1, none⟩ = some vb ∧ w'.cell? ⟨w.heap.size, 2, none⟩ = some vc ∧ w'.cell? ⟨w.heap.size, 3, none⟩ = some vd) (first | go_keep | exact Four.below hF.out hb2 | exact (Four.below hF.out hb2).below hb3 | exact ((Four.below hF.out hb2).below hb3).below hb4)
    (first | (go_at_call 120; (with_reducible refine hT1.mono ?_); rintro e w2 ⟨⟨u, rfl, hu⟩, hb2'⟩; have hb2 := below_drew hb2'; clear hb2') | (go_at_call 120; (with_reducible refine (times_i va vc a c _ ?_ ?_ ha1 hc1 ?_ ?_).mono ?_); (exact ha.below (hbW.trans (hb2.mono hbW.size))); (exact hc.below (hbW.trans (hb2.mono hbW.size))); omega; omega; rintro e w3 ⟨⟨u', rfl, hu'⟩, hb3⟩) | (go_at_call 121; (with_reducible refine (plus_i _ _ _ _ _ (hu.below hb3) hu' ?_ ?_).mono ?_); (rw [timesW_length]; omega); (rw [timesW_length]; omega); rintro e w4 ⟨⟨u2, rfl, hu2⟩, hb4⟩))
  go_wp2
  go_ret
  exact ⟨⟨_, rfl, hu2⟩, ((hbW.trans (hb2.mono hbW.size)).trans (hb3.mono (Nat.le_trans hbW.size hb2.size))).trans (hb4.mono (Nat.le_trans (Nat.le_trans hbW.size hb2.size) hb3.size))⟩

end Go.Proofs.YtnlmaildmeihgaaGreatDoor

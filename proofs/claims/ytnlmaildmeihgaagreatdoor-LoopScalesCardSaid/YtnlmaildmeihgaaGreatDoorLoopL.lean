import Derived.Test.YtnlmaildmeihgaaGreatDoorLoopK
namespace Go.Proofs.YtnlmaildmeihgaaGreatDoor
open Go.RowKit

theorem fitting_yes (v : Value) (l : List Int) (w : World) (hl : l.length ≤ 1000000000) (hv : Ints w v l) (hg : l.any largeB = true) :
    Calls Tryz.prog 93 #[v] w fun r w' => r = .returned (.tuple #[.slice none 0 0, .int .i64 4]) ∧ w = w' := by
  have h := fitting_any v l w hl hv
  rw [if_pos hg, if_pos hg] at h
  exact h
theorem fitting_no (v : Value) (l : List Int) (w : World) (hl : l.length ≤ 1000000000) (hv : Ints w v l) (hg : ¬ l.any largeB = true) :
    Calls Tryz.prog 93 #[v] w fun r w' => r = .returned (.tuple #[v, .int .i64 0]) ∧ w = w' := by
  have h := fitting_any v l w hl hv
  rw [if_neg hg, if_neg hg] at h
  exact h

def prod1E (p q : List Int) : Int := firstE [checkPolyE p, checkPolyE q]
def prodE (p q : List Int) : Int := if prod1E p q ≠ 0 then prod1E p q else if 5 < (timesW p q).length then 5 else if (timesW p q).any largeB then 4 else 0
def prodR (p q : List Int) : List Int := if prodE p q ≠ 0 then [] else timesW p q

set_option maxHeartbeats 1000000 in
theorem Product_any (vp vq : Value) (p q : List Int) (w : World) (hp : Ints w vp p) (hq : Ints w vq q) (hp2 : p.length ≤ 100000) (hq2 : q.length ≤ 100000) :
    Calls Tryz.prog 64 #[vp, vq] w (GivesPoly w (prodR p q) (prodE p q)) := by
  go_enter Tryz.func64, Tryz.ntmps64
  go_wp2_with fail
  refine (CheckPoly_any vp p w (by omega) hp).mono ?_
  rintro e w1 ⟨rfl, h1⟩
  go_wp2_with fail
  refine (CheckPoly_any vq q w1 (by omega) (hq.below h1)).mono ?_
  rintro e w2 ⟨rfl, h2⟩
  go_wp2_with fail
  refine (first2 _ _ _ _).mono ?_
  rintro e w' ⟨rfl, rfl⟩
  have h3 := bthen (bthen h1 h2) (below_new w2 (.cells #[.int .i64 (checkPolyE p), .int .i64 (checkPolyE q)] 27))
  obtain ⟨V, hV⟩ : ∃ V, V = w2.alloc (.cells #[.int .i64 (checkPolyE p), .int .i64 (checkPolyE q)] 27) := ⟨_, rfl⟩
  rw [← hV] at h3 ⊢
  clear hV h1 h2
  have hE : firstE [checkPolyE p, checkPolyE q] = prod1E p q := rfl
  rw [hE]
  by_cases he : prod1E p q = 0
  · obtain ⟨ep, eq⟩ := firstE_cons_ok (he ▸ hE)
    obtain ⟨eq, _⟩ := firstE_cons_ok eq
    have ⟨p1, p5⟩ := checkPolyE_ok ep
    have ⟨q1, q5⟩ := checkPolyE_ok eq
    clear ep eq hE
    rw [he]
    have HE := Lib.hid he
    clear he
    have tt := times_any vp vq p q V (hp.below h3) (hq.below h3) p1 q1 (by omega) (by omega)
    have hlen := timesW_length p q
    have HL := Lib.hid hlen
    have hR : prodE p q = if 5 < (timesW p q).length then 5 else if (timesW p q).any largeB then 4 else 0 := by rw [prodE, if_neg (by rw [HE.out]; simp)]
    have HR := Lib.hid hR
    have TT := Lib.hid tt
    have hb4 := bthen h3 (below_new V (.cells (ia (timesW p q)) 3))
    have hi := Ints.ofIa V 3 (timesW p q)
    rw [hlen] at hi
    clear hR tt hlen
    by_cases h5 : 5 < p.length + q.length - 1
    · have hb : decide ((5 : Int) < ((p.length + q.length - 1 : Nat) : Int)) = true := by simp; omega
      go_wp2_with fail
      refine TT.out.mono ?_
      rintro e w' ⟨rfl, rfl⟩
      go_wp2
      go_ret2
      have hE5 : prodE p q = 5 := by rw [HR.out, HL.out, if_pos h5]
      exact ⟨⟨_, by rw [hE5]; rfl, by rw [prodR, if_pos (by rw [hE5]; simp)]; exact Ints.nil _⟩, hb4⟩
    · have hb : decide ((5 : Int) < ((p.length + q.length - 1 : Nat) : Int)) = false := by simp; omega
      go_wp2_with fail
      refine TT.out.mono ?_
      rintro e w' ⟨rfl, rfl⟩
      have hE5 : prodE p q = if (timesW p q).any largeB then 4 else 0 := by rw [HR.out, HL.out, if_neg h5]
      by_cases hg : (timesW p q).any largeB = true
      · rw [if_pos hg] at hE5
        have HE5 := Lib.hid hE5
        have HG := Lib.hid hg
        clear hE5 hg
        go_wp2_with fail
        refine (fitting_yes _ (timesW p q) _ (by rw [HL.out]; omega) hi HG.out).mono ?_
        rintro e w' ⟨rfl, rfl⟩
        go_wp2
        go_ret2
        exact ⟨⟨_, by rw [HE5.out]; rfl, by rw [prodR, if_pos (by rw [HE5.out]; simp)]; exact Ints.nil _⟩, hb4⟩
      · rw [if_neg hg] at hE5
        have HE5 := Lib.hid hE5
        have HG := Lib.hid hg
        clear hE5 hg
        go_wp2_with fail
        refine (fitting_no _ (timesW p q) _ (by rw [HL.out]; omega) hi HG.out).mono ?_
        rintro e w' ⟨rfl, rfl⟩
        go_wp2
        go_ret2
        exact ⟨⟨_, by rw [HE5.out]; rfl, by rw [prodR, if_neg (by rw [HE5.out]; simp)]; exact hi⟩, hb4⟩
  · go_wp2
    go_ret2
    have hE5 : prodE p q = prod1E p q := by rw [prodE, if_pos he]
    exact ⟨⟨_, by rw [hE5]; rfl, by rw [prodR, if_pos (by rw [hE5]; exact he)]; exact Ints.nil _⟩, h3⟩

set_option maxHeartbeats 400000 in
theorem checkFirst1_any (x : Int) (w : World) :
    Calls Tryz.prog 152 #[.int .i64 x] w fun r w' => r = .returned (.int .i64 (withinE x (-1000) 1000)) ∧ w = w' := by
  go_enter Tryz.func152, Tryz.ntmps152
  go_wp2_with fail
  refine (within_any _ _ _ _).mono ?_
  rintro e w' ⟨rfl, rfl⟩
  go_wp2
  go_ret
  exact ⟨rfl, rfl⟩

theorem Tryz.enterCheckFirst1 (args : Array Value) (w : World) : Sem.run Tryz.prog (callFunc 152 args) w = .ok (.enter 152 args) w :=
  MuLone.run_callFunc_enter Tryz.func152 (by kernel_rfl) rfl args w

def checkFirstE (p l : List Int) : Int := if l.length + 1 ≠ p.length then 2 else firstE (l.map fun x => withinE x (-1000) 1000)

set_option maxHeartbeats 400000 in
theorem checkFirst_any (vp vl : Value) (p l : List Int) (w : World) (hp : Ints w vp p) (hl : Ints w vl l) (hp2 : p.length ≤ 1000000) (hl2 : l.length ≤ 100000) :
    Calls Tryz.prog 112 #[vp, vl] w fun r w' => r = .returned (.int .i64 (checkFirstE p l)) ∧ Below w.heap.size w w' := by
  have hl0 := hl
  obtain ⟨al, cl, rfl, _, _⟩ := hl
  have dp := degree_i hp hp2
  by_cases h : l.length + 1 = p.length
  · have hb : ((l.length : Int) != (p.length : Int) - 1) = false := by rw [bne_eq_false_iff_eq]; omega
    go_enter Tryz.func112, Tryz.ntmps112
    go_wp2_with fail
    refine (dp _).mono ?_
    rintro e w' ⟨rfl, rfl⟩
    go_wp2_with fail
    refine (mappedE_any 152 #[] Tryz.enterCheckFirst1 (fun x => withinE x (-1000) 1000) _ l _ (by omega) hl0 (fun x _ w1 _ => checkFirst1_any x w1)).mono ?_
    rintro e w1 ⟨⟨u, rfl, hu⟩, hb2⟩
    go_wp2_with fail
    refine (first_any _ _ _ (by simp; unfold maxLen; omega) hu).mono ?_
    rintro e w' ⟨rfl, rfl⟩
    go_wp2
    go_ret
    exact ⟨ret_int (by rw [checkFirstE, if_neg (by omega)]), hb2⟩
  · have hb : ((l.length : Int) != (p.length : Int) - 1) = true := by rw [bne_iff_ne]; omega
    go_enter Tryz.func112, Tryz.ntmps112
    go_wp2_with fail
    refine (dp _).mono ?_
    rintro e w' ⟨rfl, rfl⟩
    go_wp2
    go_ret
    exact ⟨ret_int (by rw [checkFirstE, if_pos h]), Below.refl _ _⟩

end Go.Proofs.YtnlmaildmeihgaaGreatDoor

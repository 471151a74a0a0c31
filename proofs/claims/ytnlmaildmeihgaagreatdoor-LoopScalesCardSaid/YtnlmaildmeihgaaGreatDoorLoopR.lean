/- Table, Stable, Sum, Degree. -/
import Derived.Test.YtnlmaildmeihgaaGreatDoorCertify
namespace Go.Proofs.YtnlmaildmeihgaaGreatDoor
open Go.RowKit

theorem checkPolyE_len {p : List Int} (h : checkPolyE p = 0) : p.length ≤ 1000 := by have := checkPolyE_ok h; omega

def tableR (p : List Int) : List (List Int) := if checkPolyE p ≠ 0 then [] else tableW p

set_option maxHeartbeats 400000 in
theorem Table_any (v : Value) (p : List Int) (w : World) (hv : Ints w v p) (hl : p.length ≤ 1000000) :
    Calls Tryz.prog 74 #[v] w fun e w' => (∃ u, e = .returned (.tuple #[u, .int .i64 (checkPolyE p)]) ∧ RowsOf w' u (tableR p)) ∧ Below w.heap.size w w' := by
  go_enter Tryz.func74, Tryz.ntmps74
  go_wp2_with fail
  refine (CheckPoly_any v p w (by omega) hv).mono ?_
  rintro e w1 ⟨rfl, hb⟩
  by_cases he : checkPolyE p = 0
  · have HR := Lib.hid (show tableR p = tableW p by rw [tableR, if_neg (by rw [he]; simp)])
    have HE := Lib.hid he
    rw [he]
    clear he
    go_wp2_with fail
    refine (table_any v p w1 (hv.carry hb) hl).mono ?_
    rintro e w2 ⟨⟨u, rfl, hu⟩, hb2⟩
    go_wp2
    go_ret2
    exact ⟨⟨_, by rw [HE.out]; rfl, by rw [HR.out]; exact hu⟩, bthen hb hb2⟩
  · have HR := Lib.hid (show tableR p = [] by rw [tableR, if_pos he])
    go_wp2
    go_ret2
    exact ⟨⟨_, rfl, by rw [HR.out]; exact RowsOf.nil _⟩, hb⟩

def stableR (p : List Int) : Bool := if checkPolyE p ≠ 0 then false else stableB p

set_option maxHeartbeats 400000 in
theorem Stable_any (v : Value) (p : List Int) (w : World) (hv : Ints w v p) (hl : p.length ≤ 1000000) :
    Calls Tryz.prog 58 #[v] w fun e w' => e = .returned (.tuple #[.bool (stableR p), .int .i64 (checkPolyE p)]) ∧ Below w.heap.size w w' := by
  go_enter Tryz.func58, Tryz.ntmps58
  go_wp2_with fail
  refine (CheckPoly_any v p w (by omega) hv).mono ?_
  rintro e w1 ⟨rfl, hb⟩
  by_cases he : checkPolyE p = 0
  · have HR := Lib.hid (show stableR p = stableB p by rw [stableR, if_neg (by rw [he]; simp)])
    have HE := Lib.hid he
    rw [he]
    clear he
    go_wp2_with fail
    refine (isStable_any v p w1 (hv.carry hb) hl).mono ?_
    rintro e w2 ⟨rfl, hb2⟩
    go_wp2
    go_ret2
    exact ⟨by rw [HR.out, HE.out]; rfl, bthen hb hb2⟩
  · have HR := Lib.hid (show stableR p = false by rw [stableR, if_pos he])
    go_wp2
    go_ret2
    exact ⟨by rw [HR.out]; rfl, hb⟩

def degreeR (p : List Int) : Int := if checkPolyE p ≠ 0 then 0 else (p.length : Int) - 1

set_option maxHeartbeats 400000 in
theorem Degree_any (v : Value) (p : List Int) (w : World) (hv : Ints w v p) (hl : p.length ≤ 1000000) :
    Calls Tryz.prog 69 #[v] w fun e w' => e = .returned (.tuple #[.int .i64 (degreeR p), .int .i64 (checkPolyE p)]) ∧ Below w.heap.size w w' := by
  go_enter Tryz.func69, Tryz.ntmps69
  go_wp2_with fail
  refine (CheckPoly_any v p w (by omega) hv).mono ?_
  rintro e w1 ⟨rfl, hb⟩
  by_cases he : checkPolyE p = 0
  · have HR := Lib.hid (show degreeR p = (p.length : Int) - 1 by rw [degreeR, if_neg (by rw [he]; simp)])
    have HE := Lib.hid he
    rw [he]
    clear he
    have dp := degree_i hv hl
    go_wp2_with fail
    refine (dp _).mono ?_
    rintro e w' ⟨rfl, rfl⟩
    go_wp2
    go_ret2
    exact ⟨by rw [HR.out, HE.out]; rfl, hb⟩
  · have HR := Lib.hid (show degreeR p = 0 by rw [degreeR, if_pos he])
    go_wp2
    go_ret2
    exact ⟨by rw [HR.out]; rfl, hb⟩

def sumE (p q : List Int) : Int := if prod1E p q ≠ 0 then prod1E p q else if (plusW p q).length = 0 then 6 else if (plusW p q).any largeB then 4 else 0
def sumR (p q : List Int) : List Int := if sumE p q ≠ 0 then [] else plusW p q

set_option maxHeartbeats 1000000 in
theorem Sum_any (vp vq : Value) (p q : List Int) (w : World) (hp : Ints w vp p) (hq : Ints w vq q) (hp2 : p.length ≤ 100000) (hq2 : q.length ≤ 100000) :
    Calls Tryz.prog 66 #[vp, vq] w (GivesPoly w (sumR p q) (sumE p q)) := by
  go_enter Tryz.func66, Tryz.ntmps66
  go_wp2_with fail
  refine (CheckPoly_any vp p w (by omega) hp).mono ?_
  rintro e w1 ⟨rfl, h1⟩
  go_wp2_with fail
  refine (CheckPoly_any vq q w1 (by omega) (hq.below h1)).mono ?_
  rintro e w2 ⟨rfl, h2⟩
  go_wp2_with fail
  refine (first2 _ _ _ _).mono ?_
  rintro e w' ⟨rfl, rfl⟩
  have h3 := bthen (bthen h1 h2) (below_new w2 (.cells #[.int .i64 (checkPolyE p), .int .i64 (checkPolyE q)] 27))
  obtain ⟨V, hV⟩ : ∃ V, V = w2.alloc (.cells #[.int .i64 (checkPolyE p), .int .i64 (checkPolyE q)] 27) := ⟨_, rfl⟩
  rw [← hV] at h3 ⊢
  clear hV h1 h2
  have hE : firstE [checkPolyE p, checkPolyE q] = prod1E p q := rfl
  rw [hE]
  by_cases he : prod1E p q = 0
  · clear hE
    rw [he]
    have hR : sumE p q = if (plusW p q).length = 0 then 6 else if (plusW p q).any largeB then 4 else 0 := by rw [sumE, if_neg (by rw [he]; simp)]
    have HR := Lib.hid hR
    have hlen : (plusW p q).length ≤ 200000 := by unfold plusW; rw [trimL_length]; have := trimN_le (sumW p q) (sumW p q).length; have := sumW_length p q; omega
    clear he hR
    go_wp2_with fail
    refine (plus_i vp vq p q V (hp.below h3) (hq.below h3) (by omega) (by omega)).mono ?_
    rintro e w3 ⟨⟨u, rfl, hu⟩, h4⟩
    have hb4 := bthen h3 h4
    obtain ⟨ua, uc, rfl, _⟩ := id hu
    by_cases h0 : (plusW p q).length = 0
    · have hE6 := Lib.hid (show sumE p q = 6 by rw [HR.out, if_pos h0])
      have hb : (((plusW p q).length : Int) == 0) = true := by rw [beq_iff_eq]; omega
      clear h0
      go_wp2
      go_ret2
      exact ⟨⟨_, by rw [hE6.out]; rfl, by rw [sumR, if_pos (by rw [hE6.out]; simp)]; exact Ints.nil _⟩, hb4⟩
    · have hE5 := Lib.hid (show sumE p q = if (plusW p q).any largeB then 4 else 0 by rw [HR.out, if_neg h0])
      have hb : (((plusW p q).length : Int) == 0) = false := by rw [beq_eq_false_iff_ne]; omega
      clear h0
      by_cases hg : (plusW p q).any largeB = true
      · have HE5 := Lib.hid (show sumE p q = 4 by rw [hE5.out, if_pos hg])
        have HG := Lib.hid hg
        clear hg
        go_wp2_with fail
        refine (fitting_yes _ (plusW p q) _ (by omega) hu HG.out).mono ?_
        rintro e w' ⟨rfl, rfl⟩
        go_wp2
        go_ret2
        exact ⟨⟨_, by rw [HE5.out]; rfl, by rw [sumR, if_pos (by rw [HE5.out]; simp)]; exact Ints.nil _⟩, hb4⟩
      · have HE5 := Lib.hid (show sumE p q = 0 by rw [hE5.out, if_neg hg])
        have HG := Lib.hid hg
        clear hg
        go_wp2_with fail
        refine (fitting_no _ (plusW p q) _ (by omega) hu HG.out).mono ?_
        rintro e w' ⟨rfl, rfl⟩
        go_wp2
        go_ret2
        exact ⟨⟨_, by rw [HE5.out]; rfl, by rw [sumR, if_neg (by rw [HE5.out]; simp)]; exact hu⟩, hb4⟩
  · go_wp2
    go_ret2
    have hE5 : sumE p q = prod1E p q := by rw [sumE, if_pos he]
    exact ⟨⟨_, by rw [hE5]; rfl, by rw [sumR, if_pos (by rw [hE5]; exact he)]; exact Ints.nil _⟩, h3⟩

end Go.Proofs.YtnlmaildmeihgaaGreatDoor

/- Plain facts of the law LoopSums: the steps of small polynomials. -/
import Derived.Test.YtnlmaildmeihgaaGreatDoorPlainS
namespace Go.Proofs.YtnlmaildmeihgaaGreatDoor
open Go.RowKit
set_option linter.unusedSimpArgs false
set_option linter.unusedVariables false

theorem stepped_of {p l out : List Int} {steps : Int} (hp : checkPolyE p = 0) (h2 : step2E p l steps = 0) (hs : stepL p l (p.length - 1) (p.length - 1 + steps.toNat) = some out) : steppedE p l steps = 0 ∧ steppedR p l steps = out := by
  constructor
  · rw [steppedE, if_neg (by rw [hp]; simp), if_neg (by rw [h2]; simp), hs]
  · rw [steppedR, if_neg (by rw [hp]; simp), if_neg (by rw [h2]; simp), hs]; rfl
theorem step2_zero {p l : List Int} {steps : Int} (hn : 2 ≤ p.length) (hl : l.length + 1 = p.length) (hb : ∀ x ∈ l, -1000 ≤ x ∧ x ≤ 1000) (hs : 0 ≤ steps ∧ steps ≤ 24) : step2E p l steps = 0 := by
  unfold step2E
  refine firstE_zero fun x hx => ?_
  simp only [List.mem_cons, List.not_mem_nil, or_false] at hx
  rcases hx with rfl | rfl | rfl
  · rw [show (((p.length - 1 : Nat) : Int) == 0) = false by rw [beq_eq_false_iff_ne]; omega]; rfl
  · unfold checkFirstE
    rw [if_neg (by omega)]
    refine firstE_zero fun y hy => ?_
    obtain ⟨z, hz, rfl⟩ := List.mem_map.1 hy
    have := hb z hz
    rw [withinE, if_neg (by omega)]
  · rw [withinE, if_neg (by omega)]
theorem upto_drop1 (f : Nat → Int) (n : Nat) : (upto f (n + 1)).drop 1 = upto (fun t => f (t + 1)) n := by
  unfold upto
  rw [List.range_succ_eq_map]
  simp [Function.comp_def]
theorem upto_extI {f g : Nat → Int} {n : Nat} (h : ∀ i, f i = g i) : upto f n = upto g n := by
  rw [show f = g from funext h]
theorem b30 {t : Nat} {x : Int} (ht : t ≤ 6) (h : -(256 * 12 ^ t : Int) ≤ x ∧ x ≤ (256 * 12 ^ t : Int)) : -1073741824 ≤ x ∧ x ≤ 1073741824 := by
  have := pow12 t ht
  omega

/-- what the walk asks of the steps. -/
def StepsOk (P : List Int) (n : Nat) (L1 L2 : List Int) : Prop :=
  ∃ F G H : List Int, (steppedE P L1 5 = 0 ∧ steppedR P L1 5 = F) ∧ (steppedE P L2 5 = 0 ∧ steppedR P L2 5 = G) ∧ (steppedE P (upto (fun i => L1[i]?.getD 0 + L2[i]?.getD 0) n) 5 = 0 ∧ steppedR P (upto (fun i => L1[i]?.getD 0 + L2[i]?.getD 0) n) 5 = H) ∧
    (F.length = n + 5 ∧ G.length = n + 5 ∧ H.length = n + 5) ∧ (∀ i, i < n + 5 → (-1073741824 ≤ F[i]?.getD 0 ∧ F[i]?.getD 0 ≤ 1073741824) ∧ (-1073741824 ≤ G[i]?.getD 0 ∧ G[i]?.getD 0 ≤ 1073741824) ∧ H[i]?.getD 0 = F[i]?.getD 0 + G[i]?.getD 0) ∧
    (P[n]?.getD 0 = 1 → (-1000 ≤ F[1]?.getD 0 ∧ F[1]?.getD 0 ≤ 1000) → (-1000 ≤ F[n]?.getD 0 ∧ F[n]?.getD 0 ≤ 1000) → steppedE P ((F.drop 1).take n) 4 = 0 ∧ steppedR P ((F.drop 1).take n) 4 = F.drop 1)

theorem steps1 {p0 p1 x0 y0 : Int} (hP : SmP [p0, p1]) (bx : -128 ≤ x0 ∧ x0 ≤ 128) (by0 : -128 ≤ y0 ∧ y0 ≤ 128) : StepsOk [p0, p1] 1 [x0] [y0] := by
  have h0 := hP.sm p0 (by simp)
  have hp := hP.poly
  have one : ∀ l0 : Int, (-256 ≤ l0 ∧ l0 ≤ 256) → steppedE [p0, p1] [l0] 5 = 0 ∧ steppedR [p0, p1] [l0] 5 = upto (seq1 p0 l0) 6 := fun l0 hl =>
    stepped_of hp (step2_zero (by simp) (by simp) (fun x hx => by simp at hx; omega) (by omega)) (stepL1 h0 6 fun t ht => b30 (by omega) (seq1_bd h0 hl t))
  refine ⟨_, _, _, one x0 (by omega), one y0 (by omega), one (x0 + y0) (by omega), ⟨upto_length _ _, upto_length _ _, upto_length _ _⟩, fun i hi => ?_, fun h1 h2 h3 => ?_⟩
  · rw [upto_at _ hi, upto_at _ hi, upto_at _ hi]
    exact ⟨b30 (by omega) (seq1_bd h0 (by omega) i), b30 (by omega) (seq1_bd h0 (by omega) i), seq1_add p0 x0 y0 i⟩
  · rw [upto_at _ (by omega)] at h2
    have hd : ((upto (seq1 p0 x0) 6).drop 1).take 1 = [seq1 p0 x0 1] := rfl
    rw [hd, upto_drop1]
    refine stepped_of hp (step2_zero (by simp) (by simp) (fun x hx => by simp at hx; omega) (by omega)) ?_
    rw [show upto (fun t => seq1 p0 x0 (t + 1)) 5 = upto (seq1 p0 (seq1 p0 x0 1)) 5 from upto_extI fun t => (seq1_later p0 x0 t).symm]
    exact stepL1 h0 5 fun t ht => by rw [seq1_later]; exact b30 (by omega) (seq1_bd h0 (by omega) (t + 1))

theorem steps2 {p0 p1 p2 x0 x1 y0 y1 : Int} (hP : SmP [p0, p1, p2]) (bx : -128 ≤ x0 ∧ x0 ≤ 128) (bx1 : -128 ≤ x1 ∧ x1 ≤ 128) (by0 : -128 ≤ y0 ∧ y0 ≤ 128) (by1 : -128 ≤ y1 ∧ y1 ≤ 128) : StepsOk [p0, p1, p2] 2 [x0, x1] [y0, y1] := by
  have h0 := hP.sm p0 (by simp)
  have h1 := hP.sm p1 (by simp)
  have h2 := hP.sm p2 (by simp)
  have hp := hP.poly
  have one : ∀ l0 l1 : Int, (-256 ≤ l0 ∧ l0 ≤ 256) → (-256 ≤ l1 ∧ l1 ≤ 256) → steppedE [p0, p1, p2] [l0, l1] 5 = 0 ∧ steppedR [p0, p1, p2] [l0, l1] 5 = upto (seq2 p0 p1 p2 l0 l1) 7 := fun l0 l1 hl hl1 =>
    stepped_of hp (step2_zero (by simp) (by simp) (fun x hx => by simp at hx; omega) (by omega)) (stepL2 h0 h1 h2 7 fun t ht => b30 (by omega) (seq2_bd h0 h1 h2 hl hl1 t).1)
  refine ⟨_, _, _, one x0 x1 (by omega) (by omega), one y0 y1 (by omega) (by omega), one (x0 + y0) (x1 + y1) (by omega) (by omega), ⟨upto_length _ _, upto_length _ _, upto_length _ _⟩, fun i hi => ?_, fun k1 k2 k3 => ?_⟩
  · rw [upto_at _ hi, upto_at _ hi, upto_at _ hi]
    exact ⟨b30 (by omega) (seq2_bd h0 h1 h2 (by omega) (by omega) i).1, b30 (by omega) (seq2_bd h0 h1 h2 (by omega) (by omega) i).1, (seq2_add p0 p1 p2 x0 x1 y0 y1 i).1⟩
  · have k1 : p2 = 1 := k1
    subst k1
    rw [upto_at _ (by omega)] at k2
    rw [upto_at _ (by omega)] at k3
    have hd : ((upto (seq2 p0 p1 1 x0 x1) 7).drop 1).take 2 = [seq2 p0 p1 1 x0 x1 1, seq2 p0 p1 1 x0 x1 2] := rfl
    rw [hd, upto_drop1]
    refine stepped_of hp (step2_zero (by simp) (by simp) (fun x hx => by simp at hx; omega) (by omega)) ?_
    rw [show upto (fun t => seq2 p0 p1 1 x0 x1 (t + 1)) 6 = upto (seq2 p0 p1 1 (seq2 p0 p1 1 x0 x1 1) (seq2 p0 p1 1 x0 x1 2)) 6 from upto_extI fun t => (seq2_later p0 p1 x0 x1 t).1.symm]
    exact stepL2 h0 h1 h2 6 fun t ht => by rw [(seq2_later p0 p1 x0 x1 t).1]; exact b30 (by omega) (seq2_bd h0 h1 h2 (by omega) (by omega) (t + 1)).1

theorem steps_ok {P : List Int} (hP : SmP P) {n : Nat} (hn : P.length = n + 1) (h1 : 1 ≤ n) {x0 x1 y0 y1 : Int} (bx : -128 ≤ x0 ∧ x0 ≤ 128) (bx1 : -128 ≤ x1 ∧ x1 ≤ 128) (by0 : -128 ≤ y0 ∧ y0 ≤ 128) (by1 : -128 ≤ y1 ∧ y1 ≤ 128) : StepsOk P n ([x0, x1].take n) ([y0, y1].take n) := by
  have h3 := hP.l3
  obtain rfl | rfl : n = 1 ∨ n = 2 := by omega
  · match P, hn, hP with
    | [p0, p1], _, hP => exact steps1 hP bx by0
  · match P, hn, hP with
    | [p0, p1, p2], _, hP => exact steps2 hP bx bx1 by0 by1

end Go.Proofs.YtnlmaildmeihgaaGreatDoor

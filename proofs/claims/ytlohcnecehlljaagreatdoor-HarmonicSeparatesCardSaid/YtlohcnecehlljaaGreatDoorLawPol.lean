/- The law HarmonicPolygons: the walk. (printed by gen/lawpol.py) -/
import Derived.Test.YtlohcnecehlljaaGreatDoorHqA
import Derived.Test.YtlohcnecehlljaaGreatDoorHpO
namespace Go.Proofs.YtlohcnecehlljaaGreatDoor
set_option linter.unusedSimpArgs false
set_option linter.unusedVariables false
open Go.RowKit

theorem firstE_nest (a b c : Int) : firstE [a, firstE [b, c]] = firstE [a, b, c] := by
  by_cases ha : a = 0 <;> by_cases hb : b = 0 <;> by_cases hc : c = 0 <;> simp [firstE, ha, hb, hc]
theorem edges_any_range (l : List (Int × Int)) (g : I4 → Bool) : (edgesL l).any g = (List.range l.length).any fun k => g (edgeK l k) := by
  rw [edgesL, upto, List.any_map]; rfl
/-- both ways to ask whether a point lies inside. -/
theorem inside_same (l : List (Int × Int)) (p : Int × Int) (h : insE l p = 0) : negB (outL l p 1) = insR l p := by
  unfold insE at h
  obtain ⟨h1, h⟩ := firstE_cons_ok h
  obtain ⟨h2, _⟩ := firstE_cons_ok h
  have hp := pointE_ok h2
  have hok : ∀ x ∈ l, PtOk x := by
    have hm : firstE (l.map pointE) = 0 := by
      unfold polE orE at h1
      by_cases c1 : polN l = 0
      · rw [if_pos c1] at h1
        by_cases c2 : firstE (l.map pointE) = 0
        · exact c2
        · rw [if_neg c2] at h1; exact h1
      · rw [if_neg c1] at h1; exact absurd h1 c1
    exact fun x hx => pointE_ok (firstE_mapOk hm x hx)
  have e1 : negB (outL l p 1) = !(edgesL l).any fun x => negB (sideE x p 1) := by
    rw [← findX_ge, outL, negB]
    by_cases c : findX (fun x => negB (sideE x p 1)) (edgesL l) < 0
    · have : ¬ 0 ≤ findX (fun x => negB (sideE x p 1)) (edgesL l) := by omega
      simp [c, this]
    · have : 0 ≤ findX (fun x => negB (sideE x p 1)) (edgesL l) := by omega
      simp [c, this]
  rw [e1, insR, edges_any_range]
  congr 1
  rw [Bool.eq_iff_iff]
  simp only [List.any_eq_true, List.mem_range]
  have key : ∀ k, k < l.length → negB (sideE (edgeK l k) p 1) = negB (crossF (l[k]?.getD (0, 0)) (l[(k + 1) % l.length]?.getD (0, 0)) (l[k]?.getD (0, 0)) p) := fun k hk => by
    have hm : (k + 1) % l.length < l.length := Nat.mod_lt _ (by omega)
    have a := hok _ (List.getElem_mem hk)
    have b := hok _ (List.getElem_mem hm)
    rw [edgeK, List.getElem?_eq_getElem hk, List.getElem?_eq_getElem hm]
    simp only [Option.getD_some]
    rw [cross_side a b hp]
  constructor
  · rintro ⟨k, hk, h⟩; exact ⟨k, hk, by rw [← key k hk]; exact h⟩
  · rintro ⟨k, hk, h⟩; exact ⟨k, hk, by rw [key k hk]; exact h⟩
theorem best_spec (l : List (Int × Int)) (d : Int × Int) : ∀ k, k < l.length → bestN l d (k + 1) ≤ k ∧ maxN (l.map (sumG d)) k = sumG d (l[bestN l d (k + 1)]?.getD (0, 0)) ∧ ∀ j, j < bestN l d (k + 1) → sumG d (l[j]?.getD (0, 0)) < sumG d (l[bestN l d (k + 1)]?.getD (0, 0)) := by
  have hg : ∀ k, k < l.length → (l.map (sumG d))[k]?.getD 0 = sumG d (l[k]?.getD (0, 0)) := fun k hk => by
    rw [List.getElem?_map, List.getElem?_eq_getElem hk]; rfl
  have hle : ∀ k, k < l.length → ∀ j, j ≤ k → sumG d (l[j]?.getD (0, 0)) ≤ maxN (l.map (sumG d)) k := by
    intro k
    induction k with
    | zero => intro hk j hj; obtain rfl : j = 0 := by omega
              rw [maxN, hg 0 hk]; exact Int.le_refl _
    | succ k ih =>
      intro hk j hj
      have h1 := ih (by omega)
      rw [maxN, hg (k + 1) hk]
      rcases Nat.lt_or_ge j (k + 1) with h | h
      · have := h1 j (by omega)
        split <;> omega
      · obtain rfl : j = k + 1 := by omega
        split <;> omega
  intro k
  induction k with
  | zero =>
    intro hk
    have : bestN l d 1 = 0 := by rw [bestN, bestN]; simp
    rw [this]
    exact ⟨Nat.le_refl _, by rw [maxN, hg 0 hk], fun j hj => by omega⟩
  | succ k ih =>
    intro hk
    obtain ⟨h1, h2, h3⟩ := ih (by omega)
    have h4 := hle k (by omega)
    rw [bestN]
    by_cases c : sumG d (l[bestN l d (k + 1)]?.getD (0, 0)) < sumG d (l[k + 1]?.getD (0, 0))
    · rw [decide_eq_true c]
      refine ⟨Nat.le_refl _, ?_, fun j hj => ?_⟩
      · rw [maxN, hg (k + 1) hk, h2, if_pos c]; rfl
      · have := h4 j (by simp at hj; omega)
        rw [h2] at this
        simp only [cond_true]
        omega
    · rw [decide_eq_false c]
      refine ⟨Nat.le_trans h1 (Nat.le_succ _), ?_, h3⟩
      rw [maxN, hg (k + 1) hk, h2, if_neg c]; rfl
/-- both ways to find the extreme corner. -/
theorem extreme_same (l : List (Int × Int)) (d : Int × Int) (h0 : 0 < l.length) : extL l d = (bestN l d l.length : Int) := by
  obtain ⟨n, hn⟩ : ∃ n, l.length = n + 1 := ⟨l.length - 1, by omega⟩
  obtain ⟨h1, h2, h3⟩ := best_spec l d n (by omega)
  rw [hn]
  have hb : bestN l d (n + 1) < l.length := by omega
  have hM : maxW (l.map (sumG d)) = sumG d (l[bestN l d (n + 1)]?.getD (0, 0)) := by
    rw [maxW, List.length_map, hn, Nat.add_sub_cancel, h2]
  rw [extL]
  refine findX_some (x := sumG d (l[bestN l d (n + 1)]'hb)) (by rw [List.getElem?_map, List.getElem?_eq_getElem hb]; rfl) ?_ (by rw [hM, List.getElem?_eq_getElem hb]; simp)
  rw [List.any_eq_false]
  intro y hy
  obtain ⟨j, hj, rfl⟩ := List.mem_take_iff_getElem.1 hy
  have hjb : j < bestN l d (n + 1) := by omega
  have hjl : j < l.length := by omega
  have := h3 j hjb
  rw [List.getElem?_eq_getElem hjl] at this
  simp only [List.getElem_map, hM, beq_iff_eq]
  simp only [Option.getD_some] at this
  omega

end Go.Proofs.YtlohcnecehlljaaGreatDoor

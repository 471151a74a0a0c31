/- The law HarmonicFilters: the walk. (printed by gen/lawflt.py) -/
import Derived.Test.YtlohcnecehlljaaGreatDoorHqD
import Derived.Test.YtlohcnecehlljaaGreatDoorHpO
namespace Go.Proofs.YtlohcnecehlljaaGreatDoor
set_option linter.unusedSimpArgs false
set_option linter.unusedVariables false
open Go.RowKit

theorem Ints.apart {w : World} {v u x : Value} {l : List Int} {B j : Nat} {T : TypeId} (h : Ints w v l) (hb : Blk w B T [u]) (hu : ∀ y : Int, u ≠ .int .i64 y) : Ints (w.setCell ⟨B, j, none⟩ x) v l := by
  obtain ⟨a, c, hv, hc, hr⟩ := h
  refine ⟨a, c, hv, hc, fun h0 => ?_⟩
  obtain ⟨b, off, ha, hd⟩ := hr h0
  refine ⟨b, off, ha, fun k hk => ?_⟩
  have c0 := hd k hk
  have hne : b ≠ B := by
    rintro rfl
    have hq : w.cell? ⟨b, off + k, none⟩ = ([u] : List Value)[off + k]? := by simp [World.cell?, show w.heap[b]? = _ from hb]
    rw [c0] at hq
    rcases Nat.eq_zero_or_pos (off + k) with e | e
    · rw [e] at hq; simp at hq; exact hu _ hq.symm
    · rw [show ([u] : List Value)[off + k]? = none from List.getElem?_eq_none (by simp; omega)] at hq; simp at hq
  rw [← c0]
  exact World.cell?_of_block (Below.heap_setCell _ _ _ _ (show b ≠ B from hne))
theorem Ints.nilQ (w : World) : Ints w (.slice none 0 0) [] := ⟨none, 0, rfl, Nat.le_refl _, fun h => by simp at h⟩
theorem firstE_nestL (a b c : Int) : firstE [firstE [a, b], c] = firstE [a, b, c] := by
  by_cases ha : a = 0 <;> by_cases hb : b = 0 <;> by_cases hc : c = 0 <;> simp [firstE, ha, hb, hc]
theorem tapP_flat (ls : List (Int × Int)) (h tap : Int) : firstE [fltE ls, whenE (decide (h < 1) || decide ((ls.length : Int) < h)) 10, withinE tap (-8) 8] = tapP ls (h - 1) tap := by
  rw [tapP, braE, firstE_nestL]
  have e1 : decide (h < 1) = decide (h - 1 < 0) := by by_cases c : h < 1 <;> simp [c] <;> omega
  have e2 : decide ((ls.length : Int) < h) = decide ((ls.length : Int) ≤ h - 1) := by by_cases c : (ls.length : Int) < h <;> simp [c] <;> omega
  rw [e1, e2]
theorem resL_len (ls : List (Int × Int)) : (resL ls).length ≤ 1000000000 := by
  have := chosenL_le (resB ls) 1 11
  exact Nat.le_trans this (by omega)
theorem tapX_ok {ls : List (Int × Int)} {b tap : Int} (h : tapP ls b tap = 0) : tapX ls b tap = tapE (fltE (tapL ls b.toNat tap)) ∧ tapZ ls b tap = lsIf (fltE (tapL ls b.toNat tap)) (tapL ls b.toNat tap) := by
  unfold tapX tapZ; rw [h]; exact ⟨rfl, rfl⟩
theorem tapX_bad {ls : List (Int × Int)} {b tap : Int} (h : tapP ls b tap ≠ 0) : tapX ls b tap = tapP ls b tap ∧ tapZ ls b tap = [] := by
  unfold tapX tapZ
  have : (tapP ls b tap == 0) = false := by rw [beq_eq_false_iff_ne]; exact h
  rw [this]; exact ⟨rfl, rfl⟩
theorem tapZ_nil {ls : List (Int × Int)} {b tap : Int} (h : tapX ls b tap ≠ 0) : tapZ ls b tap = [] := by
  by_cases c : tapP ls b tap = 0
  · obtain ⟨h1, h2⟩ := tapX_ok c
    rw [h1, tapE] at h
    rw [h2, lsIf]
    by_cases e : fltE (tapL ls b.toNat tap) = 0
    · rw [e] at h; exact absurd rfl h
    · have : (fltE (tapL ls b.toNat tap) == 0) = false := by rw [beq_eq_false_iff_ne]; exact e
      rw [this]; rfl
  · exact (tapX_bad c).2
theorem tapZ_len (ls : List (Int × Int)) (b tap : Int) (hl : ls.length ≤ 1000000) : (tapZ ls b tap).length ≤ 1000000 := by
  unfold tapZ lsIf
  cases (tapP ls b tap == 0) <;> simp only [cond_true, cond_false]
  · simp
  · cases (fltE (tapL ls b.toNat tap) == 0) <;> simp only [cond_true, cond_false]
    · simp
    · rw [tapL, List.length_set]; exact hl
theorem eqRatioV (a b : Int) (W : World) : Sem.run Tryz.prog (binOp .eql 118 (.agg #[.int .i64 a, .int .i64 b]) (.agg #[.int .i64 a, .int .i64 b])) W = .ok (.bool true) W := by
  go_simp

end Go.Proofs.YtlohcnecehlljaaGreatDoor

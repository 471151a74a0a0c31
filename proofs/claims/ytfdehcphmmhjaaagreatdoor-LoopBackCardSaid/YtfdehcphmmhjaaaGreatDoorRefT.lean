/- The reference's tables. -/
import Derived.Test.YtfdehcphmmhjaaaGreatDoorRefB
import Derived.Test.YtfdehcphmmhjaaaGreatDoorAwakeE
namespace Go.Proofs.YtfdehcphmmhjaaaGreatDoor
open Go.RowKit

/-- only the last row of a table can fail. -/
theorem tableL_last (f : Nat) (r : List Int) : (tableL f r).any failsB = match (tableL f r).getLast? with | some l => failsB l | none => false := by
  induction f generalizing r with
  | zero => rfl
  | succ f ih =>
    rw [tableL]
    split
    · rfl
    · split
      · rename_i h; simp [h]
      · rename_i h
        have hr : failsB r = false := by simpa using h
        rw [List.any_cons, hr, Bool.false_or, ih]
        cases hq : tableL f (nextL r) with
        | nil => simp [hr]
        | cons a b => simp [List.getLast?_cons]

theorem rowK_le (p : List Int) (k : Nat) : (rowK p k).length ≤ p.length := by rw [rowK_length]; omega

end Go.Proofs.YtfdehcphmmhjaaaGreatDoor

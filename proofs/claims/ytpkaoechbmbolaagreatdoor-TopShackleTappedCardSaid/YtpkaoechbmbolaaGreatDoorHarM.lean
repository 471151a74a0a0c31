/- The package harmonic: the design; arrays of integers are compared. -/
import Derived.Test.YtpkaoechbmbolaaGreatDoorHarL
namespace Go.Proofs.YtpkaoechbmbolaaGreatDoor
set_option linter.unusedSimpArgs false
set_option linter.unusedVariables false
open Go.RowKit

/-- arrays of integers are compared. -/
theorem eqItemsI (l m : List Int) (w : World) : ∀ is : List Nat, (∀ i ∈ is, i < l.length ∧ i < m.length) →
    (Op.eqItems 9999 3 1 (ia l) (ia m) is).run Tryz.prog w = .ok (is.all fun i => l[i]?.getD 0 == m[i]?.getD 0) w := by
  have hu : Tryz.prog.underlying 3 = some (.int .i64) := by kernel_rfl
  have he : ∀ x y, (Op.equalIn 9999 3 (.int .i64 x) (.int .i64 y)).run Tryz.prog w = .ok (x == y) w := fun x y => run_equalIn_int w 9998 _ _ _ x y hu
  have hp : ∀ (xs : Array Value) (i : Nat) (x : Int), xs[i]? = some (.int .i64 x) → (part 3 xs i).run Tryz.prog w = .ok (.int .i64 x) w := fun xs i x hx => run_part_plain w (by kernel_rfl) hx
  have hg : ∀ (l : List Int) i, i < l.length → (ia l)[i]? = some (.int .i64 (l[i]?.getD 0)) := fun l i hi => by
    simp [ia, hi]
  intro is
  induction is with
  | nil => intro _; rfl
  | cons i is ih =>
    intro h
    obtain ⟨h1, h2⟩ := h i (by simp)
    simp only [Op.eqItems, Sem.run_bind, Nat.mul_one]
    rw [hp _ _ _ (hg l i h1)]
    simp only [Result.andThen_ok]
    rw [hp _ _ _ (hg m i h2)]
    simp only [Result.andThen_ok, he, List.all_cons]
    cases hb : (l[i]?.getD 0 == m[i]?.getD 0)
    · simp
    · simp only [Bool.not_true, Bool.false_eq_true, if_false, Bool.true_and]
      exact ih (fun j hj => h j (by simp [hj]))
theorem allRange_eq (l m : List Int) (n : Nat) (hl : l.length = n) (hm : m.length = n) : ((List.range n).all fun i => l[i]?.getD 0 == m[i]?.getD 0) = (l == m) := by
  rw [Bool.eq_iff_iff]
  simp only [List.all_eq_true, List.mem_range, beq_iff_eq]
  constructor
  · intro h
    apply List.ext_getElem (by omega)
    intro i h1 h2
    have := h i (by omega)
    simpa [h1, h2] using this
  · rintro rfl i _
    rfl
theorem eqInts (T : TypeId) (n : Nat) (hT : Tryz.prog.underlying T = some (.array n 3)) (l m : List Int) (hl : l.length = n) (hm : m.length = n) (w : World) :
    Sem.run Tryz.prog (binOp .eql T (.agg (ia l)) (.agg (ia m))) w = .ok (.bool (l == m)) w := by
  obtain ⟨i0, hi, hz0, hz1, hz2⟩ := info_parts Tryz.infoInt
  have hc : Tryz.prog.cellsOf 3 = 1 := by kernel_rfl
  rw [run_eql_struct, run_equalIn_array w 9999 (t := T) (e := 3) (n := n) _ _ hT hi, hc, eqItemsI l m w _ (fun i hi => by rw [hl, hm]; exact ⟨List.mem_range.1 hi, List.mem_range.1 hi⟩), allRange_eq l m n hl hm]
  rfl
end Go.Proofs.YtpkaoechbmbolaaGreatDoor

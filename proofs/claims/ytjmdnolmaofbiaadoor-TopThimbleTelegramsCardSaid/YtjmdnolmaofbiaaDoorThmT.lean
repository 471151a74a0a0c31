/- Arrays of three numbers are compared with themselves. -/
import Derived.Test.YtjmdnolmaofbiaaDoorThmS
namespace Go.Proofs.YtjmdnolmaofbiaaDoor
set_option linter.unusedSimpArgs false
set_option linter.unusedVariables false
open Go.RowKit

theorem eqItems_self (e : TypeId) (c : Nat) (xs : Array Value) (w : World) : ∀ is : List Nat, (∀ i ∈ is, ∃ v, (part e xs (i * c)).run Tryd.prog w = .ok v w ∧ (Op.equalIn 9999 e v v).run Tryd.prog w = .ok true w) →
    (Op.eqItems 9999 e c xs xs is).run Tryd.prog w = .ok true w := by
  intro is
  induction is with
  | nil => intro _; rfl
  | cons i is ih =>
    intro h
    obtain ⟨v, h1, h2⟩ := h i (by simp)
    simp only [Op.eqItems, Sem.run_bind]
    rw [h1]
    simp only [Result.andThen_ok, h1, h2]
    simp only [Bool.not_true, Bool.false_eq_true, if_false]
    exact ih (fun j hj => h j (by simp [hj]))
theorem eqE_self (a b : Int) (w : World) : (Op.equalIn 9999 33 (.agg #[.int .i64 a, .int .i64 b]) (.agg #[.int .i64 a, .int .i64 b])).run Tryd.prog w = .ok true w := by
  go_simp
theorem Tryd.undApiE : ∃ fs, Tryd.prog.underlying 33 = some (.struct fs) := ⟨_, Tryd.underlying33⟩
theorem Tryd.undPh3 : Tryd.prog.underlying 37 = some (.array 3 33) := by kernel_rfl
theorem Tryd.undE3 : Tryd.prog.underlying 36 = some (.array 3 33) := by kernel_rfl
theorem neqE3 (T : TypeId) (hT : Tryd.prog.underlying T = some (.array 3 33)) (y0 y1 y2 y3 y4 y5 : Int) (w : World) : Sem.run Tryd.prog (binOp .neq T (.agg #[.int .i64 y0, .int .i64 y1, .int .i64 y2, .int .i64 y3, .int .i64 y4, .int .i64 y5]) (.agg #[.int .i64 y0, .int .i64 y1, .int .i64 y2, .int .i64 y3, .int .i64 y4, .int .i64 y5])) w = .ok (.bool false) w := by
  obtain ⟨fs, hu⟩ := Tryd.undApiE
  obtain ⟨i, hi⟩ : ∃ i, Tryd.prog.info? 33 = some i := by
    cases h : Tryd.prog.info? 33 with
    | none => have := Tryd.sizeApiE; rw [h] at this; cases this
    | some i => exact ⟨i, rfl⟩
  have hs : i.size = 2 := by have := Tryd.sizeApiE; rw [hi] at this; simpa using this
  have hc : Tryd.prog.cellsOf 33 = 2 := by kernel_rfl
  rw [run_neq_struct, run_equalIn_array w 9999 (t := T) (e := 33) (n := 3) _ _ hT hi, hc, eqItems_self _ _ _ w _ (fun j hj => by
    have := List.mem_range.1 hj
    have hj3 : j = 0 ∨ j = 1 ∨ j = 2 := by omega
    rcases hj3 with rfl | rfl | rfl
    · exact ⟨.agg #[.int .i64 y0, .int .i64 y1], by simp [part, isAgg, run_underlying hu, sizeOf, typeInfo, hi, hs], eqE_self _ _ w⟩
    · exact ⟨.agg #[.int .i64 y2, .int .i64 y3], by simp [part, isAgg, run_underlying hu, sizeOf, typeInfo, hi, hs], eqE_self _ _ w⟩
    · exact ⟨.agg #[.int .i64 y4, .int .i64 y5], by simp [part, isAgg, run_underlying hu, sizeOf, typeInfo, hi, hs], eqE_self _ _ w⟩)]
  rfl
theorem Tryd.sizeA4 : (Tryd.prog.info? 38).map (fun x => x.size) = some 4 := by kernel_rfl
end Go.Proofs.YtjmdnolmaofbiaaDoor

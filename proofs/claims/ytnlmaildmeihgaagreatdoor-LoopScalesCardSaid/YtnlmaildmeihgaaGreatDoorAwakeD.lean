/- awake: the examples' values, in plain Lean. -/
import Derived.Test.YtnlmaildmeihgaaGreatDoorAwakeB
namespace Go.Proofs.YtnlmaildmeihgaaGreatDoor
open Go.RowKit

theorem ex_a : tableR [1, 0, 2] = [[1, 0, 2], [0, 3]] := by kernel_rfl
theorem ex_b : tableR [2, 3, 1] = [[2, 3, 1]] := by kernel_rfl
theorem ex_e1 : checkPolyE [1, 0, 2] = 0 := by kernel_rfl
theorem ex_e2 : checkPolyE [2, 3, 1] = 0 := by kernel_rfl
theorem ex_x : stableR [1, 0, 2] = true := by kernel_rfl
theorem ex_y : stableR [2, 3, 1] = false := by kernel_rfl
theorem ex_v : valueR [1, 0, 2] 0 1 = (-1, 0) := by kernel_rfl
theorem ex_e5 : valueE [1, 0, 2] 0 1 = 0 := by kernel_rfl
theorem ex_c : closedR [1] [-1, 2] [1] [1] = [0, 2] := by kernel_rfl
theorem ex_e6 : checkLoopE [1] [-1, 2] [1] [1] = 0 := by kernel_rfl
theorem ex_r : respR [1] [-1, 2] [1] [1] = [.complex .f64 4611686018427387904 0, .complex .f64 0 4611686018427387904, .complex .f64 13835058055282163712 0, .complex .f64 0 13835058055282163712] := by kernel_rfl
theorem ex_s : strengthRE [1] [-1, 2] [1] [1] 20 = (3, 0) := by kernel_rfl
theorem ex_m : certR [1] [-1, 2] [1] [1] [(1, 4)] = some [3] := by kernel_rfl
theorem ex_e9 : checkBoxE [1] [-1, 2] [1] [1] [(1, 4)] = 0 := by kernel_rfl
theorem ex_no : certR [1] [-1, 2] [1] [1] [(1, 2)] = none := by kernel_rfl
theorem ex_e10 : checkBoxE [1] [-1, 2] [1] [1] [(1, 2)] = 0 := by kernel_rfl
theorem ex_d : scaledR [-1, 2] 2 1 = [-1, 1] := by kernel_rfl
theorem ex_e11 : scaledE [-1, 2] 2 1 = 0 := by kernel_rfl
theorem ex_in : within2R [-1, 2] 1 1 = true := by kernel_rfl
theorem ex_e12 : within2E [-1, 2] 1 1 = 0 := by kernel_rfl
theorem ex_out : within2R [-1, 2] 1 2 = false := by kernel_rfl
theorem ex_e13 : within2E [-1, 2] 1 2 = 0 := by kernel_rfl
theorem ex_f : steppedR [-1, 2] [8] 3 = [8, 8, 8, 8] := by kernel_rfl
theorem ex_e14 : steppedE [-1, 2] [8] 3 = 0 := by kernel_rfl
theorem ex_g : steppedR [0, 0, 3] [5, 7] 1 = [5, 21, 0] := by kernel_rfl
theorem ex_e15 : steppedE [0, 0, 3] [5, 7] 1 = 0 := by kernel_rfl
theorem ex_ring : madeR 6 2 1 = [1, 2, 2, 2, 3, 0] := by kernel_rfl
theorem ex_e16 : made1E 6 2 1 = 0 := by kernel_rfl
theorem ex_n : locksR [1, 2, 2, 2, 3, 0] 5 2 = 3 := by kernel_rfl
theorem ex_e17 : locksE [1, 2, 2, 2, 3, 0] 5 2 = 0 := by kernel_rfl
theorem ex_l : basinR [1, 2, 2, 2, 3, 0] 2 = [0, 1, 2, 3, 4, 5] := by kernel_rfl
theorem ex_e18 : basin1E [1, 2, 2, 2, 3, 0] 2 = 0 := by kernel_rfl
theorem ex_e19 : checkBasinE [1, 2, 2, 2, 3, 0] 2 [2, 1, 0, 1, 2, 3] = 0 := by kernel_rfl
theorem ex_t : printR [1] [-1, 2] [1] [1] = ⟨#[112, 108, 97, 110, 116, 110, 117, 109, 32, 49, 10, 112, 108, 97, 110, 116, 100, 101, 110, 32, 45, 49, 32, 50, 10, 99, 111, 110, 116, 114, 111, 108, 108, 101, 114, 110, 117, 109, 32, 49, 10, 99, 111, 110, 116, 114, 111, 108, 108, 101, 114, 100, 101, 110, 32, 49, 10]⟩ := by kernel_rfl

theorem aw_a (v : Value) (w : World) (hv : Ints w v [1, 0, 2]) : Calls Tryz.prog 74 #[v] w fun e w' => (∃ u, e = .returned (.tuple #[u, .int .i64 0]) ∧ RowsOf w' u [[1, 0, 2], [0, 3]]) ∧ Below w.heap.size w w' := by
  have T := Table_any v _ w hv (by decide)
  rwa [ex_a, ex_e1] at T
theorem aw_b (v : Value) (w : World) (hv : Ints w v [2, 3, 1]) : Calls Tryz.prog 74 #[v] w fun e w' => (∃ u, e = .returned (.tuple #[u, .int .i64 0]) ∧ RowsOf w' u [[2, 3, 1]]) ∧ Below w.heap.size w w' := by
  have T := Table_any v _ w hv (by decide)
  rwa [ex_b, ex_e2] at T
theorem aw_x (v : Value) (w : World) (hv : Ints w v [1, 0, 2]) : Calls Tryz.prog 58 #[v] w fun e w' => e = .returned (.tuple #[.bool true, .int .i64 0]) ∧ Below w.heap.size w w' := by
  have T := Stable_any v _ w hv (by decide)
  rwa [ex_x, ex_e1] at T
theorem aw_y (v : Value) (w : World) (hv : Ints w v [2, 3, 1]) : Calls Tryz.prog 58 #[v] w fun e w' => e = .returned (.tuple #[.bool false, .int .i64 0]) ∧ Below w.heap.size w w' := by
  have T := Stable_any v _ w hv (by decide)
  rwa [ex_y, ex_e2] at T
theorem aw_v (v : Value) (w : World) (hv : Ints w v [1, 0, 2]) : Calls Tryz.prog 61 #[v, .agg #[.int .i64 0, .int .i64 1]] w fun e w' => e = .returned (.tuple #[.agg #[.int .i64 (-1), .int .i64 0], .int .i64 0]) ∧ Below w.heap.size w w' := by
  have T := Value_any v _ 0 1 w hv (by decide)
  rwa [ex_v, ex_e5] at T
theorem aw_c (u : Value) (w : World) (h : SingleIs w 1 u) : Calls Tryz.prog 26 #[u] w fun e w' => (∃ u, e = .returned (.tuple #[u, .int .i64 0]) ∧ Ints w' u [0, 2]) ∧ Below w.heap.size w w' := by
  obtain ⟨va, vb, vc, vd, rfl, h1, h2, h3, h4⟩ := h
  have T := Closed_any va vb vc vd _ _ _ _ w h1 h2 h3 h4 (by decide) (by decide) (by decide) (by decide)
  rwa [ex_c, ex_e6] at T
theorem aw_r (u : Value) (w : World) (hq : Quarters w) (h : SingleIs w 1 u) : Calls Tryz.prog 29 #[u] w fun e w' => e = .returned (.tuple #[.agg #[.complex .f64 4611686018427387904 0, .complex .f64 0 4611686018427387904, .complex .f64 13835058055282163712 0, .complex .f64 0 13835058055282163712], .int .i64 0]) ∧ Below w.heap.size w w' := by
  obtain ⟨va, vb, vc, vd, rfl, h1, h2, h3, h4⟩ := h
  have T := Response_any va vb vc vd _ _ _ _ w hq h1 h2 h3 h4 (by decide) (by decide) (by decide) (by decide)
  rwa [ex_r, ex_e6] at T
theorem aw_s (u : Value) (w : World) (h : SingleIs w 1 u) : Calls Tryz.prog 28 #[u, .int .i64 20] w fun e w' => e = .returned (.tuple #[.int .i64 3, .int .i64 0]) ∧ Below w.heap.size w w' := by
  obtain ⟨va, vb, vc, vd, rfl, h1, h2, h3, h4⟩ := h
  have T := Strength_any va vb vc vd _ _ _ _ 20 w h1 h2 h3 h4 (by decide) (by decide) (by decide) (by decide)
  rwa [ex_s] at T
theorem aw_m (u x : Value) (w : World) (h : SingleIs w 1 u) (hx : Pairs w x [(1, 4)]) : Calls Tryz.prog 36 #[u, x] w fun e w' => (∃ u, e = .returned (.tuple #[u, .bool true, .int .i64 0]) ∧ Ints w' u [3]) ∧ Below w.heap.size w w' := by
  obtain ⟨va, vb, vc, vd, rfl, h1, h2, h3, h4⟩ := h
  have T := Certify_any va vb vc vd x _ _ _ _ _ w h1 h2 h3 h4 hx (by decide) (by decide) (by decide) (by decide) (by decide)
  rwa [ex_m, ex_e9] at T
theorem aw_no (u x : Value) (w : World) (h : SingleIs w 1 u) (hx : Pairs w x [(1, 2)]) : Calls Tryz.prog 36 #[u, x] w fun e w' => (∃ u, e = .returned (.tuple #[u, .bool false, .int .i64 0]) ∧ Ints w' u []) ∧ Below w.heap.size w w' := by
  obtain ⟨va, vb, vc, vd, rfl, h1, h2, h3, h4⟩ := h
  have T := Certify_any va vb vc vd x _ _ _ _ _ w h1 h2 h3 h4 hx (by decide) (by decide) (by decide) (by decide) (by decide)
  rwa [ex_no, ex_e10] at T
theorem aw_d (v : Value) (w : World) (hv : Ints w v [-1, 2]) : Calls Tryz.prog 19 #[v, .agg #[.int .i64 2, .int .i64 1]] w fun e w' => (∃ u, e = .returned (.tuple #[u, .int .i64 0]) ∧ Ints w' u [-1, 1]) ∧ Below w.heap.size w w' := by
  have T := Scaled_any v _ 2 1 w hv (by decide) (by decide) (by decide)
  rwa [ex_d, ex_e11] at T
theorem aw_in (v : Value) (w : World) (hv : Ints w v [-1, 2]) : Calls Tryz.prog 21 #[v, .agg #[.int .i64 1, .int .i64 1]] w fun e w' => e = .returned (.tuple #[.bool true, .int .i64 0]) ∧ Below w.heap.size w w' := by
  have T := Within_any v _ 1 1 w hv (by decide) (by decide) (by decide)
  rwa [ex_in, ex_e12] at T
theorem aw_out (v : Value) (w : World) (hv : Ints w v [-1, 2]) : Calls Tryz.prog 21 #[v, .agg #[.int .i64 1, .int .i64 2]] w fun e w' => e = .returned (.tuple #[.bool false, .int .i64 0]) ∧ Below w.heap.size w w' := by
  have T := Within_any v _ 1 2 w hv (by decide) (by decide) (by decide)
  rwa [ex_out, ex_e13] at T
theorem aw_f (v u : Value) (w : World) (hv : Ints w v [-1, 2]) (hu : Ints w u [8]) : Calls Tryz.prog 41 #[v, u, .int .i64 3] w fun e w' => (∃ u, e = .returned (.tuple #[u, .int .i64 0]) ∧ Ints w' u [8, 8, 8, 8]) ∧ Below w.heap.size w w' := by
  have T := Stepped_any v u _ _ 3 w hv hu (by decide) (by decide)
  rwa [ex_f, ex_e14] at T
theorem aw_g (v u : Value) (w : World) (hv : Ints w v [0, 0, 3]) (hu : Ints w u [5, 7]) : Calls Tryz.prog 41 #[v, u, .int .i64 1] w fun e w' => (∃ u, e = .returned (.tuple #[u, .int .i64 0]) ∧ Ints w' u [5, 21, 0]) ∧ Below w.heap.size w w' := by
  have T := Stepped_any v u _ _ 1 w hv hu (by decide) (by decide)
  rwa [ex_g, ex_e15] at T
theorem aw_ring (w : World) : Calls Tryz.prog 55 #[.int .i64 6, .int .i64 2, .int .i64 1] w fun e w' => (∃ u, e = .returned (.tuple #[u, .int .i64 0]) ∧ Ints w' u [1, 2, 2, 2, 3, 0]) ∧ Below w.heap.size w w' := by
  have T := Made_any 6 2 1 w
  rwa [ex_ring, ex_e16] at T
theorem aw_n (v : Value) (w : World) (hv : Ints w v [1, 2, 2, 2, 3, 0]) : Calls Tryz.prog 46 #[v, .int .i64 5, .int .i64 2] w fun e w' => e = .returned (.tuple #[.int .i64 3, .int .i64 0]) ∧ Below w.heap.size w w' := by
  have T := Locks_any v _ 5 2 w hv (by decide)
  rwa [ex_n, ex_e17] at T
theorem aw_l (v : Value) (w : World) (hv : Ints w v [1, 2, 2, 2, 3, 0]) : Calls Tryz.prog 44 #[v, .int .i64 2] w fun e w' => (∃ u, e = .returned (.tuple #[u, .int .i64 0]) ∧ Ints w' u [0, 1, 2, 3, 4, 5]) ∧ Below w.heap.size w w' := by
  have T := Basin_any v _ 2 w hv (by decide)
  rwa [ex_l, ex_e18] at T
theorem aw_e19 (v u : Value) (w : World) (hv : Ints w v [1, 2, 2, 2, 3, 0]) (hu : Ints w u [2, 1, 0, 1, 2, 3]) : Calls Tryz.prog 47 #[v, .int .i64 2, u] w fun e w' => e = .returned (.int .i64 0) ∧ Below w.heap.size w w' := by
  have T := CheckBasin_any v u _ _ 2 w hv hu (by decide) (by decide)
  rwa [ex_e19] at T
theorem aw_t (u : Value) (w : World) (hp : Pows w) (h : SingleIs w 1 u) : Calls Tryz.prog 82 #[u] w fun e w' => e = .returned (.tuple #[.string ⟨#[112, 108, 97, 110, 116, 110, 117, 109, 32, 49, 10, 112, 108, 97, 110, 116, 100, 101, 110, 32, 45, 49, 32, 50, 10, 99, 111, 110, 116, 114, 111, 108, 108, 101, 114, 110, 117, 109, 32, 49, 10, 99, 111, 110, 116, 114, 111, 108, 108, 101, 114, 100, 101, 110, 32, 49, 10]⟩, .int .i64 0]) ∧ Below w.heap.size w w' := by
  obtain ⟨va, vb, vc, vd, rfl, h1, h2, h3, h4⟩ := h
  have T := Print_any va vb vc vd _ _ _ _ w hp h1 h2 h3 h4 (by decide) (by decide) (by decide) (by decide)
  rwa [ex_t, ex_e6] at T

theorem RowsOf.of_blk {w : World} {B n : Nat} {T : TypeId} {us : List Value} {ll : List (List Int)} (h : Blk w B T us) (hn : n = us.length) (hl : us.length = ll.length) (hr : ∀ (j : Nat) (u : Value) (l : List Int), us[j]? = some u → ll[j]? = some l → Ints w u l) :
    RowsOf w (.slice (some ⟨B, 0, none⟩) n n) ll := by
  subst hn
  exact ⟨us, ⟨_, _, rfl, Nat.le_refl _, fun _ => ⟨_, _, rfl, fun j u hj => by rw [Nat.zero_add]; exact h.cell hj⟩⟩, hl, hr⟩
theorem RowsOf.lit1 {w : World} {B : Nat} {T : TypeId} {u : Value} {l : List Int} (h : Blk w B T [u]) (hu : Ints w u l) : RowsOf w (.slice (some ⟨B, 0, none⟩) 1 1) [l] :=
  RowsOf.of_blk h rfl rfl fun j x y hx hy => by
    match j, hx, hy with
    | 0, hx, hy => cases hx; cases hy; exact hu
theorem RowsOf.lit2 {w : World} {B : Nat} {T : TypeId} {u u' : Value} {l l' : List Int} (h : Blk w B T [u, u']) (hu : Ints w u l) (hu' : Ints w u' l') : RowsOf w (.slice (some ⟨B, 0, none⟩) 2 2) [l, l'] :=
  RowsOf.of_blk h rfl rfl fun j x y hx hy => by
    match j, hx, hy with
    | 0, hx, hy => cases hx; cases hy; exact hu
    | 1, hx, hy => cases hx; cases hy; exact hu'
theorem sameInts (u v : Value) (l : List Int) (w : World) (hu : Ints w u l) (hv : Ints w v l) (hl : l.length ≤ 1000000) : Calls Tryz.prog 24 #[u, v] w fun e w' => e = .returned (.bool true) ∧ Below w.heap.size w w' := by
  have T := SameInts_any u v l l w hu hv (by omega)
  rwa [show decide (l = l) = true by simp] at T
theorem sameRows (u v : Value) (l : List (List Int)) (w : World) (hu : RowsOf w u l) (hv : RowsOf w v l) (hl : l.length ≤ 1000000) (hl2 : ∀ x ∈ l, x.length ≤ 1000000) : Calls Tryz.prog 79 #[u, v] w fun e w' => e = .returned (.bool true) ∧ Below w.heap.size w w' := by
  have T := SameRows_any u v l l w hu hv (by omega) (fun x hx => by have := hl2 x hx; omega)
  rwa [show decide (l = l) = true by simp] at T
theorem Pairs.lit1 {w : World} {B : Nat} {T : TypeId} {a b : Int} (h : Blk w B T [.int .i64 a, .int .i64 b]) : Pairs w (.slice (some ⟨B, 0, none⟩) 1 1) [(a, b)] :=
  ⟨_, _, rfl, Nat.le_refl _, fun _ => ⟨_, _, rfl, fun j x hj => by
    match j, hj with
    | 0, hj => cases hj; exact ⟨h.cell rfl, h.cell rfl⟩⟩⟩
theorem neqR (w : World) : Sem.run Tryz.prog (binOp .neq 49 (.agg #[.complex .f64 4611686018427387904 0, .complex .f64 0 4611686018427387904, .complex .f64 13835058055282163712 0, .complex .f64 0 13835058055282163712]) (.agg #[.complex .f64 4611686018427387904 0, .complex .f64 0 4611686018427387904, .complex .f64 13835058055282163712 0, .complex .f64 0 13835058055282163712])) w = .ok (.bool false) w := by kernel_rfl
theorem neqG (w : World) : Sem.run Tryz.prog (binOp .neq 59 (.agg #[.int .i64 (-1), .int .i64 0]) (.agg #[.int .i64 (-1), .int .i64 0])) w = .ok (.bool false) w := by kernel_rfl

end Go.Proofs.YtnlmaildmeihgaaGreatDoor

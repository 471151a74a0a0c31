/- The package harmonic: Turned, Strength, Sign. -/
import Derived.Test.YtpkaoechbmbolaaGreatDoorHarE
namespace Go.Proofs.YtpkaoechbmbolaaGreatDoor
set_option linter.unusedSimpArgs false
set_option linter.unusedVariables false
open Go.RowKit

def turnE (x0 x1 x2 x3 n : Int) : Int := firstE [cycE x0 x1 x2 x3, withinE n (-100000) 100000]
/-- the number of turns, modulo 12. -/
def mod12 (n : Int) : Nat := ((n.tmod 12 + 12) % 12).toNat
theorem mod12_lt (n : Int) : mod12 n < 12 := by unfold mod12; omega
theorem mod12_eq (n : Int) : (n.tmod 12 + 12) % 12 = mod12 n := by unfold mod12; omega
def cyOr' (e : Int) (x : Int × Int × Int × Int) : Value := cyOr e x.1 x.2.1 x.2.2.1 x.2.2.2

def twoOr (e a b : Int) : Value := if e = 0 then .agg #[.int .i64 a, .int .i64 b] else .agg #[.int .i64 0, .int .i64 0]
set_option maxRecDepth 100000 in
set_option maxHeartbeats 4000000 in
theorem StrengthH_any (x0 x1 x2 x3 : Int) (w : World) :
    Calls Tryz.prog 23 #[.agg #[.int .i64 x0, .int .i64 x1, .int .i64 x2, .int .i64 x3]] w fun e w' =>
      e = .returned (.tuple #[twoOr (cycE x0 x1 x2 x3) (st0 x0 x1 x2 x3) (st1 x0 x1 x2 x3), .int .i64 (cycE x0 x1 x2 x3)]) ∧ Below w.heap.size w w' := by
  have TX := Lib.hid (fun W => checkC_any x0 x1 x2 x3 W)
  have TT := Lib.hid (fun W => strengthC_any x0 x1 x2 x3 W)
  generalize cycE x0 x1 x2 x3 = E at TX ⊢
  generalize st0 x0 x1 x2 x3 = m0 at TT ⊢
  generalize st1 x0 x1 x2 x3 = m1 at TT ⊢
  go_enter Tryz.func23, Tryz.ntmps23
  go_upto_region 1 with fail
  obtain ⟨W1, hW1⟩ : ∃ v, v = World.alloc w (Obj.cells #[.int .i64 x0, .int .i64 x1, .int .i64 x2, .int .i64 x3] 68) := ⟨_, rfl⟩
  have kW1 : Below w.heap.size w W1 := by rw [hW1]; exact below_new _ _
  have iW1 : Blk W1 (w.heap.size) 68 [.int .i64 x0, .int .i64 x1, .int .i64 x2, .int .i64 x3] := by rw [hW1]; exact Blk.new _ _ _
  have sW1 : W1.heap.size = w.heap.size + 1 := by rw [hW1]; simp
  rw [← hW1]
  clear hW1
  obtain ⟨W2, hW2⟩ : ∃ v, v = World.alloc W1 (Obj.cells #[.int .i64 0, .int .i64 0] 79) := ⟨_, rfl⟩
  have kW2 : Below W1.heap.size W1 W2 := by rw [hW2]; exact below_new _ _
  have iW2 : Blk W2 (w.heap.size + 1) 79 [.int .i64 0, .int .i64 0] := by rw [hW2, ← sW1]; exact Blk.new _ _ _
  have sW2 : W2.heap.size = w.heap.size + 1 + 1 := by rw [hW2]; simp [sW1]
  rw [← hW2]
  clear hW2
  clear sW1 sW2
  have i1 := iW1.carry kW2
  have i3 := iW2
  have hB := bthen kW1 kW2
  clear iW1 kW1 iW2 kW2
  have a0 := i1.cell (j := 0) (v := .int .i64 x0) rfl
  have a1 := i1.cell (j := 1) (v := .int .i64 x1) rfl
  have a2 := i1.cell (j := 2) (v := .int .i64 x2) rfl
  have a3 := i1.cell (j := 3) (v := .int .i64 x3) rfl
  go_wp2_with fail
  clear a0 a1 a2 a3
  refine (TX.out W2).mono ?_
  rintro e W4 ⟨rfl, hl⟩
  replace i1 := i1.carry hl
  replace i3 := i3.carry hl
  replace hB := bthen hB hl
  clear hl
  have a0 := i1.cell (j := 0) (v := .int .i64 x0) rfl
  have a1 := i1.cell (j := 1) (v := .int .i64 x1) rfl
  have a2 := i1.cell (j := 2) (v := .int .i64 x2) rfl
  have a3 := i1.cell (j := 3) (v := .int .i64 x3) rfl
  have c0 := i3.cell (j := 0) (v := .int .i64 0) rfl
  have c1 := i3.cell (j := 1) (v := .int .i64 0) rfl
  have f0 := i3.frozen 0
  have f1 := i3.frozen 1
  by_cases he : E = 0
  · subst he
    clear c0 c1 f0 f1
    go_wp2_with fail
    refine (TT.out W4).mono ?_
    rintro e W6 ⟨rfl, hl⟩
    replace i3 := i3.carry hl
    replace hB := bthen hB hl
    clear hl a0 a1 a2 a3
    have c0 := i3.cell (j := 0) (v := .int .i64 0) rfl
    have c1 := i3.cell (j := 1) (v := .int .i64 0) rfl
    have f0 := i3.frozen 0
    have f1 := i3.frozen 1
    go_wp2_with fail
    have h9 := (i3.set 0 (.int .i64 m0)).set 1 (.int .i64 m1)
    have z0 := h9.cell (j := 0) (v := .int .i64 m0) rfl
    have z1 := h9.cell (j := 1) (v := .int .i64 m1) rfl
    exact bodyPost_ret (v := .tuple #[.agg #[.int .i64 m0, .int .i64 m1], .int .i64 0]) (by simp [results, Tryz.f23, go_sem, z0, z1]) rfl ⟨by rw [twoOr, if_pos rfl], (hB.setCell (by simp; try omega) _).setCell (by simp; try omega) _⟩
  · have z : (E == 0) = false := by rw [beq_eq_false_iff_ne]; exact he
    have HNE := Lib.hid he
    go_wp2_with fail
    have h9 := (i3.set 0 (.int .i64 0)).set 1 (.int .i64 0)
    have z0 := h9.cell (j := 0) (v := .int .i64 0) rfl
    have z1 := h9.cell (j := 1) (v := .int .i64 0) rfl
    exact bodyPost_ret (v := .tuple #[.agg #[.int .i64 0, .int .i64 0], .int .i64 E]) (by simp [results, Tryz.f23, go_sem, z0, z1]) rfl ⟨by rw [twoOr, if_neg HNE.out], (hB.setCell (by simp; try omega) _).setCell (by simp; try omega) _⟩

def rootE (a b : Int) : Int := allE [a, b] 1073741824
theorem rootE_ok {a b : Int} (h : rootE a b = 0) : (-1073741824 ≤ a ∧ a ≤ 1073741824) ∧ (-1073741824 ≤ b ∧ b ≤ 1073741824) := by
  by_cases ha : a < -1073741824 ∨ 1073741824 < a
  · have h2 : rootE a b = 3 := by simp [rootE, allE, firstE, withinE, ha]
    omega
  · by_cases hb : b < -1073741824 ∨ 1073741824 < b
    · have h2 : rootE a b = 3 := by simp [rootE, allE, firstE, withinE, ha, hb]
      omega
    · omega
end Go.Proofs.YtpkaoechbmbolaaGreatDoor

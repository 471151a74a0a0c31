/- The package phasor: numbers, components. (printed by gen/thmH.py) -/
import Derived.Test.YtjmdnolmaofbiaaDoorThmG
namespace Go.Proofs.YtjmdnolmaofbiaaDoor
set_option linter.unusedSimpArgs false
set_option linter.unusedVariables false
open Go.RowKit

set_option maxRecDepth 100000 in
set_option maxHeartbeats 1000000 in
theorem plusP_any (a b c d : Int) (w : World) :
    Calls Tryd.prog 37 #[.agg #[.int .i64 a, .int .i64 b], .agg #[.int .i64 c, .int .i64 d]] w fun e w' => e = .returned (.agg #[.int .i64 (wrap64 (a + c)), .int .i64 (wrap64 (b + d))]) ∧ Below w.heap.size w w' := by
  go_enter Tryd.func37, Tryd.ntmps37
  go_upto_region 1 with fail
  obtain ⟨W1, hW1⟩ : ∃ v, v = World.alloc w (Obj.cells #[.int .i64 a, .int .i64 b] 88) := ⟨_, rfl⟩
  have kW1 : Below w.heap.size w W1 := by rw [hW1]; exact below_new _ _
  have iW1 : Blk W1 (w.heap.size) 88 [.int .i64 a, .int .i64 b] := by rw [hW1]; exact Blk.new _ _ _
  have sW1 : W1.heap.size = w.heap.size + 1 := by rw [hW1]; simp
  rw [← hW1]
  clear hW1
  obtain ⟨W2, hW2⟩ : ∃ v, v = World.alloc W1 (Obj.cells #[.int .i64 c, .int .i64 d] 88) := ⟨_, rfl⟩
  have kW2 : Below W1.heap.size W1 W2 := by rw [hW2]; exact below_new _ _
  have iW2 : Blk W2 (w.heap.size + 1) 88 [.int .i64 c, .int .i64 d] := by rw [hW2, ← sW1]; exact Blk.new _ _ _
  have sW2 : W2.heap.size = w.heap.size + 1 + 1 := by rw [hW2]; simp [sW1]
  rw [← hW2]
  clear hW2
  obtain ⟨W3, hW3⟩ : ∃ v, v = World.alloc W2 (Obj.cells #[.int .i64 (0), .int .i64 (0)] 88) := ⟨_, rfl⟩
  have kW3 : Below W2.heap.size W2 W3 := by rw [hW3]; exact below_new _ _
  have iW3 : Blk W3 (w.heap.size + 1 + 1) 88 [.int .i64 (0), .int .i64 (0)] := by rw [hW3, ← sW2]; exact Blk.new _ _ _
  have sW3 : W3.heap.size = w.heap.size + 1 + 1 + 1 := by rw [hW3]; simp [sW2]
  rw [← hW3]
  clear hW3
  clear sW1 sW2 sW3
  have i1 := ((iW1.carry kW2).carry kW3)
  have i2 := (iW2.carry kW3)
  have i3 := iW3
  have hB : Below w.heap.size w W3 := (bthen kW1 (bthen kW2 kW3))
  clear iW1 kW1 iW2 kW2 iW3 kW3
  have c0 := i1.cell (j := 0) (v := .int .i64 a) rfl
  have c1 := i1.cell (j := 1) (v := .int .i64 b) rfl
  have c2 := i2.cell (j := 0) (v := .int .i64 c) rfl
  have c3 := i2.cell (j := 1) (v := .int .i64 d) rfl
  have c4 := i3.cell (j := 0) (v := .int .i64 (0)) rfl
  have c5 := i3.cell (j := 1) (v := .int .i64 (0)) rfl
  have f0 := i3.frozen 0
  have f1 := i3.frozen 1
  go_wp2_with fail
  have h9 := ((i3.set 0 (.int .i64 (wrap64 (a + c)))).set 1 (.int .i64 (wrap64 (b + d))))
  have z0 := h9.cell (j := 0) (v := .int .i64 (wrap64 (a + c))) rfl
  have z1 := h9.cell (j := 1) (v := .int .i64 (wrap64 (b + d))) rfl
  exact bodyPost_ret (v := .agg #[.int .i64 (wrap64 (a + c)), .int .i64 (wrap64 (b + d))]) (by simp [results, Tryd.f37, go_sem, z0, z1]) rfl ⟨rfl, ((hB.setCell (by simp; try omega) _).setCell (by simp; try omega) _)⟩

theorem eqEis (a b c d : Int) (W : World) : Sem.run Tryd.prog (binOp .eql 88 (.agg #[.int .i64 a, .int .i64 b]) (.agg #[.int .i64 c, .int .i64 d])) W = .ok (.bool (a == c && b == d)) W := by
  go_simp
  by_cases h1 : a = c <;> by_cases h2 : b = d <;> simp [h1, h2]
def timP (a b c d : Int) : Int × Int := if (c == 1 && d == 0) = true then (a, b) else (wrap64 (wrap64 (a * c) - wrap64 (b * d)), wrap64 (wrap64 (wrap64 (a * d) + wrap64 (b * c)) - wrap64 (b * d)))
set_option maxRecDepth 100000 in
set_option maxHeartbeats 1000000 in
theorem timesP_one (a b c d : Int) (w : World) (hz : (c == 1 && d == 0) = true) :
    Calls Tryd.prog 38 #[.agg #[.int .i64 a, .int .i64 b], .agg #[.int .i64 c, .int .i64 d]] w fun e w' => e = .returned (.agg #[.int .i64 a, .int .i64 b]) ∧ Below w.heap.size w w' := by
  have heq := fun W => eqEis c d 1 0 W
  rw [hz] at heq
  go_enter Tryd.func38, Tryd.ntmps38
  go_upto_region 1 with fail
  obtain ⟨W1, hW1⟩ : ∃ v, v = World.alloc w (Obj.cells #[.int .i64 a, .int .i64 b] 88) := ⟨_, rfl⟩
  have kW1 : Below w.heap.size w W1 := by rw [hW1]; exact below_new _ _
  have iW1 : Blk W1 (w.heap.size) 88 [.int .i64 a, .int .i64 b] := by rw [hW1]; exact Blk.new _ _ _
  have sW1 : W1.heap.size = w.heap.size + 1 := by rw [hW1]; simp
  rw [← hW1]
  clear hW1
  obtain ⟨W2, hW2⟩ : ∃ v, v = World.alloc W1 (Obj.cells #[.int .i64 c, .int .i64 d] 88) := ⟨_, rfl⟩
  have kW2 : Below W1.heap.size W1 W2 := by rw [hW2]; exact below_new _ _
  have iW2 : Blk W2 (w.heap.size + 1) 88 [.int .i64 c, .int .i64 d] := by rw [hW2, ← sW1]; exact Blk.new _ _ _
  have sW2 : W2.heap.size = w.heap.size + 1 + 1 := by rw [hW2]; simp [sW1]
  rw [← hW2]
  clear hW2
  obtain ⟨W3, hW3⟩ : ∃ v, v = World.alloc W2 (Obj.cells #[.int .i64 (0), .int .i64 (0)] 88) := ⟨_, rfl⟩
  have kW3 : Below W2.heap.size W2 W3 := by rw [hW3]; exact below_new _ _
  have iW3 : Blk W3 (w.heap.size + 1 + 1) 88 [.int .i64 (0), .int .i64 (0)] := by rw [hW3, ← sW2]; exact Blk.new _ _ _
  have sW3 : W3.heap.size = w.heap.size + 1 + 1 + 1 := by rw [hW3]; simp [sW2]
  rw [← hW3]
  clear hW3
  clear sW1 sW2 sW3
  have i1 := ((iW1.carry kW2).carry kW3)
  have i2 := (iW2.carry kW3)
  have i3 := iW3
  have hB : Below w.heap.size w W3 := (bthen kW1 (bthen kW2 kW3))
  clear iW1 kW1 iW2 kW2 iW3 kW3
  have c0 := i1.cell (j := 0) (v := .int .i64 a) rfl
  have c1 := i1.cell (j := 1) (v := .int .i64 b) rfl
  have c2 := i2.cell (j := 0) (v := .int .i64 c) rfl
  have c3 := i2.cell (j := 1) (v := .int .i64 d) rfl
  have c4 := i3.cell (j := 0) (v := .int .i64 (0)) rfl
  have c5 := i3.cell (j := 1) (v := .int .i64 (0)) rfl
  have f0 := i3.frozen 0
  have f1 := i3.frozen 1
  go_wp2_with fail
  have h9 := ((i3.set 0 (.int .i64 a)).set 1 (.int .i64 b))
  have z0 := h9.cell (j := 0) (v := .int .i64 a) rfl
  have z1 := h9.cell (j := 1) (v := .int .i64 b) rfl
  exact bodyPost_ret (v := .agg #[.int .i64 a, .int .i64 b]) (by simp [results, Tryd.f38, go_sem, z0, z1]) rfl ⟨rfl, ((hB.setCell (by simp; try omega) _).setCell (by simp; try omega) _)⟩

set_option maxRecDepth 100000 in
set_option maxHeartbeats 1000000 in
theorem timesP_gen (a b c d : Int) (w : World) (hz : (c == 1 && d == 0) = false) :
    Calls Tryd.prog 38 #[.agg #[.int .i64 a, .int .i64 b], .agg #[.int .i64 c, .int .i64 d]] w fun e w' => e = .returned (.agg #[.int .i64 (wrap64 (wrap64 (a * c) - wrap64 (b * d))), .int .i64 (wrap64 (wrap64 (wrap64 (a * d) + wrap64 (b * c)) - wrap64 (b * d)))]) ∧ Below w.heap.size w w' := by
  have heq := fun W => eqEis c d 1 0 W
  rw [hz] at heq
  go_enter Tryd.func38, Tryd.ntmps38
  go_upto_region 1 with fail
  obtain ⟨W1, hW1⟩ : ∃ v, v = World.alloc w (Obj.cells #[.int .i64 a, .int .i64 b] 88) := ⟨_, rfl⟩
  have kW1 : Below w.heap.size w W1 := by rw [hW1]; exact below_new _ _
  have iW1 : Blk W1 (w.heap.size) 88 [.int .i64 a, .int .i64 b] := by rw [hW1]; exact Blk.new _ _ _
  have sW1 : W1.heap.size = w.heap.size + 1 := by rw [hW1]; simp
  rw [← hW1]
  clear hW1
  obtain ⟨W2, hW2⟩ : ∃ v, v = World.alloc W1 (Obj.cells #[.int .i64 c, .int .i64 d] 88) := ⟨_, rfl⟩
  have kW2 : Below W1.heap.size W1 W2 := by rw [hW2]; exact below_new _ _
  have iW2 : Blk W2 (w.heap.size + 1) 88 [.int .i64 c, .int .i64 d] := by rw [hW2, ← sW1]; exact Blk.new _ _ _
  have sW2 : W2.heap.size = w.heap.size + 1 + 1 := by rw [hW2]; simp [sW1]
  rw [← hW2]
  clear hW2
  obtain ⟨W3, hW3⟩ : ∃ v, v = World.alloc W2 (Obj.cells #[.int .i64 (0), .int .i64 (0)] 88) := ⟨_, rfl⟩
  have kW3 : Below W2.heap.size W2 W3 := by rw [hW3]; exact below_new _ _
  have iW3 : Blk W3 (w.heap.size + 1 + 1) 88 [.int .i64 (0), .int .i64 (0)] := by rw [hW3, ← sW2]; exact Blk.new _ _ _
  have sW3 : W3.heap.size = w.heap.size + 1 + 1 + 1 := by rw [hW3]; simp [sW2]
  rw [← hW3]
  clear hW3
  clear sW1 sW2 sW3
  have i1 := ((iW1.carry kW2).carry kW3)
  have i2 := (iW2.carry kW3)
  have i3 := iW3
  have hB : Below w.heap.size w W3 := (bthen kW1 (bthen kW2 kW3))
  clear iW1 kW1 iW2 kW2 iW3 kW3
  have c0 := i1.cell (j := 0) (v := .int .i64 a) rfl
  have c1 := i1.cell (j := 1) (v := .int .i64 b) rfl
  have c2 := i2.cell (j := 0) (v := .int .i64 c) rfl
  have c3 := i2.cell (j := 1) (v := .int .i64 d) rfl
  have c4 := i3.cell (j := 0) (v := .int .i64 (0)) rfl
  have c5 := i3.cell (j := 1) (v := .int .i64 (0)) rfl
  have f0 := i3.frozen 0
  have f1 := i3.frozen 1
  go_wp2_with fail
  have h9 := ((i3.set 0 (.int .i64 (wrap64 (wrap64 (a * c) - wrap64 (b * d))))).set 1 (.int .i64 (wrap64 (wrap64 (wrap64 (a * d) + wrap64 (b * c)) - wrap64 (b * d)))))
  have z0 := h9.cell (j := 0) (v := .int .i64 (wrap64 (wrap64 (a * c) - wrap64 (b * d)))) rfl
  have z1 := h9.cell (j := 1) (v := .int .i64 (wrap64 (wrap64 (wrap64 (a * d) + wrap64 (b * c)) - wrap64 (b * d)))) rfl
  exact bodyPost_ret (v := .agg #[.int .i64 (wrap64 (wrap64 (a * c) - wrap64 (b * d))), .int .i64 (wrap64 (wrap64 (wrap64 (a * d) + wrap64 (b * c)) - wrap64 (b * d)))]) (by simp [results, Tryd.f38, go_sem, z0, z1]) rfl ⟨rfl, ((hB.setCell (by simp; try omega) _).setCell (by simp; try omega) _)⟩

theorem timesP_any (a b c d : Int) (w : World) :
    Calls Tryd.prog 38 #[.agg #[.int .i64 a, .int .i64 b], .agg #[.int .i64 c, .int .i64 d]] w fun e w' => e = .returned (.agg #[.int .i64 (timP a b c d).1, .int .i64 (timP a b c d).2]) ∧ Below w.heap.size w w' := by
  cases hz : (c == 1 && d == 0) with
  | true =>
    have ht : timP a b c d = (a, b) := if_pos hz
    rw [ht]; exact timesP_one a b c d w hz
  | false =>
    have ht : timP a b c d = (wrap64 (wrap64 (a * c) - wrap64 (b * d)), wrap64 (wrap64 (wrap64 (a * d) + wrap64 (b * c)) - wrap64 (b * d))) := if_neg (by rw [hz]; decide)
    rw [ht]; exact timesP_gen a b c d w hz
theorem timP_w (c d : Int) (hc : -1000000 ≤ c ∧ c ≤ 1000000) (hd : -1000000 ≤ d ∧ d ≤ 1000000) : timP 0 1 c d = (-d, c - d) := by
  unfold timP
  by_cases hz : (c == 1 && d == 0) = true
  · rw [if_pos hz]
    simp only [Bool.and_eq_true, beq_iff_eq] at hz
    rw [hz.1, hz.2]; rfl
  · rw [if_neg hz]
    unfold wrap64
    refine Prod.ext ?_ ?_ <;> simp only <;> omega
theorem timP_w2 (c d : Int) (hc : -1000000 ≤ c ∧ c ≤ 1000000) (hd : -1000000 ≤ d ∧ d ≤ 1000000) : timP (-1) (-1) c d = (d - c, -c) := by
  unfold timP
  by_cases hz : (c == 1 && d == 0) = true
  · rw [if_pos hz]
    simp only [Bool.and_eq_true, beq_iff_eq] at hz
    rw [hz.1, hz.2]; rfl
  · rw [if_neg hz]
    unfold wrap64
    refine Prod.ext ?_ ?_ <;> simp only <;> omega
/-- a small number. -/
def Sml (x : Int) : Prop := -1000 ≤ x ∧ x ≤ 1000

set_option maxRecDepth 100000 in
set_option maxHeartbeats 1000000 in
theorem withinE2_any (a b m : Int) (w : World) (hm : 1000 ≤ m ∧ m ≤ 2000000) (ha : Sml a) (hb : Sml b) :
    Calls Tryd.prog 41 #[.agg #[.int .i64 a, .int .i64 b], .int .i64 m] w fun e w' => e = .returned (.bool true) ∧ Below w.heap.size w w' := by
  unfold Sml at ha hb
  have q0 : IntKind.i64.wrap (-m) = -m := IntWalk.i64_in _ (by omega)
  have q1 : -m ≤ a := by omega
  have q2 : a ≤ m := by omega
  have q3 : -m ≤ b := by omega
  have q4 : b ≤ m := by omega
  go_enter Tryd.func41, Tryd.ntmps41
  go_upto_region 1 with fail
  obtain ⟨W1, hW1⟩ : ∃ v, v = World.alloc w (Obj.cells #[.int .i64 a, .int .i64 b] 88) := ⟨_, rfl⟩
  have kW1 : Below w.heap.size w W1 := by rw [hW1]; exact below_new _ _
  have iW1 : Blk W1 (w.heap.size) 88 [.int .i64 a, .int .i64 b] := by rw [hW1]; exact Blk.new _ _ _
  have sW1 : W1.heap.size = w.heap.size + 1 := by rw [hW1]; simp
  rw [← hW1]
  clear hW1
  clear sW1
  have i1 := iW1
  have hB : Below w.heap.size w W1 := kW1
  clear iW1 kW1
  have c0 := i1.cell (j := 0) (v := .int .i64 a) rfl
  have c1 := i1.cell (j := 1) (v := .int .i64 b) rfl
  go_wp2_with fail
  go_ret
  exact ⟨rfl, hB⟩

end Go.Proofs.YtjmdnolmaofbiaaDoor

/- The reference: SameTelegrams, Same (at equal arguments). -/
import Derived.Test.YtpmngcffkhbofaaGreatDoorVfF
namespace Go.Proofs.YtpmngcffkhbofaaGreatDoor
set_option linter.unusedSimpArgs false
set_option linter.unusedVariables false
open Go.RowKit
set_option maxRecDepth 100000 in
set_option maxHeartbeats 1000000 in
theorem Same_self (c : Int) (a1 a2 : Option Addr) (n1 p1 n2 p2 : Nat) (l : List P2) (w : World) (hl : l.length ≤ 1000000000) (ha : Prs w (.slice a1 n1 p1) l) (hb : Prs w (.slice a2 n2 p2) l) :
 Calls Tryz.prog 13 #[.agg #[.int .i64 c, .slice a1 n1 p1], .agg #[.int .i64 c, .slice a2 n2 p2]] w fun e w' => e = .returned (.bool true) ∧ Below w.heap.size w w' := by
 have T := Lib.hid (fun W h h' => by
  have := SameTrain_any (.slice a1 n1 p1) (.slice a2 n2 p2) l l W h h' hl
  rw [decide_eq_true rfl] at this
  exact this)
 go_enter Tryz.func13, Tryz.ntmps13
 go_upto_region 1 with fail
 obtain ⟨W1, hW1⟩ : ∃ v, v = World.alloc w (Obj.cells #[.int .i64 c, .slice a1 n1 p1] 24) := ⟨_, rfl⟩
 have kW1 : Below w.heap.size w W1 := by rw [hW1]; exact below_new _ _
 have iW1 : Blk W1 (w.heap.size) 24 [.int .i64 c, .slice a1 n1 p1] := by rw [hW1]; exact Blk.new _ _ _
 have sW1 : W1.heap.size = w.heap.size + 1 := by rw [hW1]; simp
 rw [← hW1]
 clear hW1
 obtain ⟨W2, hW2⟩ : ∃ v, v = World.alloc W1 (Obj.cells #[.int .i64 c, .slice a2 n2 p2] 24) := ⟨_, rfl⟩
 have kW2 : Below W1.heap.size W1 W2 := by rw [hW2]; exact below_new _ _
 have iW2 : Blk W2 (w.heap.size + 1) 24 [.int .i64 c, .slice a2 n2 p2] := by rw [hW2, ← sW1]; exact Blk.new _ _ _
 have sW2 : W2.heap.size = w.heap.size + 1 + 1 := by rw [hW2]; simp [sW1]
 rw [← hW2]
 clear hW2
 have i1 := iW1.carry kW2
 have i2 := iW2
 have c0 := i1.cell (j := 0) (v := .int .i64 c) rfl
 have c1 := i1.cell (j := 1) (v := .slice a1 n1 p1) rfl
 have d0 := i2.cell (j := 0) (v := .int .i64 c) rfl
 have d1 := i2.cell (j := 1) (v := .slice a2 n2 p2) rfl
 have hB := bthen kW1 kW2
 replace ha := ha.carry hB
 replace hb := hb.carry hB
 clear i1 i2 iW1 iW2 kW1 kW2 sW1 sW2
 go_wp2_with fail
 refine (T.out W2 ha hb).mono ?_
 rintro e w3 ⟨rfl, hl3⟩
 go_wp2
 go_ret
 exact ⟨rfl, bthen hB hl3⟩
end Go.Proofs.YtpmngcffkhbofaaGreatDoor

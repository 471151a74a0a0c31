/- Words on boxes: cells of one block that the call itself has laid. -/
import Derived.Test.YtipmjjnhdjcoiaaLib
import Derived.RangeFuncBox
import Derived.RangeFuncNested
import Derived.RangeFuncBound
import Derived.RangeFuncCalls
import Derived.RangeFuncLeaves
import Derived.Shelf.Abstract
import Derived.Shelf.RegionOpen
import Derived.OwnWalkIn
import Derived.TacticsInMore
import Derived.LoopNIn
import Derived.LoopIn
import Derived.Test.YtipmjjnhdjcoiaaLoopH
namespace Go.Proofs.Ytipmjjnhdjcoiaa
open Go.RowKit

section
open Go.RowKit Go.Shelf

attribute [local go_sem] Oper.semAt_some

end

section
open Go.RowKit Go.Shelf

attribute [local go_sem] Oper.semAt_some

end

set_option maxHeartbeats 400000 in
theorem checkFirst1_any (x : Int) (w : World) :
    Calls Try.prog 71 #[.int .i64 x] w fun r w' => r = .returned (.int .i64 (withinE x (-1000) 1000)) ∧ w = w' := by
  go_enter Try.func71, Try.ntmps71
  go_wp2_with fail
  refine (within_any _ _ _ _).mono ?_
  rintro e w' ⟨rfl, rfl⟩
  go_wp2
  go_ret
  exact ⟨rfl, rfl⟩

theorem Try.enterCheckFirst1 (args : Array Value) (w : World) : Sem.run Try.prog (callFunc 71 args) w = .ok (.enter 71 args) w :=
  MuLone.run_callFunc_enter Try.func71 (by kernel_rfl) rfl args w

set_option maxHeartbeats 400000 in
theorem checkFirst_any (vp vl : Value) (p l : List Int) (w : World) (hp : Ints w vp p) (hl : Ints w vl l) (hp2 : p.length ≤ 1000000) (hl2 : l.length ≤ 100000) :
    Calls Try.prog 52 #[vp, vl] w fun r w' => r = .returned (.int .i64 (checkFirstE p l)) ∧ Below w.heap.size w w' := by
  have hl0 := hl
  obtain ⟨al, cl, rfl, _, _⟩ := hl
  have dp := degree_i hp hp2
  by_cases h : l.length + 1 = p.length
  · have hb : ((l.length : Int) != (p.length : Int) - 1) = false := by rw [bne_eq_false_iff_eq]; omega
    go_enter Try.func52, Try.ntmps52
    go_wp2_with fail
    refine (dp _).mono ?_
    rintro e w' ⟨rfl, rfl⟩
    go_wp2_with fail
    refine (mappedE_any 71 #[] Try.enterCheckFirst1 (fun x => withinE x (-1000) 1000) _ l _ (by omega) hl0 (fun x _ w1 _ => checkFirst1_any x w1)).mono ?_
    rintro e w1 ⟨⟨u, rfl, hu⟩, hb2⟩
    go_wp2_with fail
    refine (first_any _ _ _ (by simp; unfold maxLen; omega) hu).mono ?_
    rintro e w' ⟨rfl, rfl⟩
    go_wp2
    go_ret
    exact ⟨ret_int (by rw [checkFirstE, if_neg (by omega)]), hb2⟩
  · have hb : ((l.length : Int) != (p.length : Int) - 1) = true := by rw [bne_iff_ne]; omega
    go_enter Try.func52, Try.ntmps52
    go_wp2_with fail
    refine (dp _).mono ?_
    rintro e w' ⟨rfl, rfl⟩
    go_wp2
    go_ret
    exact ⟨ret_int (by rw [checkFirstE, if_pos h]), Below.refl _ _⟩

end Go.Proofs.Ytipmjjnhdjcoiaa

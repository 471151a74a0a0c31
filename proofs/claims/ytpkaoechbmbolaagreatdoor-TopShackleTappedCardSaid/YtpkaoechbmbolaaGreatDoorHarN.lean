/- The package harmonic: the design. -/
import Derived.Test.YtpkaoechbmbolaaGreatDoorHarM
namespace Go.Proofs.YtpkaoechbmbolaaGreatDoor
set_option linter.unusedSimpArgs false
set_option linter.unusedVariables false
open Go.RowKit

theorem Tryz.infoRoot : (Tryz.prog.info? 79).map (·.size) = some 2 := by kernel_rfl
theorem wp_storeA {o : Oper} {a : Act} {w : World} {K : Act → World → Prop} {Q : Exit → Act → World → Prop} (T : TypeId) (x y : Operand) (hop : o.op = .store T x y) (B : Nat) (l old : List Int)
    (hx : a.eval x = .pointer (some ⟨B, 0, none⟩)) (hy : a.eval y = .agg (ia l)) (hB : BlkI w B T old) (hlo : old.length = l.length) (hi : (Tryz.prog.info? T).map (·.size) = some l.length)
    (h : K (a.put o.dst undef) (w.setRow B (ia l))) : o.wp Tryz.prog a w K Q :=
  wp_store_row T x y hop B (ia l) hx hy T (ia old) hB (by rw [hi, ia_size]) (by rw [ia_size, ia_size, hlo]) (ia_one l) h
/-- zeros laid next, and a row stored there. -/
theorem zrow_below (w : World) (T : TypeId) (c c' : Array Value) : Below w.heap.size w ((w.alloc (.cells c T)).setRow w.heap.size c') := below_rowA (below_new w _) (Nat.le_refl _) c'
theorem zrow_blk (w : World) (T : TypeId) (z l : List Int) : BlkI ((w.alloc (.cells (ia z) T)).setRow w.heap.size (ia l)) w.heap.size T l := BlkI.setRowA (BlkI.new w T z) l
theorem BlkI.setRowO {w : World} {B B' : Nat} {T : TypeId} {l : List Int} (h : BlkI w B T l) (hne : B ≠ B') (cs : Array Value) : BlkI (w.setRow B' cs) B T l := Blk.setRow h hne cs
/-- a guarded load that is wanted. -/
theorem wpList_loadG {P : Program} {w : World} {ops : Array Oper} {rest : List Oper} {o : Oper} {a : Act} {Q : Exit → Act → World → Prop} (hg : Region.wanted o (yielded ops a.tmps) = true) (t : TypeId) (x : Operand) (hop : o.op = Op.load t x) {v : Value}
    (h : (Instr.loadAt t (a.eval x)).run P w = .ok v w) (hK : wpList P ops Q rest (a.put o.dst v) w) : wpList P ops Q (o :: rest) a w := by
  refine wpList_step fun K hK' => ?_
  rw [if_pos hg]
  unfold Oper.wp
  rw [exec_load hop h]
  exact hK' _ _ hK

theorem tri0_eq (t : Int × Int × Int) : (triL t == [0, 0, 0]) = tri0 t := by
  simp [triL, tri0, Bool.and_assoc]
theorem desS_succ (m : Nat) (lim : List Int) (n : Nat) : desS m lim (n + 1) = bif desB lim (desS m lim n).2 (triN m n) then (triN m n, stC (orderC (triQ (triN m n)) 1)) else desS m lim n := by
  rw [desS]; cases desB lim (desS m lim n).2 (triN m n) <;> rfl
/-- the numbers of a round. -/
theorem quoN (M k : Nat) : (k : Int).tdiv ((M : Int) + 1) = ((k / (M + 1) : Nat) : Int) := rfl
theorem remN (M k : Nat) : (k : Int).tmod ((M : Int) + 1) = ((k % (M + 1) : Nat) : Int) := rfl

end Go.Proofs.YtpkaoechbmbolaaGreatDoor

/- The reference of chapter 7: Short, CheckTrain, Bumps, Switchings, Bypassed. -/
import Derived.Test.YtgdkomgfalkihaaGreatDoorVdA
namespace Go.Proofs.YtgdkomgfalkihaaGreatDoor
set_option linter.unusedSimpArgs false
set_option linter.unusedVariables false
open Go.RowKit
def shortB (n : Nat) : Bool := decide (n ≤ 12) || decide (n = 257)
theorem Short_any (a : Option Addr) (n c : Nat) (w : World) : Calls Tryz.prog 8 #[.slice a n c] w fun r w' => r = .returned (.bool (shortB n)) ∧ w = w' := by
 by_cases h1 : n ≤ 12
 ·have e : shortB n = true := by unfold shortB; simp [h1]
  have d1 : (n : Int) ≤ 12 := by omega
  rw [e]
  clear e h1
  go_enter Tryz.func8, Tryz.ntmps8
  go_wp2
  go_ret
  exact ⟨rfl, rfl⟩
 ·have d1 : ¬ (n : Int) ≤ 12 := by omega
  by_cases h2 : n = 257
  ·subst h2
   go_enter Tryz.func8, Tryz.ntmps8
   go_wp2
   go_ret
   exact ⟨rfl, rfl⟩
  ·have e : shortB n = false := by unfold shortB; simp [h1, h2]
   have d2 : ((n : Int) == 257) = false := by rw [beq_eq_false_iff_ne]; omega
   rw [e]
   clear e h1 h2
   go_enter Tryz.func8, Tryz.ntmps8
   go_wp2
   go_ret
   exact ⟨rfl, rfl⟩
/-- the reference tells the same error of a pulse. -/
def refG (l : List P2) (k : Nat) (x : P2) : Int := firstE [withinE x.1 0 100000, withinE x.2 0 4095, whenE (decide (0 < k) && decide (x.1 ≤ prevT l k)) 11]
theorem refG_eq (l : List P2) (k : Nat) (x : P2) : refG l k x = trainG l k x := by
 unfold refG trainG
 cases k with
 | succ k => simp
 | zero =>
   by_cases h : withinE x.1 0 100000 = 0
   ·have h1 := (withinE_zero.1 h).1
    have : decide (x.1 ≤ prevT l 0) = false := by simp [prevT]; omega
    rw [this]; simp
   ·simp [firstE, h]
theorem first3R (e0 e1 e2 : Int) (G : Nat) (W : World) (h : BlkI W G 3 [e0, e1, e2]) : Calls Tryz.prog 77 #[.slice (some ⟨G, 0, none⟩) 3 3] W fun r w' => r = .returned (.int .i64 (firstE [e0, e1, e2])) ∧ W = w' :=
 FirstR_any _ _ W (by simp) (BlkI.ints h rfl)
set_option maxRecDepth 100000 in
set_option maxHeartbeats 4000000 in
theorem CheckTrainR_any (v : Value) (l : List P2) (w : World) (hl : l.length ≤ 1000000) (hv : Prs w v l) :
 Calls Tryz.prog 49 #[v] w fun r w' => r = .returned (.int .i64 (trainE l)) ∧ Below w.heap.size w w' := by
 have HV := Lib.hid hv
 obtain ⟨a, cp, rfl, -⟩ := hv.slice
 obtain ⟨N, hN⟩ : ∃ N, N = l.length := ⟨_, rfl⟩
 rw [← hN] at HV hl ⊢
 have HN := Lib.hid hN
 by_cases hbig : 256 < N
 ·have he : trainE l = 5 := by unfold trainE; rw [if_pos (by omega)]
  have d1 : (256 : Int) < (N : Int) := by omega
  rw [he]
  clear he hN hbig hv
  go_enter Tryz.func49, Tryz.ntmps49
  go_wp2
  go_ret
  exact ⟨rfl, Below.refl _ _⟩
 ·have he : trainE l = eachE (trainG l) l := by unfold trainE; rw [if_neg (by omega)]
  have d1 : ¬ (256 : Int) < (N : Int) := by omega
  rw [he]
  have HS := Lib.hid (fun (k : Nat) (x : P2) (hx : l[k]? = some x) (h : firstE ((l.mapIdx (trainG l)).take k) = 0) => eachE_step hx h)
  have HT := Lib.hid (fun (k : Nat) (x : P2) (hx : l[k]? = some x) (h : firstE ((l.mapIdx (trainG l)).take k) = 0) (hne : trainG l k x ≠ 0) => eachE_stop hx h hne)
  have HE := Lib.hid (fun (h : firstE ((l.mapIdx (trainG l)).take l.length) = 0) => eachE_end h)
  obtain ⟨E, hE⟩ : ∃ e, e = eachE (trainG l) l := ⟨_, rfl⟩
  rw [← hE] at HT HE ⊢
  clear he hN hbig hv hE
  go_enter Tryz.func49, Tryz.ntmps49
  go_wp2_with fail
  go_loopw [3] (fun i wr => ∃ k : Nat, k ≤ N ∧ i = .int .i64 k ∧ firstE ((l.mapIdx (trainG l)).take k) = 0 ∧ Below w.heap.size w wr) (fun i _ => N - (intOf i).toNat)
  case atStart => exact ⟨0, by omega, rfl, rfl, Below.refl _ _⟩
  case round =>
   obtain ⟨k, hk, rfl, hf, hbel⟩ := hrel
   have HF := Lib.hid hf
   clear hf
   by_cases hlt : k < N
   ·have hdk : (k : Int) < (N : Int) := by omega
    obtain ⟨x, hx⟩ : ∃ x, l[k]? = some x := ⟨_, List.getElem?_eq_getElem (by rw [← HN.out]; exact hlt)⟩
    obtain ⟨b, off, cp', he, hcs⟩ := (HV.out.carry hbel).head (by rw [← HN.out]; omega)
    simp only [Value.slice.injEq] at he
    obtain ⟨rfl, -, rfl⟩ := he
    obtain ⟨c0, c1⟩ := rw2 (hcs k x hx) (show pV x = [.int .i64 x.1, .int .i64 x.2] from rfl)
    have hg := refG_eq l k x
    have hs := HS.out k x hx HF.out
    have ht := HT.out k x hx HF.out
    have T0 := Lib.hid (fun W => CheckTickR_any x.1 W)
    have T1 := Lib.hid (fun W => CheckSetR_any x.2 W)
    obtain ⟨e0, he0⟩ : ∃ e, e = withinE x.1 0 100000 := ⟨_, rfl⟩
    obtain ⟨e1, he1⟩ : ∃ e, e = withinE x.2 0 4095 := ⟨_, rfl⟩
    rw [← he0] at T0
    rw [← he1] at T1
    have hgx : trainG l k x = firstE [e0, e1, whenE (decide (0 < k) && decide (x.1 ≤ prevT l k)) 11] := by rw [← hg, he0, he1]; rfl
    obtain ⟨R, hR⟩ : ∃ r, r = trainG l k x := ⟨_, rfl⟩
    rw [← hR] at hs ht hgx
    cases k with
    | zero =>
      have TW := Lib.hid (fun W => WhenR_any false 11 W)
      obtain ⟨e2, he2⟩ : ∃ e, e = whenE false 11 := ⟨_, rfl⟩
      rw [← he2] at TW
      have hgx : R = firstE [e0, e1, e2] := by rw [hgx, he2]; rfl
      have TF := Lib.hid (fun G W h => first3R e0 e1 e2 G W h)
      rw [← hgx] at TF
      obtain ⟨x0, x1⟩ := x
      dsimp only at c0 c1 T0 T1
      have c0 : wr.cell? ⟨b, off, none⟩ = some (.int .i64 x0) := by simpa using c0
      have c1 : wr.cell? ⟨b, off + 1, none⟩ = some (.int .i64 x1) := by simpa using c1
      have HS1 := Lib.hid hs
      have HT1 := Lib.hid ht
      clear hg hs ht hgx hR he0 he1 he2 hcs hx hlt
      go_upto_region 6 with fail
      refine wp_region_E 99 (by kernel_rfl) ?_
      obtain ⟨wz, hwz⟩ : ∃ v, v = wr.drew := ⟨_, rfl⟩
      rw [← hwz]
      have hlz : Below wr.heap.size wr wz := by rw [hwz]; exact (Below.refl _ _).drew
      have hbz := bthen hbel hlz
      have c0 := cellb c0 hlz
      have c1 := cellb c1 hlz
      clear hwz hlz
      refine zT 0 { dst := some 14, op := Op.move (Operand.tmp 0), type := 22, pos := "ref.go:95", after := #[], guard := none } (v := ?_) rfl (Or.inl ⟨by rfl, ?_⟩) ?_
      rotate_left
      ·(intro w hE; have c0 := cellb c0 hE; have c1 := cellb c1 hE; (try dsimp only); go_simp); (try with_reducible rfl)
      try simp only [Act.put, zS]
      refine zT 1 { dst := some 15, op := Op.move (Operand.tmp 3), type := 3, pos := "ref.go:95", after := #[], guard := none } (v := ?_) rfl (Or.inl ⟨by rfl, ?_⟩) ?_
      rotate_left
      ·(intro w hE; have c0 := cellb c0 hE; have c1 := cellb c1 hE; (try dsimp only); go_simp); (try with_reducible rfl)
      try simp only [Act.put, zS]
      refine zT 2 { dst := some 16, op := Op.indexAddr 22 (Operand.tmp 14) (Operand.tmp 15), type := 0, pos := "ref.go:95", after := #[{ on := 0, ground := Ground.data }, { on := 1, ground := Ground.data }], guard := none } (v := ?_) rfl (Or.inl ⟨by rfl, ?_⟩) ?_
      rotate_left
      ·(intro w hE; have c0 := cellb c0 hE; have c1 := cellb c1 hE; (try dsimp only); go_simp); (try with_reducible rfl)
      try simp only [Act.put, zS]
      refine zT 3 { dst := some 17, op := Op.fieldAddr 119 (Operand.tmp 16) 0, type := 0, pos := "ref.go:95", after := #[{ on := 2, ground := Ground.data }], guard := none } (v := ?_) rfl (Or.inl ⟨by rfl, ?_⟩) ?_
      rotate_left
      ·(intro w hE; have c0 := cellb c0 hE; have c1 := cellb c1 hE; (try dsimp only); go_simp); (try with_reducible rfl)
      try simp only [Act.put, zS]
      refine zT 4 { dst := some 18, op := Op.load 3 (Operand.tmp 17), type := 3, pos := "ref.go:95", after := #[{ on := 3, ground := Ground.data }], guard := none } (v := ?_) rfl (Or.inl ⟨by rfl, ?_⟩) ?_
      rotate_left
      ·(intro w hE; have c0 := cellb c0 hE; have c1 := cellb c1 hE; (try dsimp only); go_simp); (try with_reducible rfl)
      try simp only [Act.put, zS]
      refine zT 6 { dst := some 20, op := Op.move (Operand.tmp 0), type := 22, pos := "ref.go:95", after := #[], guard := none } (v := ?_) rfl (Or.inl ⟨by rfl, ?_⟩) ?_
      rotate_left
      ·(intro w hE; have c0 := cellb c0 hE; have c1 := cellb c1 hE; (try dsimp only); go_simp); (try with_reducible rfl)
      try simp only [Act.put, zS]
      refine zT 7 { dst := some 21, op := Op.move (Operand.tmp 3), type := 3, pos := "ref.go:95", after := #[], guard := none } (v := ?_) rfl (Or.inl ⟨by rfl, ?_⟩) ?_
      rotate_left
      ·(intro w hE; have c0 := cellb c0 hE; have c1 := cellb c1 hE; (try dsimp only); go_simp); (try with_reducible rfl)
      try simp only [Act.put, zS]
      refine zT 8 { dst := some 22, op := Op.indexAddr 22 (Operand.tmp 20) (Operand.tmp 21), type := 0, pos := "ref.go:95", after := #[{ on := 6, ground := Ground.data }, { on := 7, ground := Ground.data }], guard := none } (v := ?_) rfl (Or.inl ⟨by rfl, ?_⟩) ?_
      rotate_left
      ·(intro w hE; have c0 := cellb c0 hE; have c1 := cellb c1 hE; (try dsimp only); go_simp); (try with_reducible rfl)
      try simp only [Act.put, zS]
      refine zT 9 { dst := some 23, op := Op.fieldAddr 119 (Operand.tmp 22) 1, type := 0, pos := "ref.go:95", after := #[{ on := 8, ground := Ground.data }], guard := none } (v := ?_) rfl (Or.inl ⟨by rfl, ?_⟩) ?_
      rotate_left
      ·(intro w hE; have c0 := cellb c0 hE; have c1 := cellb c1 hE; (try dsimp only); go_simp); (try with_reducible rfl)
      try simp only [Act.put, zS]
      refine zT 10 { dst := some 24, op := Op.load 3 (Operand.tmp 23), type := 3, pos := "ref.go:95", after := #[{ on := 9, ground := Ground.data }], guard := none } (v := ?_) rfl (Or.inl ⟨by rfl, ?_⟩) ?_
      rotate_left
      ·(intro w hE; have c0 := cellb c0 hE; have c1 := cellb c1 hE; (try dsimp only); go_simp); (try with_reducible rfl)
      try simp only [Act.put, zS]
      refine zT 12 { dst := some 26, op := Op.move (Operand.tmp 3), type := 3, pos := "ref.go:95", after := #[], guard := none } (v := ?_) rfl (Or.inl ⟨by rfl, ?_⟩) ?_
      rotate_left
      ·(intro w hE; have c0 := cellb c0 hE; have c1 := cellb c1 hE; (try dsimp only); go_simp); (try with_reducible rfl)
      try simp only [Act.put, zS]
      refine zT 13 { dst := some 27, op := Op.binOp BinOp.gtr 3 (Operand.tmp 26) (Operand.const (Value.int IntKind.i64 0)) 3, type := 4, pos := "ref.go:95", after := #[{ on := 12, ground := Ground.data }], guard := none } (v := ?_) rfl (Or.inl ⟨by rfl, ?_⟩) ?_
      rotate_left
      ·(intro w hE; have c0 := cellb c0 hE; have c1 := cellb c1 hE; (try dsimp only); go_simp); (try with_reducible rfl)
      try simp only [Act.put, zS]
      refine zC 5 { dst := some 19, op := Op.call { callee := Callee.value (Operand.func 15), args := #[Operand.tmp 18], argTypes := #[3] }, type := 3, pos := "ref.go:95", after := #[{ on := 4, ground := Ground.data }], guard := none } (fun w hE => ofPure (T0.out w)) rfl (by rfl) (fun w hE => by (try dsimp only); go_simp) ?_
      try simp only [Act.put, zS]
      refine zC 11 { dst := some 25, op := Op.call { callee := Callee.value (Operand.func 85), args := #[Operand.tmp 24], argTypes := #[3] }, type := 3, pos := "ref.go:95", after := #[{ on := 10, ground := Ground.data }, { on := 5, ground := Ground.chain }], guard := none } (fun w hE => ofPure (T1.out w)) rfl (by rfl) (fun w hE => by (try dsimp only); go_simp) ?_
      try simp only [Act.put, zS]
      refine zT 14 { dst := some 28, op := Op.move (Operand.tmp 27), type := 4, pos := "ref.go:95", after := #[{ on := 13, ground := Ground.data }, { on := 11, ground := Ground.chain }], guard := none } (v := ?_) rfl (Or.inl ⟨by rfl, ?_⟩) ?_
      rotate_left
      ·(intro w hE; have c0 := cellb c0 hE; have c1 := cellb c1 hE; (try dsimp only); go_simp); (try with_reducible rfl)
      try simp only [Act.put, zS]
      refine zT 15 { dst := some 29, op := Op.move (Operand.tmp 0), type := 22, pos := "ref.go:95", after := #[{ on := 14, ground := Ground.guard }], guard := some (14, true) } (v := undef) rfl (Or.inr (Or.inr ⟨by rfl, rfl⟩)) ?_
      try simp only [Act.put, zS]
      refine zT 16 { dst := some 30, op := Op.move (Operand.tmp 3), type := 3, pos := "ref.go:95", after := #[{ on := 14, ground := Ground.guard }], guard := some (14, true) } (v := undef) rfl (Or.inr (Or.inr ⟨by rfl, rfl⟩)) ?_
      try simp only [Act.put, zS]
      refine zT 17 { dst := some 31, op := Op.binOp BinOp.sub 3 (Operand.tmp 30) (Operand.const (Value.int IntKind.i64 1)) 3, type := 3, pos := "ref.go:95", after := #[{ on := 16, ground := Ground.data }, { on := 14, ground := Ground.guard }], guard := some (14, true) } (v := undef) rfl (Or.inr (Or.inr ⟨by rfl, rfl⟩)) ?_
      try simp only [Act.put, zS]
      refine zT 18 { dst := some 32, op := Op.call { callee := Callee.builtin Builtin.max, args := #[Operand.const (Value.int IntKind.i64 0), Operand.tmp 31], argTypes := #[3, 3] }, type := 3, pos := "ref.go:95", after := #[{ on := 17, ground := Ground.data }, { on := 14, ground := Ground.guard }], guard := some (14, true) } (v := undef) rfl (Or.inr (Or.inr ⟨by rfl, rfl⟩)) ?_
      try simp only [Act.put, zS]
      refine zT 19 { dst := some 33, op := Op.indexAddr 22 (Operand.tmp 29) (Operand.tmp 32), type := 0, pos := "ref.go:95", after := #[{ on := 15, ground := Ground.data }, { on := 18, ground := Ground.data }, { on := 14, ground := Ground.guard }], guard := some (14, true) } (v := undef) rfl (Or.inr (Or.inr ⟨by rfl, rfl⟩)) ?_
      try simp only [Act.put, zS]
      refine zT 20 { dst := some 34, op := Op.fieldAddr 119 (Operand.tmp 33) 0, type := 0, pos := "ref.go:95", after := #[{ on := 19, ground := Ground.data }, { on := 14, ground := Ground.guard }], guard := some (14, true) } (v := undef) rfl (Or.inr (Or.inr ⟨by rfl, rfl⟩)) ?_
      try simp only [Act.put, zS]
      refine zT 21 { dst := some 35, op := Op.load 3 (Operand.tmp 34), type := 3, pos := "ref.go:95", after := #[{ on := 20, ground := Ground.data }, { on := 14, ground := Ground.guard }], guard := some (14, true) } (v := undef) rfl (Or.inr (Or.inr ⟨by rfl, rfl⟩)) ?_
      try simp only [Act.put, zS]
      refine zT 22 { dst := some 36, op := Op.move (Operand.tmp 0), type := 22, pos := "ref.go:95", after := #[{ on := 14, ground := Ground.guard }], guard := some (14, true) } (v := undef) rfl (Or.inr (Or.inr ⟨by rfl, rfl⟩)) ?_
      try simp only [Act.put, zS]
      refine zT 23 { dst := some 37, op := Op.move (Operand.tmp 3), type := 3, pos := "ref.go:95", after := #[{ on := 14, ground := Ground.guard }], guard := some (14, true) } (v := undef) rfl (Or.inr (Or.inr ⟨by rfl, rfl⟩)) ?_
      try simp only [Act.put, zS]
      refine zT 24 { dst := some 38, op := Op.indexAddr 22 (Operand.tmp 36) (Operand.tmp 37), type := 0, pos := "ref.go:95", after := #[{ on := 22, ground := Ground.data }, { on := 23, ground := Ground.data }, { on := 14, ground := Ground.guard }], guard := some (14, true) } (v := undef) rfl (Or.inr (Or.inr ⟨by rfl, rfl⟩)) ?_
      try simp only [Act.put, zS]
      refine zT 25 { dst := some 39, op := Op.fieldAddr 119 (Operand.tmp 38) 0, type := 0, pos := "ref.go:95", after := #[{ on := 24, ground := Ground.data }, { on := 14, ground := Ground.guard }], guard := some (14, true) } (v := undef) rfl (Or.inr (Or.inr ⟨by rfl, rfl⟩)) ?_
      try simp only [Act.put, zS]
      refine zT 26 { dst := some 40, op := Op.load 3 (Operand.tmp 39), type := 3, pos := "ref.go:95", after := #[{ on := 25, ground := Ground.data }, { on := 14, ground := Ground.guard }], guard := some (14, true) } (v := undef) rfl (Or.inr (Or.inr ⟨by rfl, rfl⟩)) ?_
      try simp only [Act.put, zS]
      refine zT 27 { dst := some 41, op := Op.binOp BinOp.geq 3 (Operand.tmp 35) (Operand.tmp 40) 3, type := 4, pos := "ref.go:95", after := #[{ on := 21, ground := Ground.data }, { on := 26, ground := Ground.data }, { on := 14, ground := Ground.guard }], guard := some (14, true) } (v := undef) rfl (Or.inr (Or.inr ⟨by rfl, rfl⟩)) ?_
      try simp only [Act.put, zS]
      refine zT 28 { dst := some 42, op := Op.pick (Operand.tmp 28) (Operand.tmp 41) (Operand.const (Value.bool false)), type := 4, pos := "ref.go:95", after := #[{ on := 14, ground := Ground.data }, { on := 27, ground := Ground.data }], guard := none } (v := ?_) rfl (Or.inl ⟨by rfl, ?_⟩) ?_
      rotate_left
      ·(intro w hE; have c0 := cellb c0 hE; have c1 := cellb c1 hE; (try dsimp only); go_simp); (try with_reducible rfl)
      try simp only [Act.put, zS]
      refine zC 29 { dst := some 43, op := Op.call { callee := Callee.value (Operand.func 78), args := #[Operand.tmp 42, Operand.const (Value.int IntKind.i64 11)], argTypes := #[4, 3] }, type := 3, pos := "ref.go:95", after := #[{ on := 28, ground := Ground.data }, { on := 14, ground := Ground.chain }], guard := none } (fun w hE => ofPure (TW.out w)) rfl (by rfl) (fun w hE => by (try dsimp only); go_simp) ?_
      try simp only [Act.put, zS]
      refine wpAnyE_one (i := 30) (o := { dst := some 44, op := Op.buildSlice 70 3 #[(0, Operand.tmp 19), (1, Operand.tmp 25), (2, Operand.tmp 43)], type := 70, pos := "ref.go:95", after := #[{ on := 5, ground := Ground.data }, { on := 11, ground := Ground.data }, { on := 29, ground := Ground.data }], guard := none }) (by kernel_rfl) rfl (fun wy1 hE K hK => ?_)
      have c0 := cellb c0 hE
      have c1 := cellb c1 hE
      have hbz1 := bthen hbz hE
      clear hE
      go_simp
      obtain ⟨wx1, hwz⟩ : ∃ v, v = wy1.alloc (Obj.cells #[.int .i64 e0, .int .i64 e1, .int .i64 e2] 3) := ⟨_, rfl⟩
      rw [← hwz]
      have hl : Below wy1.heap.size wy1 wx1 := by rw [hwz]; exact below_new _ _
      have hcz1 := bthen hbz1 hl
      have iN : BlkI wx1 wy1.heap.size 3 [e0, e1, e2] := by rw [hwz]; exact Blk.new _ _ _
      generalize wy1.heap.size = G at iN ⊢
      have c0 := cellb c0 hl
      have c1 := cellb c1 hl
      clear hwz
      refine hK _ _ (fun _ => hl) ?_
      clear hK K hl
      try simp only [Act.put, zS]
      refine zC 31 { dst := some 45, op := Op.call { callee := Callee.value (Operand.func 77), args := #[Operand.tmp 44], argTypes := #[70] }, type := 3, pos := "ref.go:95", after := #[{ on := 30, ground := Ground.data }, { on := 29, ground := Ground.chain }], guard := none } (fun w hE => ofPure (TF.out _ w (Blk.carry iN hE))) rfl (by rfl) (fun w hE => by (try dsimp only); go_simp) ?_
      try simp only [Act.put, zS]
      refine zT 32 { dst := some 4, op := Op.assign (Operand.tmp 45), type := 3, pos := "ref.go:95", after := #[{ on := 31, ground := Ground.data }, { on := 31, ground := Ground.chain }, { on := 0, ground := Ground.phase }, { on := 1, ground := Ground.phase }, { on := 2, ground := Ground.phase }, { on := 3, ground := Ground.phase }, { on := 4, ground := Ground.phase }, { on := 5, ground := Ground.phase }, { on := 6, ground := Ground.phase }, { on := 7, ground := Ground.phase }, { on := 8, ground := Ground.phase }, { on := 9, ground := Ground.phase }, { on := 10, ground := Ground.phase }, { on := 11, ground := Ground.phase }, { on := 12, ground := Ground.phase }, { on := 13, ground := Ground.phase }, { on := 14, ground := Ground.phase }, { on := 15, ground := Ground.phase }, { on := 16, ground := Ground.phase }, { on := 17, ground := Ground.phase }, { on := 18, ground := Ground.phase }, { on := 19, ground := Ground.phase }, { on := 20, ground := Ground.phase }, { on := 21, ground := Ground.phase }, { on := 22, ground := Ground.phase }, { on := 23, ground := Ground.phase }, { on := 24, ground := Ground.phase }, { on := 25, ground := Ground.phase }, { on := 26, ground := Ground.phase }, { on := 27, ground := Ground.phase }, { on := 28, ground := Ground.phase }, { on := 29, ground := Ground.phase }, { on := 30, ground := Ground.phase }, { on := 31, ground := Ground.phase }], guard := none } (v := ?_) rfl (Or.inl ⟨by rfl, ?_⟩) ?_
      rotate_left
      ·(intro w hE; have c0 := cellb c0 hE; have c1 := cellb c1 hE; (try dsimp only); go_simp); (try with_reducible rfl)
      try simp only [Act.put, zS]
      refine wpAnyE_done (by kernel_rfl) (fun wy2 hE => ?_) _
      have hbz2 := bthen hcz1 hE
      have c0 := cellb c0 hE
      have c1 := cellb c1 hE
      have iN := iN.carry hE
      clear hE
      have hbel := hbz2
      obtain ⟨W9, hW9⟩ : ∃ v, v = wy2 := ⟨_, rfl⟩
      rw [← hW9] at hbel ⊢
      clear hW9 iN
      clear c0 c1 T0 T1 TW TF
      by_cases hz : R = 0
      ·have HS2 := Lib.hid (HS1.out.trans hz)
       have hb0 : (R != 0) = false := by rw [bne_eq_false_iff_eq]; exact hz
       clear hz
       go_wp2
       go_roundw
       case rel => exact ⟨0 + 1, by omega, by go_num, HS2.out, hbel⟩
       case measure => simp [intOf]; omega
      ·obtain rfl := HT1.out hz
       have hb0 : (E != 0) = true := by rw [bne_iff_ne]; exact hz
       clear hz
       go_wp2
       go_ret
       exact ⟨rfl, hbel⟩
    | succ k =>
      obtain ⟨y, hy⟩ : ∃ y, l[k]? = some y := ⟨_, List.getElem?_eq_getElem (by rw [← HN.out]; omega)⟩
      obtain ⟨q0, q1⟩ := rw2 (hcs k y hy) (show pV y = [.int .i64 y.1, .int .i64 y.2] from rfl)
      rw [prevT_succ hy, show decide (0 < k + 1) = true by simp, Bool.true_and] at hgx
      obtain ⟨x0, x1⟩ := x
      obtain ⟨y0, y1⟩ := y
      dsimp only at c0 c1 T0 T1 q0 q1 hgx
      obtain ⟨cb, hcb⟩ : ∃ c, c = decide (x0 ≤ y0) := ⟨_, rfl⟩
      rw [← hcb] at hgx
      have hcb2 : decide (x0 ≤ y0) = cb := hcb.symm
      have TW := Lib.hid (fun W => WhenR_any cb 11 W)
      obtain ⟨e2, he2⟩ : ∃ e, e = whenE cb 11 := ⟨_, rfl⟩
      rw [← he2] at TW hgx
      have TF := Lib.hid (fun G W h => first3R e0 e1 e2 G W h)
      rw [← hgx] at TF
      have HS1 := Lib.hid hs
      have HT1 := Lib.hid ht
      have r1 : IntKind.i64.wrap ((k + 1 : Nat) - 1 : Int) = (k : Int) := by rw [show ((k + 1 : Nat) : Int) - 1 = k by omega]; exact IntWalk.i64_in _ (by omega)
      have r2 : (0 : Int) < (k : Int) + 1 := by omega
      have r5 : (0 : Int) ≤ (k : Int) + 1 := by omega
      have r7 : IntKind.i64.wrap (k : Int) = (k : Int) := IntWalk.i64_in _ (by omega)
      have r8 : (0 : Int) ≤ (k : Int) := by omega
      have r6 : IntKind.i64.wrap ((k : Int) + 1 - 1) = (k : Int) := by rw [show (k : Int) + 1 - 1 = k by omega]; exact IntWalk.i64_in _ (by omega)
      have r3 : max 0 (k : Int) = k := by omega
      have r4 : (k : Int) < (N : Int) := by omega
      clear hg hs ht hgx hR he0 he1 he2 hcs hx hy hlt hcb
      go_upto_region 6 with fail
      refine wp_region_E 99 (by kernel_rfl) ?_
      obtain ⟨wz, hwz⟩ : ∃ v, v = wr.drew := ⟨_, rfl⟩
      rw [← hwz]
      have hlz : Below wr.heap.size wr wz := by rw [hwz]; exact (Below.refl _ _).drew
      have hbz := bthen hbel hlz
      have c0 := cellb c0 hlz
      have c1 := cellb c1 hlz
      have q0 := cellb q0 hlz
      have q1 := cellb q1 hlz
      clear hwz hlz
      refine zT 0 { dst := some 14, op := Op.move (Operand.tmp 0), type := 22, pos := "ref.go:95", after := #[], guard := none } (v := ?_) rfl (Or.inl ⟨by rfl, ?_⟩) ?_
      rotate_left
      ·(intro w hE; have c0 := cellb c0 hE; have c1 := cellb c1 hE; have q0 := cellb q0 hE; have q1 := cellb q1 hE; (try dsimp only); go_simp); (try with_reducible rfl)
      try simp only [Act.put, zS]
      refine zT 1 { dst := some 15, op := Op.move (Operand.tmp 3), type := 3, pos := "ref.go:95", after := #[], guard := none } (v := ?_) rfl (Or.inl ⟨by rfl, ?_⟩) ?_
      rotate_left
      ·(intro w hE; have c0 := cellb c0 hE; have c1 := cellb c1 hE; have q0 := cellb q0 hE; have q1 := cellb q1 hE; (try dsimp only); go_simp); (try with_reducible rfl)
      try simp only [Act.put, zS]
      refine zT 2 { dst := some 16, op := Op.indexAddr 22 (Operand.tmp 14) (Operand.tmp 15), type := 0, pos := "ref.go:95", after := #[{ on := 0, ground := Ground.data }, { on := 1, ground := Ground.data }], guard := none } (v := ?_) rfl (Or.inl ⟨by rfl, ?_⟩) ?_
      rotate_left
      ·(intro w hE; have c0 := cellb c0 hE; have c1 := cellb c1 hE; have q0 := cellb q0 hE; have q1 := cellb q1 hE; (try dsimp only); go_simp); (try with_reducible rfl)
      try simp only [Act.put, zS]
      refine zT 3 { dst := some 17, op := Op.fieldAddr 119 (Operand.tmp 16) 0, type := 0, pos := "ref.go:95", after := #[{ on := 2, ground := Ground.data }], guard := none } (v := ?_) rfl (Or.inl ⟨by rfl, ?_⟩) ?_
      rotate_left
      ·(intro w hE; have c0 := cellb c0 hE; have c1 := cellb c1 hE; have q0 := cellb q0 hE; have q1 := cellb q1 hE; (try dsimp only); go_simp); (try with_reducible rfl)
      try simp only [Act.put, zS]
      refine zT 4 { dst := some 18, op := Op.load 3 (Operand.tmp 17), type := 3, pos := "ref.go:95", after := #[{ on := 3, ground := Ground.data }], guard := none } (v := ?_) rfl (Or.inl ⟨by rfl, ?_⟩) ?_
      rotate_left
      ·(intro w hE; have c0 := cellb c0 hE; have c1 := cellb c1 hE; have q0 := cellb q0 hE; have q1 := cellb q1 hE; (try dsimp only); go_simp); (try with_reducible rfl)
      try simp only [Act.put, zS]
      refine zT 6 { dst := some 20, op := Op.move (Operand.tmp 0), type := 22, pos := "ref.go:95", after := #[], guard := none } (v := ?_) rfl (Or.inl ⟨by rfl, ?_⟩) ?_
      rotate_left
      ·(intro w hE; have c0 := cellb c0 hE; have c1 := cellb c1 hE; have q0 := cellb q0 hE; have q1 := cellb q1 hE; (try dsimp only); go_simp); (try with_reducible rfl)
      try simp only [Act.put, zS]
      refine zT 7 { dst := some 21, op := Op.move (Operand.tmp 3), type := 3, pos := "ref.go:95", after := #[], guard := none } (v := ?_) rfl (Or.inl ⟨by rfl, ?_⟩) ?_
      rotate_left
      ·(intro w hE; have c0 := cellb c0 hE; have c1 := cellb c1 hE; have q0 := cellb q0 hE; have q1 := cellb q1 hE; (try dsimp only); go_simp); (try with_reducible rfl)
      try simp only [Act.put, zS]
      refine zT 8 { dst := some 22, op := Op.indexAddr 22 (Operand.tmp 20) (Operand.tmp 21), type := 0, pos := "ref.go:95", after := #[{ on := 6, ground := Ground.data }, { on := 7, ground := Ground.data }], guard := none } (v := ?_) rfl (Or.inl ⟨by rfl, ?_⟩) ?_
      rotate_left
      ·(intro w hE; have c0 := cellb c0 hE; have c1 := cellb c1 hE; have q0 := cellb q0 hE; have q1 := cellb q1 hE; (try dsimp only); go_simp); (try with_reducible rfl)
      try simp only [Act.put, zS]
      refine zT 9 { dst := some 23, op := Op.fieldAddr 119 (Operand.tmp 22) 1, type := 0, pos := "ref.go:95", after := #[{ on := 8, ground := Ground.data }], guard := none } (v := ?_) rfl (Or.inl ⟨by rfl, ?_⟩) ?_
      rotate_left
      ·(intro w hE; have c0 := cellb c0 hE; have c1 := cellb c1 hE; have q0 := cellb q0 hE; have q1 := cellb q1 hE; (try dsimp only); go_simp); (try with_reducible rfl)
      try simp only [Act.put, zS]
      refine zT 10 { dst := some 24, op := Op.load 3 (Operand.tmp 23), type := 3, pos := "ref.go:95", after := #[{ on := 9, ground := Ground.data }], guard := none } (v := ?_) rfl (Or.inl ⟨by rfl, ?_⟩) ?_
      rotate_left
      ·(intro w hE; have c0 := cellb c0 hE; have c1 := cellb c1 hE; have q0 := cellb q0 hE; have q1 := cellb q1 hE; (try dsimp only); go_simp); (try with_reducible rfl)
      try simp only [Act.put, zS]
      refine zT 12 { dst := some 26, op := Op.move (Operand.tmp 3), type := 3, pos := "ref.go:95", after := #[], guard := none } (v := ?_) rfl (Or.inl ⟨by rfl, ?_⟩) ?_
      rotate_left
      ·(intro w hE; have c0 := cellb c0 hE; have c1 := cellb c1 hE; have q0 := cellb q0 hE; have q1 := cellb q1 hE; (try dsimp only); go_simp); (try with_reducible rfl)
      try simp only [Act.put, zS]
      refine zT 13 { dst := some 27, op := Op.binOp BinOp.gtr 3 (Operand.tmp 26) (Operand.const (Value.int IntKind.i64 0)) 3, type := 4, pos := "ref.go:95", after := #[{ on := 12, ground := Ground.data }], guard := none } (v := ?_) rfl (Or.inl ⟨by rfl, ?_⟩) ?_
      rotate_left
      ·(intro w hE; have c0 := cellb c0 hE; have c1 := cellb c1 hE; have q0 := cellb q0 hE; have q1 := cellb q1 hE; (try dsimp only); go_simp); (try with_reducible rfl)
      try simp only [Act.put, zS]
      refine zC 5 { dst := some 19, op := Op.call { callee := Callee.value (Operand.func 15), args := #[Operand.tmp 18], argTypes := #[3] }, type := 3, pos := "ref.go:95", after := #[{ on := 4, ground := Ground.data }], guard := none } (fun w hE => ofPure (T0.out w)) rfl (by rfl) (fun w hE => by (try dsimp only); go_simp) ?_
      try simp only [Act.put, zS]
      refine zC 11 { dst := some 25, op := Op.call { callee := Callee.value (Operand.func 85), args := #[Operand.tmp 24], argTypes := #[3] }, type := 3, pos := "ref.go:95", after := #[{ on := 10, ground := Ground.data }, { on := 5, ground := Ground.chain }], guard := none } (fun w hE => ofPure (T1.out w)) rfl (by rfl) (fun w hE => by (try dsimp only); go_simp) ?_
      try simp only [Act.put, zS]
      refine zT 14 { dst := some 28, op := Op.move (Operand.tmp 27), type := 4, pos := "ref.go:95", after := #[{ on := 13, ground := Ground.data }, { on := 11, ground := Ground.chain }], guard := none } (v := ?_) rfl (Or.inl ⟨by rfl, ?_⟩) ?_
      rotate_left
      ·(intro w hE; have c0 := cellb c0 hE; have c1 := cellb c1 hE; have q0 := cellb q0 hE; have q1 := cellb q1 hE; (try dsimp only); go_simp); (try with_reducible rfl)
      try simp only [Act.put, zS]
      refine zT 15 { dst := some 29, op := Op.move (Operand.tmp 0), type := 22, pos := "ref.go:95", after := #[{ on := 14, ground := Ground.guard }], guard := some (14, true) } (v := ?_) rfl (Or.inl ⟨by rfl, ?_⟩) ?_
      rotate_left
      ·(intro w hE; have c0 := cellb c0 hE; have c1 := cellb c1 hE; have q0 := cellb q0 hE; have q1 := cellb q1 hE; (try dsimp only); go_simp); (try with_reducible rfl)
      try simp only [Act.put, zS]
      refine zT 16 { dst := some 30, op := Op.move (Operand.tmp 3), type := 3, pos := "ref.go:95", after := #[{ on := 14, ground := Ground.guard }], guard := some (14, true) } (v := ?_) rfl (Or.inl ⟨by rfl, ?_⟩) ?_
      rotate_left
      ·(intro w hE; have c0 := cellb c0 hE; have c1 := cellb c1 hE; have q0 := cellb q0 hE; have q1 := cellb q1 hE; (try dsimp only); go_simp); (try with_reducible rfl)
      try simp only [Act.put, zS]
      refine zT 17 { dst := some 31, op := Op.binOp BinOp.sub 3 (Operand.tmp 30) (Operand.const (Value.int IntKind.i64 1)) 3, type := 3, pos := "ref.go:95", after := #[{ on := 16, ground := Ground.data }, { on := 14, ground := Ground.guard }], guard := some (14, true) } (v := ?_) rfl (Or.inl ⟨by rfl, ?_⟩) ?_
      rotate_left
      ·(intro w hE; have c0 := cellb c0 hE; have c1 := cellb c1 hE; have q0 := cellb q0 hE; have q1 := cellb q1 hE; (try dsimp only); go_simp); (try with_reducible rfl)
      try simp only [Act.put, zS]
      refine zT 18 { dst := some 32, op := Op.call { callee := Callee.builtin Builtin.max, args := #[Operand.const (Value.int IntKind.i64 0), Operand.tmp 31], argTypes := #[3, 3] }, type := 3, pos := "ref.go:95", after := #[{ on := 17, ground := Ground.data }, { on := 14, ground := Ground.guard }], guard := some (14, true) } (v := ?_) rfl (Or.inl ⟨by rfl, ?_⟩) ?_
      rotate_left
      ·(intro w hE; have c0 := cellb c0 hE; have c1 := cellb c1 hE; have q0 := cellb q0 hE; have q1 := cellb q1 hE; (try dsimp only); go_simp); (try with_reducible rfl)
      try simp only [Act.put, zS]
      refine zT 19 { dst := some 33, op := Op.indexAddr 22 (Operand.tmp 29) (Operand.tmp 32), type := 0, pos := "ref.go:95", after := #[{ on := 15, ground := Ground.data }, { on := 18, ground := Ground.data }, { on := 14, ground := Ground.guard }], guard := some (14, true) } (v := ?_) rfl (Or.inl ⟨by rfl, ?_⟩) ?_
      rotate_left
      ·(intro w hE; have c0 := cellb c0 hE; have c1 := cellb c1 hE; have q0 := cellb q0 hE; have q1 := cellb q1 hE; (try dsimp only); go_simp); (try with_reducible rfl)
      try simp only [Act.put, zS]
      refine zT 20 { dst := some 34, op := Op.fieldAddr 119 (Operand.tmp 33) 0, type := 0, pos := "ref.go:95", after := #[{ on := 19, ground := Ground.data }, { on := 14, ground := Ground.guard }], guard := some (14, true) } (v := ?_) rfl (Or.inl ⟨by rfl, ?_⟩) ?_
      rotate_left
      ·(intro w hE; have c0 := cellb c0 hE; have c1 := cellb c1 hE; have q0 := cellb q0 hE; have q1 := cellb q1 hE; (try dsimp only); go_simp); (try with_reducible rfl)
      try simp only [Act.put, zS]
      refine zT 21 { dst := some 35, op := Op.load 3 (Operand.tmp 34), type := 3, pos := "ref.go:95", after := #[{ on := 20, ground := Ground.data }, { on := 14, ground := Ground.guard }], guard := some (14, true) } (v := ?_) rfl (Or.inl ⟨by rfl, ?_⟩) ?_
      rotate_left
      ·(intro w hE; have c0 := cellb c0 hE; have c1 := cellb c1 hE; have q0 := cellb q0 hE; have q1 := cellb q1 hE; (try dsimp only); go_simp); (try with_reducible rfl)
      try simp only [Act.put, zS]
      refine zT 22 { dst := some 36, op := Op.move (Operand.tmp 0), type := 22, pos := "ref.go:95", after := #[{ on := 14, ground := Ground.guard }], guard := some (14, true) } (v := ?_) rfl (Or.inl ⟨by rfl, ?_⟩) ?_
      rotate_left
      ·(intro w hE; have c0 := cellb c0 hE; have c1 := cellb c1 hE; have q0 := cellb q0 hE; have q1 := cellb q1 hE; (try dsimp only); go_simp); (try with_reducible rfl)
      try simp only [Act.put, zS]
      refine zT 23 { dst := some 37, op := Op.move (Operand.tmp 3), type := 3, pos := "ref.go:95", after := #[{ on := 14, ground := Ground.guard }], guard := some (14, true) } (v := ?_) rfl (Or.inl ⟨by rfl, ?_⟩) ?_
      rotate_left
      ·(intro w hE; have c0 := cellb c0 hE; have c1 := cellb c1 hE; have q0 := cellb q0 hE; have q1 := cellb q1 hE; (try dsimp only); go_simp); (try with_reducible rfl)
      try simp only [Act.put, zS]
      refine zT 24 { dst := some 38, op := Op.indexAddr 22 (Operand.tmp 36) (Operand.tmp 37), type := 0, pos := "ref.go:95", after := #[{ on := 22, ground := Ground.data }, { on := 23, ground := Ground.data }, { on := 14, ground := Ground.guard }], guard := some (14, true) } (v := ?_) rfl (Or.inl ⟨by rfl, ?_⟩) ?_
      rotate_left
      ·(intro w hE; have c0 := cellb c0 hE; have c1 := cellb c1 hE; have q0 := cellb q0 hE; have q1 := cellb q1 hE; (try dsimp only); go_simp); (try with_reducible rfl)
      try simp only [Act.put, zS]
      refine zT 25 { dst := some 39, op := Op.fieldAddr 119 (Operand.tmp 38) 0, type := 0, pos := "ref.go:95", after := #[{ on := 24, ground := Ground.data }, { on := 14, ground := Ground.guard }], guard := some (14, true) } (v := ?_) rfl (Or.inl ⟨by rfl, ?_⟩) ?_
      rotate_left
      ·(intro w hE; have c0 := cellb c0 hE; have c1 := cellb c1 hE; have q0 := cellb q0 hE; have q1 := cellb q1 hE; (try dsimp only); go_simp); (try with_reducible rfl)
      try simp only [Act.put, zS]
      refine zT 26 { dst := some 40, op := Op.load 3 (Operand.tmp 39), type := 3, pos := "ref.go:95", after := #[{ on := 25, ground := Ground.data }, { on := 14, ground := Ground.guard }], guard := some (14, true) } (v := ?_) rfl (Or.inl ⟨by rfl, ?_⟩) ?_
      rotate_left
      ·(intro w hE; have c0 := cellb c0 hE; have c1 := cellb c1 hE; have q0 := cellb q0 hE; have q1 := cellb q1 hE; (try dsimp only); go_simp); (try with_reducible rfl)
      try simp only [Act.put, zS]
      refine zT 27 { dst := some 41, op := Op.binOp BinOp.geq 3 (Operand.tmp 35) (Operand.tmp 40) 3, type := 4, pos := "ref.go:95", after := #[{ on := 21, ground := Ground.data }, { on := 26, ground := Ground.data }, { on := 14, ground := Ground.guard }], guard := some (14, true) } (v := ?_) rfl (Or.inl ⟨by rfl, ?_⟩) ?_
      rotate_left
      ·(intro w hE; have c0 := cellb c0 hE; have c1 := cellb c1 hE; have q0 := cellb q0 hE; have q1 := cellb q1 hE; (try dsimp only); go_simp); (try with_reducible rfl)
      try simp only [Act.put, zS]
      refine zT 28 { dst := some 42, op := Op.pick (Operand.tmp 28) (Operand.tmp 41) (Operand.const (Value.bool false)), type := 4, pos := "ref.go:95", after := #[{ on := 14, ground := Ground.data }, { on := 27, ground := Ground.data }], guard := none } (v := ?_) rfl (Or.inl ⟨by rfl, ?_⟩) ?_
      rotate_left
      ·(intro w hE; have c0 := cellb c0 hE; have c1 := cellb c1 hE; have q0 := cellb q0 hE; have q1 := cellb q1 hE; (try dsimp only); go_simp); (try with_reducible rfl)
      try simp only [Act.put, zS]
      refine zC 29 { dst := some 43, op := Op.call { callee := Callee.value (Operand.func 78), args := #[Operand.tmp 42, Operand.const (Value.int IntKind.i64 11)], argTypes := #[4, 3] }, type := 3, pos := "ref.go:95", after := #[{ on := 28, ground := Ground.data }, { on := 14, ground := Ground.chain }], guard := none } (fun w hE => ofPure (TW.out w)) rfl (by rfl) (fun w hE => by (try dsimp only); go_simp) ?_
      try simp only [Act.put, zS]
      refine wpAnyE_one (i := 30) (o := { dst := some 44, op := Op.buildSlice 70 3 #[(0, Operand.tmp 19), (1, Operand.tmp 25), (2, Operand.tmp 43)], type := 70, pos := "ref.go:95", after := #[{ on := 5, ground := Ground.data }, { on := 11, ground := Ground.data }, { on := 29, ground := Ground.data }], guard := none }) (by kernel_rfl) rfl (fun wy1 hE K hK => ?_)
      have c0 := cellb c0 hE
      have c1 := cellb c1 hE
      have q0 := cellb q0 hE
      have q1 := cellb q1 hE
      have hbz1 := bthen hbz hE
      clear hE
      go_simp
      obtain ⟨wx1, hwz⟩ : ∃ v, v = wy1.alloc (Obj.cells #[.int .i64 e0, .int .i64 e1, .int .i64 e2] 3) := ⟨_, rfl⟩
      rw [← hwz]
      have hl : Below wy1.heap.size wy1 wx1 := by rw [hwz]; exact below_new _ _
      have hcz1 := bthen hbz1 hl
      have iN : BlkI wx1 wy1.heap.size 3 [e0, e1, e2] := by rw [hwz]; exact Blk.new _ _ _
      generalize wy1.heap.size = G at iN ⊢
      have c0 := cellb c0 hl
      have c1 := cellb c1 hl
      have q0 := cellb q0 hl
      have q1 := cellb q1 hl
      clear hwz
      refine hK _ _ (fun _ => hl) ?_
      clear hK K hl
      try simp only [Act.put, zS]
      refine zC 31 { dst := some 45, op := Op.call { callee := Callee.value (Operand.func 77), args := #[Operand.tmp 44], argTypes := #[70] }, type := 3, pos := "ref.go:95", after := #[{ on := 30, ground := Ground.data }, { on := 29, ground := Ground.chain }], guard := none } (fun w hE => ofPure (TF.out _ w (Blk.carry iN hE))) rfl (by rfl) (fun w hE => by (try dsimp only); go_simp) ?_
      try simp only [Act.put, zS]
      refine zT 32 { dst := some 4, op := Op.assign (Operand.tmp 45), type := 3, pos := "ref.go:95", after := #[{ on := 31, ground := Ground.data }, { on := 31, ground := Ground.chain }, { on := 0, ground := Ground.phase }, { on := 1, ground := Ground.phase }, { on := 2, ground := Ground.phase }, { on := 3, ground := Ground.phase }, { on := 4, ground := Ground.phase }, { on := 5, ground := Ground.phase }, { on := 6, ground := Ground.phase }, { on := 7, ground := Ground.phase }, { on := 8, ground := Ground.phase }, { on := 9, ground := Ground.phase }, { on := 10, ground := Ground.phase }, { on := 11, ground := Ground.phase }, { on := 12, ground := Ground.phase }, { on := 13, ground := Ground.phase }, { on := 14, ground := Ground.phase }, { on := 15, ground := Ground.phase }, { on := 16, ground := Ground.phase }, { on := 17, ground := Ground.phase }, { on := 18, ground := Ground.phase }, { on := 19, ground := Ground.phase }, { on := 20, ground := Ground.phase }, { on := 21, ground := Ground.phase }, { on := 22, ground := Ground.phase }, { on := 23, ground := Ground.phase }, { on := 24, ground := Ground.phase }, { on := 25, ground := Ground.phase }, { on := 26, ground := Ground.phase }, { on := 27, ground := Ground.phase }, { on := 28, ground := Ground.phase }, { on := 29, ground := Ground.phase }, { on := 30, ground := Ground.phase }, { on := 31, ground := Ground.phase }], guard := none } (v := ?_) rfl (Or.inl ⟨by rfl, ?_⟩) ?_
      rotate_left
      ·(intro w hE; have c0 := cellb c0 hE; have c1 := cellb c1 hE; have q0 := cellb q0 hE; have q1 := cellb q1 hE; (try dsimp only); go_simp); (try with_reducible rfl)
      try simp only [Act.put, zS]
      refine wpAnyE_done (by kernel_rfl) (fun wy2 hE => ?_) _
      have hbz2 := bthen hcz1 hE
      have c0 := cellb c0 hE
      have c1 := cellb c1 hE
      have q0 := cellb q0 hE
      have q1 := cellb q1 hE
      have iN := iN.carry hE
      clear hE
      have hbel := hbz2
      obtain ⟨W9, hW9⟩ : ∃ v, v = wy2 := ⟨_, rfl⟩
      rw [← hW9] at hbel ⊢
      clear hW9 iN
      clear c0 c1 q0 q1 T0 T1 TW TF
      by_cases hz : R = 0
      ·have HS2 := Lib.hid (HS1.out.trans hz)
       have hb0 : (R != 0) = false := by rw [bne_eq_false_iff_eq]; exact hz
       clear hz
       go_wp2
       go_roundw
       case rel => exact ⟨(k + 1) + 1, by omega, by go_num, HS2.out, hbel⟩
       case measure => simp [intOf]; omega
      ·obtain rfl := HT1.out hz
       have hb0 : (E != 0) = true := by rw [bne_iff_ne]; exact hz
       clear hz
       go_wp2
       go_ret
       exact ⟨rfl, hbel⟩
   ·obtain rfl : k = N := by omega
    have hdk : ¬ (k : Int) < (k : Int) := by omega
    have h0 := HF.out
    rw [HN.out] at h0
    have HE0 := Lib.hid (HE.out h0)
    clear h0
    go_wp2
    go_ret
    exact ⟨by rw [HE0.out]; rfl, hbel⟩
end Go.Proofs.YtgdkomgfalkihaaGreatDoor

/- Rings: CheckRing, checkPhase, falls, Locks. -/
import Derived.Test.YtnlmaildmeihgaaGreatDoorLoopW
import Derived.Deep.DeepCutAuto
namespace Go.Proofs.YtnlmaildmeihgaaGreatDoor
open Go.RowKit

def phaseE (x n : Int) : Int := whenE (decide (x < 0 ∨ n ≤ x)) 10

set_option maxHeartbeats 400000 in
theorem checkPhase_any (x n : Int) (w : World) :
    Calls Tryz.prog 116 #[.int .i64 x, .int .i64 n] w fun e w' => e = .returned (.int .i64 (phaseE x n)) ∧ w = w' := by
  by_cases h1 : x < 0
  · go_enter Tryz.func116, Tryz.ntmps116
    go_wp2_with fail
    refine (when_any _ _ _).mono ?_
    rintro e w' ⟨rfl, rfl⟩
    go_wp2
    go_ret
    exact ⟨ret_int (by rw [phaseE, decide_eq_true (Or.inl h1)]), rfl⟩
  · by_cases h2 : n ≤ x
    · go_enter Tryz.func116, Tryz.ntmps116
      go_wp2_with fail
      refine (when_any _ _ _).mono ?_
      rintro e w' ⟨rfl, rfl⟩
      go_wp2
      go_ret
      exact ⟨ret_int (by rw [phaseE, decide_eq_true (Or.inr h2)]), rfl⟩
    · go_enter Tryz.func116, Tryz.ntmps116
      go_wp2_with fail
      refine (when_any _ _ _).mono ?_
      rintro e w' ⟨rfl, rfl⟩
      go_wp2
      go_ret
      exact ⟨ret_int (by rw [phaseE, decide_eq_false (by omega)]), rfl⟩

set_option maxHeartbeats 400000 in
theorem CheckRing1_any (x : Int) (B : Nat) (a : Option Addr) (n c : Nat) (hn : n ≤ 1000000000) (w : World) (hc : w.cell? ⟨B, 0, none⟩ = some (.slice a n c)) :
    Calls Tryz.prog 119 #[.int .i64 x, .pointer (some ⟨B, 0, none⟩)] w fun e w' => e = .returned (.int .i64 (withinE x 0 ((n : Int) - 1))) ∧ w = w' := by
  go_enter Tryz.func119, Tryz.ntmps119
  go_wp2_with fail
  refine (within_any _ _ _ _).mono ?_
  rintro e w' ⟨rfl, rfl⟩
  go_wp2
  go_ret
  exact ⟨rfl, rfl⟩

theorem Tryz.enterCheckRing1 (args : Array Value) (w : World) : Sem.run Tryz.prog (callFunc 119 args) w = .ok (.enter 119 args) w :=
  MuLone.run_callFunc_enter Tryz.func119 (by kernel_rfl) rfl args w

def ring1E (r : List Int) : Int := firstE [whenE ((r.length : Int) == 0) 12, whenE (decide (64 < (r.length : Int))) 5]
def checkRingE (r : List Int) : Int := if ring1E r ≠ 0 then ring1E r else firstE (r.map fun x => withinE x 0 ((r.length : Int) - 1))

set_option maxHeartbeats 1000000 in
theorem CheckRing_any (v : Value) (r : List Int) (w : World) (hv : Ints w v r) (hl : r.length ≤ 1000000) :
    Calls Tryz.prog 52 #[v] w fun e w' => e = .returned (.int .i64 (checkRingE r)) ∧ Below w.heap.size w w' := by
  obtain ⟨a, cap, rfl, _⟩ := id hv
  go_enter Tryz.func52, Tryz.ntmps52
  go_wp2_with fail
  obtain ⟨w1, hw1⟩ : ∃ v, v = World.alloc w (Obj.cells #[.slice a r.length cap] 81) := ⟨_, rfl⟩
  have kw1 : Below w.heap.size w w1 := by rw [hw1]; exact below_new _ _
  have iw1 : Blk w1 (w.heap.size) 81 [.slice a r.length cap] := by rw [hw1]; exact Blk.new _ _ _
  have sw1 : w1.heap.size = w.heap.size + 1 := by rw [hw1]; simp
  rw [← hw1]
  clear hw1
  have c0 := iw1.cell (j := 0) rfl
  clear sw1
  go_cut [3] from 4 to 13 (fun v3 wx => v3 = .int .i64 (ring1E r) ∧ Below w1.heap.size w1 wx)
  case first =>
    refine wp_region_held_drew (S := (fun w' => w'.cell? ⟨w.heap.size, 0, none⟩ = some (.slice a r.length cap))) (by kernel_rfl) ?_ (fun hHeld0 => ?_)
    · (try dsimp only); go_keep
    refine wpAnyH_take (i := 0) (oi := { dst := some 4, op := Op.load 81 (Operand.tmp 1), type := 81, pos := "ring.go:65", after := #[], guard := none }) (v := ?_) rfl (by kernel_rfl) (by kernel_rfl) (by kernel_rfl) (fun _ _ _ h => h) (Or.inl ⟨by rfl, ?_⟩) (by assumption) ?_
    rotate_left
    · (intro w hSw; (try dsimp only at hSw); go_simp); (try with_reducible rfl)
    try simp only [Act.put, List.setIfInBounds_toArray, List.set_cons_zero, List.set_cons_succ]
    refine wpAnyH_take (i := 1) (oi := { dst := some 5, op := Op.call { callee := Callee.builtin Builtin.len, args := #[Operand.tmp 4], argTypes := #[81] }, type := 3, pos := "ring.go:65", after := #[{ on := 0, ground := Ground.data }], guard := none }) (v := ?_) rfl (by kernel_rfl) (by kernel_rfl) (by kernel_rfl) (fun _ _ _ h => h) (Or.inl ⟨by rfl, ?_⟩) (by assumption) ?_
    rotate_left
    · (intro w hSw; (try dsimp only at hSw); go_simp); (try with_reducible rfl)
    try simp only [Act.put, List.setIfInBounds_toArray, List.set_cons_zero, List.set_cons_succ]
    refine wpAnyH_take (i := 2) (oi := { dst := some 6, op := Op.binOp BinOp.eql 3 (Operand.tmp 5) (Operand.const (Value.int IntKind.i64 0)) 3, type := 4, pos := "ring.go:65", after := #[{ on := 1, ground := Ground.data }], guard := none }) (v := ?_) rfl (by kernel_rfl) (by kernel_rfl) (by kernel_rfl) (fun _ _ _ h => h) (Or.inl ⟨by rfl, ?_⟩) (by assumption) ?_
    rotate_left
    · (intro w hSw; (try dsimp only at hSw); go_simp); (try with_reducible rfl)
    try simp only [Act.put, List.setIfInBounds_toArray, List.set_cons_zero, List.set_cons_succ]
    refine wpAnyH_take (i := 4) (oi := { dst := some 8, op := Op.load 81 (Operand.tmp 1), type := 81, pos := "ring.go:65", after := #[], guard := none }) (v := ?_) rfl (by kernel_rfl) (by kernel_rfl) (by kernel_rfl) (fun _ _ _ h => h) (Or.inl ⟨by rfl, ?_⟩) (by assumption) ?_
    rotate_left
    · (intro w hSw; (try dsimp only at hSw); go_simp); (try with_reducible rfl)
    try simp only [Act.put, List.setIfInBounds_toArray, List.set_cons_zero, List.set_cons_succ]
    refine wpAnyH_take (i := 5) (oi := { dst := some 9, op := Op.call { callee := Callee.builtin Builtin.len, args := #[Operand.tmp 8], argTypes := #[81] }, type := 3, pos := "ring.go:65", after := #[{ on := 4, ground := Ground.data }], guard := none }) (v := ?_) rfl (by kernel_rfl) (by kernel_rfl) (by kernel_rfl) (fun _ _ _ h => h) (Or.inl ⟨by rfl, ?_⟩) (by assumption) ?_
    rotate_left
    · (intro w hSw; (try dsimp only at hSw); go_simp); (try with_reducible rfl)
    try simp only [Act.put, List.setIfInBounds_toArray, List.set_cons_zero, List.set_cons_succ]
    refine wpAnyH_take (i := 6) (oi := { dst := some 10, op := Op.binOp BinOp.gtr 3 (Operand.tmp 9) (Operand.const (Value.int IntKind.i64 64)) 3, type := 4, pos := "ring.go:65", after := #[{ on := 5, ground := Ground.data }], guard := none }) (v := ?_) rfl (by kernel_rfl) (by kernel_rfl) (by kernel_rfl) (fun _ _ _ h => h) (Or.inl ⟨by rfl, ?_⟩) (by assumption) ?_
    rotate_left
    · (intro w hSw; (try dsimp only at hSw); go_simp); (try with_reducible rfl)
    try simp only [Act.put, List.setIfInBounds_toArray, List.set_cons_zero, List.set_cons_succ]
    refine wpAnyH_ready (rs := [3]) (by kernel_rfl) (by simp) ?_
    refine (AllReadyH.cons (o := { dst := some 7, op := Op.call { callee := Callee.value (Operand.func 107), args := #[Operand.tmp 6, Operand.const (Value.int IntKind.i64 12)], argTypes := #[4, 27] }, type := 27, pos := "ring.go:65", after := #[{ on := 2, ground := Ground.data }], guard := none }) rfl (fun K hK => ?_) AllReadyH.nil)
    go_simp
    (first | (go_at_call 107; (with_reducible refine (when_any _ _ _).mono ?_); rintro e w' ⟨rfl, rfl⟩) | (go_at_call 90; (with_reducible refine (first2d _ _ _ _).mono ?_); rintro e w' ⟨rfl, rfl⟩))
    (try go_wp2_with fail)
    refine hK.out _ _ ?_ (fun hHeld1 => ?_)
    · (try dsimp only); go_keep
    clear hK K hHeld0
    try simp only [Act.put, List.setIfInBounds_toArray, List.set_cons_zero, List.set_cons_succ]
    refine wpAnyH_ready (rs := [7]) (by kernel_rfl) (by simp) ?_
    refine (AllReadyH.cons (o := { dst := some 11, op := Op.call { callee := Callee.value (Operand.func 107), args := #[Operand.tmp 10, Operand.const (Value.int IntKind.i64 5)], argTypes := #[4, 27] }, type := 27, pos := "ring.go:65", after := #[{ on := 6, ground := Ground.data }, { on := 3, ground := Ground.chain }], guard := none }) rfl (fun K hK => ?_) AllReadyH.nil)
    go_simp
    (first | (go_at_call 107; (with_reducible refine (when_any _ _ _).mono ?_); rintro e w' ⟨rfl, rfl⟩) | (go_at_call 90; (with_reducible refine (first2d _ _ _ _).mono ?_); rintro e w' ⟨rfl, rfl⟩))
    (try go_wp2_with fail)
    refine hK.out _ _ ?_ (fun hHeld2 => ?_)
    · (try dsimp only); go_keep
    clear hK K hHeld1
    try simp only [Act.put, List.setIfInBounds_toArray, List.set_cons_zero, List.set_cons_succ]
    refine wpAnyH_ready (rs := [8]) (by kernel_rfl) (by simp) ?_
    refine (AllReadyH.cons (o := { dst := some 12, op := Op.buildSlice 174 2 #[(0, Operand.tmp 7), (1, Operand.tmp 11)], type := 174, pos := "ring.go:65", after := #[{ on := 3, ground := Ground.data }, { on := 7, ground := Ground.data }], guard := none }) rfl (fun K hK => ?_) AllReadyH.nil)
    go_simp
    refine hK.out _ _ ?_ (fun hHeld3 => ?_)
    · (try dsimp only); go_keep
    clear hK K hHeld2
    try simp only [Act.put, List.setIfInBounds_toArray, List.set_cons_zero, List.set_cons_succ]
    refine wpAnyH_ready (rs := [9]) (by kernel_rfl) (by simp) ?_
    refine (AllReadyH.cons (o := { dst := some 13, op := Op.call { callee := Callee.value (Operand.func 90), args := #[Operand.tmp 12], argTypes := #[174] }, type := 27, pos := "ring.go:65", after := #[{ on := 8, ground := Ground.data }, { on := 7, ground := Ground.chain }], guard := none }) rfl (fun K hK => ?_) AllReadyH.nil)
    go_simp
    (first | (go_at_call 107; (with_reducible refine (when_any _ _ _).mono ?_); rintro e w' ⟨rfl, rfl⟩) | (go_at_call 90; (with_reducible refine (first2d _ _ _ _).mono ?_); rintro e w' ⟨rfl, rfl⟩))
    (try go_wp2_with fail)
    refine hK.out _ _ ?_ (fun hHeld4 => ?_)
    · (try dsimp only); go_keep
    clear hK K hHeld3
    try simp only [Act.put, List.setIfInBounds_toArray, List.set_cons_zero, List.set_cons_succ]
    refine wpAnyH_take (i := 10) (oi := { dst := some 3, op := Op.assign (Operand.tmp 13), type := 27, pos := "ring.go:65", after := #[{ on := 9, ground := Ground.data }, { on := 9, ground := Ground.chain }, { on := 0, ground := Ground.phase }, { on := 1, ground := Ground.phase }, { on := 2, ground := Ground.phase }, { on := 3, ground := Ground.phase }, { on := 4, ground := Ground.phase }, { on := 5, ground := Ground.phase }, { on := 6, ground := Ground.phase }, { on := 7, ground := Ground.phase }, { on := 8, ground := Ground.phase }, { on := 9, ground := Ground.phase }], guard := none }) (v := ?_) rfl (by kernel_rfl) (by kernel_rfl) (by kernel_rfl) (fun _ _ _ h => h) (Or.inl ⟨by rfl, ?_⟩) (by assumption) ?_
    rotate_left
    · (intro w hSw; (try dsimp only at hSw); go_simp); (try with_reducible rfl)
    try simp only [Act.put, List.setIfInBounds_toArray, List.set_cons_zero, List.set_cons_succ]
    refine wpAnyH_done (by kernel_rfl) ?_ _
    clear hHeld4
    (go_wp2_with fail; go_meet; exact ⟨rfl, (below_new _ _).drew⟩)
  case rest =>
    obtain ⟨rfl, hb⟩ := hcut
    obtain ⟨w2, rfl⟩ : ∃ v, v = wc := ⟨_, rfl⟩
    have hb2 := bthen kw1 hb
    have z := iw1.carry hb
    clear c0
    have c0 := z.cell (j := 0) rfl
    by_cases he : ring1E r = 0
    · have HR := Lib.hid (show checkRingE r = firstE (r.map fun x => withinE x 0 ((r.length : Int) - 1)) by rw [checkRingE, if_neg (by rw [he]; simp)])
      rw [he]
      clear he
      have t1 := Lib.hid (mappedE_any 119 #[.pointer (some ⟨w.heap.size, 0, none⟩)] Tryz.enterCheckRing1 (fun x => withinE x 0 ((r.length : Int) - 1)) _ r w2 (by omega) (hv.carry hb2) (fun x _ w1 h1 => CheckRing1_any x w.heap.size a r.length cap (by omega) w1 (cellb c0 h1)))
      go_wp2_with fail
      refine t1.out.mono ?_
      rintro e w3 ⟨⟨u, rfl, hu⟩, h3⟩
      go_wp2_with fail
      refine (first_any _ _ _ (by simp; unfold maxLen; omega) hu).mono ?_
      rintro e w' ⟨rfl, rfl⟩
      go_wp2
      go_ret
      exact ⟨ret_int (by rw [HR.out]), bthen hb2 h3⟩
    · go_wp2
      go_ret
      exact ⟨ret_int (by rw [checkRingE, if_pos he]), hb2⟩

/-- a ring whose phases are phases of its own. -/
def RingP (r : List Int) : Prop := ∀ x ∈ r, 0 ≤ x ∧ x < r.length
theorem checkRingE_ok {r : List Int} (h : checkRingE r = 0) : 1 ≤ r.length ∧ r.length ≤ 64 ∧ RingP r := by
  unfold checkRingE at h
  split at h
  · exact absurd h (by assumption)
  · rename_i h1
    have h1 : ring1E r = 0 := by simpa using h1
    obtain ⟨h2, h3⟩ := firstE_cons_ok h1
    obtain ⟨h3, _⟩ := firstE_cons_ok h3
    have h2 := whenE_ok h2 (by decide)
    have h3 := whenE_ok h3 (by decide)
    simp at h2 h3
    refine ⟨by cases r with | nil => simp at h2 | cons => simp, by omega, fun x hx => ?_⟩
    have := withinE_ok (firstE_map_ok h x hx)
    omega

/-- the phase after k steps. -/
def ringAt (r : List Int) (x : Int) : Nat → Int
  | 0 => x
  | k + 1 => r[(ringAt r x k).toNat]?.getD 0
/-- after how many steps, from the k-th one on, a phase comes up; fuel f. -/
def fallL (r : List Int) (x phase : Int) : Nat → Nat → Option Nat
  | 0, _ => none
  | f + 1, k => if ringAt r x k = phase then some k else fallL r x phase f (k + 1)
def fallsW (r : List Int) (x phase : Int) : Option Nat := fallL r x phase r.length 0

theorem ringAt_bd {r : List Int} (hr : RingP r) {x : Int} (hx : 0 ≤ x ∧ x < r.length) (k : Nat) : 0 ≤ ringAt r x k ∧ ringAt r x k < r.length := by
  induction k with
  | zero => exact hx
  | succ k ih =>
    rw [ringAt, List.getElem?_eq_getElem (by omega)]
    exact hr _ (List.getElem_mem _)

set_option maxHeartbeats 1000000 in
theorem falls_ring_any (v : Value) (r : List Int) (x phase : Int) (w : World) (hv : Ints w v r) (hl : r.length ≤ 1000000) (hr : RingP r) (hx : 0 ≤ x ∧ x < r.length) :
    Calls Tryz.prog 117 #[v, .int .i64 x, .int .i64 phase] w fun e w' => e = .returned (.tuple #[.int .i64 (((fallsW r x phase).getD 0 : Nat) : Int), .bool (fallsW r x phase).isSome]) ∧ w = w' := by
  obtain ⟨b, o, cap, rfl, hc⟩ := (id hv).head (by omega)
  have HX := Lib.hid hx
  have HRP := Lib.hid hr
  have hC := Lib.hid hc
  clear hx hr hc
  go_enter Tryz.func117, Tryz.ntmps117
  go_wp2
  go_loop [1, 11] (fun vf vi => ∃ k : Nat, k ≤ r.length ∧ vi = .int .i64 k ∧ vf = .int .i64 (ringAt r x k) ∧ fallsW r x phase = fallL r x phase (r.length - k) k) (fun _ vi => r.length - (intOf vi).toNat)
  case atStart => exact ⟨0, Nat.zero_le _, rfl, rfl, rfl⟩
  case round =>
    obtain ⟨k, hk, rfl, rfl, hF⟩ := hrel
    have HF := Lib.hid hF
    clear hF
    by_cases hlt : k < r.length
    · have hb := ringAt_bd HRP.out HX.out k
      have hcell := hC.out (ringAt r x k).toNat (by omega)
      have hN : r[(ringAt r x k).toNat]?.getD 0 = ringAt r x (k + 1) := rfl
      rw [hN] at hcell
      have hF2 : fallL r x phase (r.length - k) k = if ringAt r x k = phase then some k else fallL r x phase (r.length - (k + 1)) (k + 1) := by
        rw [show r.length - k = (r.length - (k + 1)) + 1 from by omega, fallL]
      have HF2 := Lib.hid hF2
      clear hN hF2
      obtain ⟨y2, hy2⟩ : ∃ y, y = ringAt r x (k + 1) := ⟨_, rfl⟩
      obtain ⟨y1, hy1⟩ : ∃ y, y = ringAt r x k := ⟨_, rfl⟩
      rw [← hy2] at hcell
      rw [← hy1] at hcell hb HF2 ⊢
      have HY2 := Lib.hid hy2
      clear hy1 hy2
      by_cases hp : y1 = phase
      · have hn := Lib.hid (show fallsW r x phase = some k by rw [HF.out, HF2.out, if_pos hp])
        have hq : (y1 == phase) = true := by simpa using hp
        clear hp hcell HF2
        go_wp2
        go_ret2
        exact ⟨by rw [hn.out]; rfl, rfl⟩
      · have hn := Lib.hid (show fallsW r x phase = fallL r x phase (r.length - (k + 1)) (k + 1) by rw [HF.out, HF2.out, if_neg hp])
        have hq : (y1 == phase) = false := by simpa using hp
        obtain ⟨hb1, hb2⟩ := hb
        clear hp HF2
        go_wp2
        go_round
        case rel => exact ⟨k + 1, by omega, by go_num, by rw [HY2.out], hn.out⟩
        case measure => simp [intOf]; omega
    · obtain rfl : k = r.length := by omega
      have hn := Lib.hid (show fallsW r x phase = none by rw [HF.out, Nat.sub_self, fallL])
      go_wp2
      go_ret2
      exact ⟨by rw [hn.out]; rfl, rfl⟩

end Go.Proofs.YtnlmaildmeihgaaGreatDoor

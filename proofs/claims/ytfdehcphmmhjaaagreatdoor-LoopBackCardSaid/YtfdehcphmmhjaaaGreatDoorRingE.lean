/- Rings: CheckRing, checkPhase, falls, Locks. -/
import Derived.Test.YtfdehcphmmhjaaaGreatDoorLoopW
import Derived.Deep.DeepCutAuto
import Derived.ChangeKeysEq
import Derived.WalkLawsBesides
namespace Go.Proofs.YtfdehcphmmhjaaaGreatDoor
open Go.RowKit

def phaseE (x n : Int) : Int := whenE (decide (x < 0 ∨ n ≤ x)) 10

set_option maxHeartbeats 400000 in
theorem checkPhase_any (x n : Int) (w : World) :
    Calls Tryz.prog 72 #[.int .i64 x, .int .i64 n] w fun e w' => e = .returned (.int .i64 (phaseE x n)) ∧ w = w' := by
  by_cases h1 : x < 0
  · go_enter Tryz.func72, Tryz.ntmps72
    go_wp2_with fail
    refine (when_any _ _ _).mono ?_
    rintro e w' ⟨rfl, rfl⟩
    go_wp2
    go_ret
    exact ⟨ret_int (by rw [phaseE, decide_eq_true (Or.inl h1)]), rfl⟩
  · by_cases h2 : n ≤ x
    · go_enter Tryz.func72, Tryz.ntmps72
      go_wp2_with fail
      refine (when_any _ _ _).mono ?_
      rintro e w' ⟨rfl, rfl⟩
      go_wp2
      go_ret
      exact ⟨ret_int (by rw [phaseE, decide_eq_true (Or.inr h2)]), rfl⟩
    · go_enter Tryz.func72, Tryz.ntmps72
      go_wp2_with fail
      refine (when_any _ _ _).mono ?_
      rintro e w' ⟨rfl, rfl⟩
      go_wp2
      go_ret
      exact ⟨ret_int (by rw [phaseE, decide_eq_false (by omega)]), rfl⟩

set_option maxHeartbeats 400000 in
theorem CheckRing1_any (x : Int) (B : Nat) (a : Option Addr) (n c : Nat) (hn : n ≤ 1000000000) (w : World) (hc : w.cell? ⟨B, 0, none⟩ = some (.slice a n c)) :
    Calls Tryz.prog 109 #[.int .i64 x, .pointer (some ⟨B, 0, none⟩)] w fun e w' => e = .returned (.int .i64 (withinE x 0 ((n : Int) - 1))) ∧ w = w' := by
  go_enter Tryz.func109, Tryz.ntmps109
  go_wp2_with fail
  refine (within_any _ _ _ _).mono ?_
  rintro e w' ⟨rfl, rfl⟩
  go_wp2
  go_ret
  exact ⟨rfl, rfl⟩

theorem Tryz.enterCheckRing1 (args : Array Value) (w : World) : Sem.run Tryz.prog (callFunc 109 args) w = .ok (.enter 109 args) w :=
  MuLone.run_callFunc_enter Tryz.func109 (by kernel_rfl) rfl args w

def ring1E (r : List Int) : Int := firstE [whenE ((r.length : Int) == 0) 12, whenE (decide (64 < (r.length : Int))) 5]
def checkRingE (r : List Int) : Int := if ring1E r ≠ 0 then ring1E r else firstE (r.map fun x => withinE x 0 ((r.length : Int) - 1))

set_option maxHeartbeats 1000000 in
theorem CheckRing_any (v : Value) (r : List Int) (w : World) (hv : Ints w v r) (hl : r.length ≤ 1000000) :
    Calls Tryz.prog 73 #[v] w fun e w' => e = .returned (.int .i64 (checkRingE r)) ∧ Below w.heap.size w w' := by
  obtain ⟨a, cap, rfl, _⟩ := id hv
  go_enter Tryz.func73, Tryz.ntmps73
  go_wp2_with fail
  obtain ⟨w1, hw1⟩ : ∃ v, v = World.alloc w (Obj.cells #[.slice a r.length cap] 79) := ⟨_, rfl⟩
  have kw1 : Below w.heap.size w w1 := by rw [hw1]; exact below_new _ _
  have iw1 : Blk w1 (w.heap.size) 79 [.slice a r.length cap] := by rw [hw1]; exact Blk.new _ _ _
  have sw1 : w1.heap.size = w.heap.size + 1 := by rw [hw1]; simp
  rw [← hw1]
  clear hw1
  have c0 := iw1.cell (j := 0) rfl
  clear sw1
  go_cut [3] from 4 to 13 (fun v3 wx => v3 = .int .i64 (ring1E r) ∧ Below w1.heap.size w1 wx)
  case first =>
    refine wp_region_held_drew (S := (fun w' => w'.cell? ⟨w.heap.size, 0, none⟩ = some (.slice a r.length cap))) (by kernel_rfl) ?_ (fun hHeld0 => ?_)
    · (try dsimp only); go_keep
    refine wpAnyH_take (i := 0) (oi := { dst := some 4, op := Op.load 79 (Operand.tmp 1), type := 79, pos := "ring.go:65", after := #[], guard := none }) (v := ?_) rfl (by kernel_rfl) (by kernel_rfl) (by kernel_rfl) (fun _ _ _ h => h) (Or.inl ⟨by rfl, ?_⟩) (by assumption) ?_
    rotate_left
    · (intro w hSw; (try dsimp only at hSw); go_simp); (try with_reducible rfl)
    try simp only [Act.put, List.setIfInBounds_toArray, List.set_cons_zero, List.set_cons_succ]
    refine wpAnyH_take (i := 1) (oi := { dst := some 5, op := Op.call { callee := Callee.builtin Builtin.len, args := #[Operand.tmp 4], argTypes := #[79] }, type := 3, pos := "ring.go:65", after := #[{ on := 0, ground := Ground.data }], guard := none }) (v := ?_) rfl (by kernel_rfl) (by kernel_rfl) (by kernel_rfl) (fun _ _ _ h => h) (Or.inl ⟨by rfl, ?_⟩) (by assumption) ?_
    rotate_left
    · (intro w hSw; (try dsimp only at hSw); go_simp); (try with_reducible rfl)
    try simp only [Act.put, List.setIfInBounds_toArray, List.set_cons_zero, List.set_cons_succ]
    refine wpAnyH_take (i := 2) (oi := { dst := some 6, op := Op.binOp BinOp.eql 3 (Operand.tmp 5) (Operand.const (Value.int IntKind.i64 0)) 3, type := 4, pos := "ring.go:65", after := #[{ on := 1, ground := Ground.data }], guard := none }) (v := ?_) rfl (by kernel_rfl) (by kernel_rfl) (by kernel_rfl) (fun _ _ _ h => h) (Or.inl ⟨by rfl, ?_⟩) (by assumption) ?_
    rotate_left
    · (intro w hSw; (try dsimp only at hSw); go_simp); (try with_reducible rfl)
    try simp only [Act.put, List.setIfInBounds_toArray, List.set_cons_zero, List.set_cons_succ]
    refine wpAnyH_take (i := 4) (oi := { dst := some 8, op := Op.load 79 (Operand.tmp 1), type := 79, pos := "ring.go:65", after := #[], guard := none }) (v := ?_) rfl (by kernel_rfl) (by kernel_rfl) (by kernel_rfl) (fun _ _ _ h => h) (Or.inl ⟨by rfl, ?_⟩) (by assumption) ?_
    rotate_left
    · (intro w hSw; (try dsimp only at hSw); go_simp); (try with_reducible rfl)
    try simp only [Act.put, List.setIfInBounds_toArray, List.set_cons_zero, List.set_cons_succ]
    refine wpAnyH_take (i := 5) (oi := { dst := some 9, op := Op.call { callee := Callee.builtin Builtin.len, args := #[Operand.tmp 8], argTypes := #[79] }, type := 3, pos := "ring.go:65", after := #[{ on := 4, ground := Ground.data }], guard := none }) (v := ?_) rfl (by kernel_rfl) (by kernel_rfl) (by kernel_rfl) (fun _ _ _ h => h) (Or.inl ⟨by rfl, ?_⟩) (by assumption) ?_
    rotate_left
    · (intro w hSw; (try dsimp only at hSw); go_simp); (try with_reducible rfl)
    try simp only [Act.put, List.setIfInBounds_toArray, List.set_cons_zero, List.set_cons_succ]
    refine wpAnyH_take (i := 6) (oi := { dst := some 10, op := Op.binOp BinOp.gtr 3 (Operand.tmp 9) (Operand.const (Value.int IntKind.i64 64)) 3, type := 4, pos := "ring.go:65", after := #[{ on := 5, ground := Ground.data }], guard := none }) (v := ?_) rfl (by kernel_rfl) (by kernel_rfl) (by kernel_rfl) (fun _ _ _ h => h) (Or.inl ⟨by rfl, ?_⟩) (by assumption) ?_
    rotate_left
    · (intro w hSw; (try dsimp only at hSw); go_simp); (try with_reducible rfl)
    try simp only [Act.put, List.setIfInBounds_toArray, List.set_cons_zero, List.set_cons_succ]
    refine wpAnyH_ready (rs := [3]) (by kernel_rfl) (by simp) ?_
    refine (AllReadyH.cons (o := { dst := some 7, op := Op.call { callee := Callee.value (Operand.func 46), args := #[Operand.tmp 6, Operand.const (Value.int IntKind.i64 12)], argTypes := #[4, 27] }, type := 27, pos := "ring.go:65", after := #[{ on := 2, ground := Ground.data }], guard := none }) rfl (fun K hK => ?_) AllReadyH.nil)
    go_simp
    (first | (go_at_call 46; (with_reducible refine (when_any _ _ _).mono ?_); rintro e w' ⟨rfl, rfl⟩) | (go_at_call 45; (with_reducible refine (first2d _ _ _ _).mono ?_); rintro e w' ⟨rfl, rfl⟩))
    (try go_wp2_with fail)
    refine hK.out _ _ ?_ (fun hHeld1 => ?_)
    · (try dsimp only); go_keep
    clear hK K hHeld0
    try simp only [Act.put, List.setIfInBounds_toArray, List.set_cons_zero, List.set_cons_succ]
    refine wpAnyH_ready (rs := [7]) (by kernel_rfl) (by simp) ?_
    refine (AllReadyH.cons (o := { dst := some 11, op := Op.call { callee := Callee.value (Operand.func 46), args := #[Operand.tmp 10, Operand.const (Value.int IntKind.i64 5)], argTypes := #[4, 27] }, type := 27, pos := "ring.go:65", after := #[{ on := 6, ground := Ground.data }, { on := 3, ground := Ground.chain }], guard := none }) rfl (fun K hK => ?_) AllReadyH.nil)
    go_simp
    (first | (go_at_call 46; (with_reducible refine (when_any _ _ _).mono ?_); rintro e w' ⟨rfl, rfl⟩) | (go_at_call 45; (with_reducible refine (first2d _ _ _ _).mono ?_); rintro e w' ⟨rfl, rfl⟩))
    (try go_wp2_with fail)
    refine hK.out _ _ ?_ (fun hHeld2 => ?_)
    · (try dsimp only); go_keep
    clear hK K hHeld1
    try simp only [Act.put, List.setIfInBounds_toArray, List.set_cons_zero, List.set_cons_succ]
    refine wpAnyH_ready (rs := [8]) (by kernel_rfl) (by simp) ?_
    refine (AllReadyH.cons (o := { dst := some 12, op := Op.buildSlice 155 2 #[(0, Operand.tmp 7), (1, Operand.tmp 11)], type := 155, pos := "ring.go:65", after := #[{ on := 3, ground := Ground.data }, { on := 7, ground := Ground.data }], guard := none }) rfl (fun K hK => ?_) AllReadyH.nil)
    go_simp
    refine hK.out _ _ ?_ (fun hHeld3 => ?_)
    · (try dsimp only); go_keep
    clear hK K hHeld2
    try simp only [Act.put, List.setIfInBounds_toArray, List.set_cons_zero, List.set_cons_succ]
    refine wpAnyH_ready (rs := [9]) (by kernel_rfl) (by simp) ?_
    refine (AllReadyH.cons (o := { dst := some 13, op := Op.call { callee := Callee.value (Operand.func 45), args := #[Operand.tmp 12], argTypes := #[155] }, type := 27, pos := "ring.go:65", after := #[{ on := 8, ground := Ground.data }, { on := 7, ground := Ground.chain }], guard := none }) rfl (fun K hK => ?_) AllReadyH.nil)
    go_simp
    (first | (go_at_call 46; (with_reducible refine (when_any _ _ _).mono ?_); rintro e w' ⟨rfl, rfl⟩) | (go_at_call 45; (with_reducible refine (first2d _ _ _ _).mono ?_); rintro e w' ⟨rfl, rfl⟩))
    (try go_wp2_with fail)
    refine hK.out _ _ ?_ (fun hHeld4 => ?_)
    · (try dsimp only); go_keep
    clear hK K hHeld3
    try simp only [Act.put, List.setIfInBounds_toArray, List.set_cons_zero, List.set_cons_succ]
    refine wpAnyH_take (i := 10) (oi := { dst := some 3, op := Op.assign (Operand.tmp 13), type := 27, pos := "ring.go:65", after := #[{ on := 9, ground := Ground.data }, { on := 9, ground := Ground.chain }, { on := 0, ground := Ground.phase }, { on := 1, ground := Ground.phase }, { on := 2, ground := Ground.phase }, { on := 3, ground := Ground.phase }, { on := 4, ground := Ground.phase }, { on := 5, ground := Ground.phase }, { on := 6, ground := Ground.phase }, { on := 7, ground := Ground.phase }, { on := 8, ground := Ground.phase }, { on := 9, ground := Ground.phase }], guard := none }) (v := ?_) rfl (by kernel_rfl) (by kernel_rfl) (by kernel_rfl) (fun _ _ _ h => h) (Or.inl ⟨by rfl, ?_⟩) (by assumption) ?_
    rotate_left
    · (intro w hSw; (try dsimp only at hSw); go_simp); (try with_reducible rfl)
    try simp only [Act.put, List.setIfInBounds_toArray, List.set_cons_zero, List.set_cons_succ]
    refine wpAnyH_done (by kernel_rfl) ?_ _
    clear hHeld4
    (go_wp2_with fail; go_meet; exact ⟨rfl, (below_new _ _).drew⟩)
  case rest =>
    obtain ⟨rfl, hb⟩ := hcut
    obtain ⟨w2, rfl⟩ : ∃ v, v = wc := ⟨_, rfl⟩
    have hb2 := bthen kw1 hb
    have z := iw1.carry hb
    clear c0
    have c0 := z.cell (j := 0) rfl
    by_cases he : ring1E r = 0
    · have HR := Lib.hid (show checkRingE r = firstE (r.map fun x => withinE x 0 ((r.length : Int) - 1)) by rw [checkRingE, if_neg (by rw [he]; simp)])
      rw [he]
      clear he
      have t1 := Lib.hid (mappedE_any 109 #[.pointer (some ⟨w.heap.size, 0, none⟩)] Tryz.enterCheckRing1 (fun x => withinE x 0 ((r.length : Int) - 1)) _ r w2 (by omega) (hv.carry hb2) (fun x _ w1 h1 => CheckRing1_any x w.heap.size a r.length cap (by omega) w1 (cellb c0 h1)))
      go_wp2_with fail
      refine t1.out.mono ?_
      rintro e w3 ⟨⟨u, rfl, hu⟩, h3⟩
      go_wp2_with fail
      refine (first_any _ _ _ (by simp; unfold maxLen; omega) hu).mono ?_
      rintro e w' ⟨rfl, rfl⟩
      go_wp2
      go_ret
      exact ⟨ret_int (by rw [HR.out]), bthen hb2 h3⟩
    · go_wp2
      go_ret
      exact ⟨ret_int (by rw [checkRingE, if_pos he]), hb2⟩

/-- a ring whose phases are phases of its own. -/
def RingP (r : List Int) : Prop := ∀ x ∈ r, 0 ≤ x ∧ x < r.length
theorem checkRingE_ok {r : List Int} (h : checkRingE r = 0) : 1 ≤ r.length ∧ r.length ≤ 64 ∧ RingP r := by
  unfold checkRingE at h
  split at h
  · exact absurd h (by assumption)
  · rename_i h1
    have h1 : ring1E r = 0 := by simpa using h1
    obtain ⟨h2, h3⟩ := firstE_cons_ok h1
    obtain ⟨h3, _⟩ := firstE_cons_ok h3
    have h2 := whenE_ok h2 (by decide)
    have h3 := whenE_ok h3 (by decide)
    simp at h2 h3
    refine ⟨by cases r with | nil => simp at h2 | cons => simp, by omega, fun x hx => ?_⟩
    have := withinE_ok (firstE_map_ok h x hx)
    omega

/-- the phase after k steps. -/
def ringAt (r : List Int) (x : Int) : Nat → Int
  | 0 => x
  | k + 1 => r[(ringAt r x k).toNat]?.getD 0
/-- after how many steps, from the k-th one on, a phase comes up; fuel f. -/
def fallL (r : List Int) (x phase : Int) : Nat → Nat → Option Nat
  | 0, _ => none
  | f + 1, k => if ringAt r x k = phase then some k else fallL r x phase f (k + 1)
def fallsW (r : List Int) (x phase : Int) : Option Nat := fallL r x phase r.length 0

theorem ringAt_bd {r : List Int} (hr : RingP r) {x : Int} (hx : 0 ≤ x ∧ x < r.length) (k : Nat) : 0 ≤ ringAt r x k ∧ ringAt r x k < r.length := by
  induction k with
  | zero => exact hx
  | succ k ih =>
    rw [ringAt, List.getElem?_eq_getElem (by omega)]
    exact hr _ (List.getElem_mem _)

set_option maxHeartbeats 1000000 in
theorem falls_ring_any (v : Value) (r : List Int) (x phase : Int) (w : World) (hv : Ints w v r) (hl : r.length ≤ 1000000) (hr : RingP r) (hx : 0 ≤ x ∧ x < r.length) :
    Calls Tryz.prog 74 #[v, .int .i64 x, .int .i64 phase] w fun e w' => e = .returned (.tuple #[.int .i64 (((fallsW r x phase).getD 0 : Nat) : Int), .bool (fallsW r x phase).isSome]) ∧ w = w' := by
  obtain ⟨b, o, cap, rfl, hc⟩ := (id hv).head (by omega)
  have HX := Lib.hid hx
  have HRP := Lib.hid hr
  have hC := Lib.hid hc
  clear hx hr hc
  go_enter Tryz.func74, Tryz.ntmps74
  go_wp2
  go_loop [1, 11] (fun vf vi => ∃ k : Nat, k ≤ r.length ∧ vi = .int .i64 k ∧ vf = .int .i64 (ringAt r x k) ∧ fallsW r x phase = fallL r x phase (r.length - k) k) (fun _ vi => r.length - (intOf vi).toNat)
  case atStart => exact ⟨0, Nat.zero_le _, rfl, rfl, rfl⟩
  case round =>
    obtain ⟨k, hk, rfl, rfl, hF⟩ := hrel
    have HF := Lib.hid hF
    clear hF
    by_cases hlt : k < r.length
    · have hb := ringAt_bd HRP.out HX.out k
      have hcell := hC.out (ringAt r x k).toNat (by omega)
      have hN : r[(ringAt r x k).toNat]?.getD 0 = ringAt r x (k + 1) := rfl
      rw [hN] at hcell
      have hF2 : fallL r x phase (r.length - k) k = if ringAt r x k = phase then some k else fallL r x phase (r.length - (k + 1)) (k + 1) := by
        rw [show r.length - k = (r.length - (k + 1)) + 1 from by omega, fallL]
      have HF2 := Lib.hid hF2
      clear hN hF2
      obtain ⟨y2, hy2⟩ : ∃ y, y = ringAt r x (k + 1) := ⟨_, rfl⟩
      obtain ⟨y1, hy1⟩ : ∃ y, y = ringAt r x k := ⟨_, rfl⟩
      rw [← hy2] at hcell
      rw [← hy1] at hcell hb HF2 ⊢
      have HY2 := Lib.hid hy2
      clear hy1 hy2
      by_cases hp : y1 = phase
      · have hn := Lib.hid (show fallsW r x phase = some k by rw [HF.out, HF2.out, if_pos hp])
        have hq : (y1 == phase) = true := by simpa using hp
        clear hp hcell HF2
        go_wp2
        go_ret2
        exact ⟨by rw [hn.out]; rfl, rfl⟩
      · have hn := Lib.hid (show fallsW r x phase = fallL r x phase (r.length - (k + 1)) (k + 1) by rw [HF.out, HF2.out, if_neg hp])
        have hq : (y1 == phase) = false := by simpa using hp
        obtain ⟨hb1, hb2⟩ := hb
        clear hp HF2
        go_wp2
        go_round
        case rel => exact ⟨k + 1, by omega, by go_num, by rw [HY2.out], hn.out⟩
        case measure => simp [intOf]; omega
    · obtain rfl : k = r.length := by omega
      have hn := Lib.hid (show fallsW r x phase = none by rw [HF.out, Nat.sub_self, fallL])
      go_wp2
      go_ret2
      exact ⟨by rw [hn.out]; rfl, rfl⟩

theorem phaseE_ok {x n : Int} (h : phaseE x n = 0) : 0 ≤ x ∧ x < n := by
  have := whenE_ok h (by decide)
  simp at this
  omega

def basin1E (r : List Int) (phase : Int) : Int := firstE [checkRingE r, phaseE phase r.length]
theorem basin1E_ok {r : List Int} {phase : Int} (h : basin1E r phase = 0) : 1 ≤ r.length ∧ r.length ≤ 64 ∧ RingP r ∧ 0 ≤ phase ∧ phase < r.length := by
  obtain ⟨h1, h2⟩ := firstE_cons_ok h
  obtain ⟨h2, _⟩ := firstE_cons_ok h2
  obtain ⟨a, b, c⟩ := checkRingE_ok h1
  have := phaseE_ok h2
  exact ⟨a, b, c, this.1, this.2⟩
/-- the first k phases that fall. -/
def basinL (r : List Int) (phase : Int) : Nat → List Int
  | 0 => []
  | k + 1 => if (fallsW r k phase).isSome then basinL r phase k ++ [(k : Int)] else basinL r phase k
theorem basinL_length (r : List Int) (phase : Int) (k : Nat) : (basinL r phase k).length ≤ k := by
  induction k with
  | zero => simp [basinL]
  | succ k ih =>
    rw [basinL]
    split
    · rw [List.length_append, List.length_singleton]; omega
    · omega
def basinR (r : List Int) (phase : Int) : List Int := if basin1E r phase ≠ 0 then [] else basinL r phase r.length

set_option maxRecDepth 100000 in
set_option maxHeartbeats 1000000 in
theorem Basin_any (v : Value) (r : List Int) (phase : Int) (w : World) (hv : Ints w v r) (hl : r.length ≤ 1000000) :
    Calls Tryz.prog 32 #[v, .int .i64 phase] w (GivesPoly w (basinR r phase) (basin1E r phase)) := by
  obtain ⟨a, cap, rfl, _⟩ := id hv
  obtain ⟨i0, hi, hz0, hz1, hz2⟩ := info_parts Tryz.infoInt
  go_enter Tryz.func32, Tryz.ntmps32
  go_wp2_with fail
  refine (CheckRing_any _ r w hv hl).mono ?_
  rintro e w1 ⟨rfl, h1⟩
  go_wp2_with fail
  refine (checkPhase_any _ _ _).mono ?_
  rintro e w' ⟨rfl, rfl⟩
  go_wp2_with fail
  refine (first2 _ _ _ _).mono ?_
  rintro e w' ⟨rfl, rfl⟩
  have hV := bthen h1 (below_new w1 (.cells #[.int .i64 (checkRingE r), .int .i64 (phaseE phase r.length)] 27))
  generalize w1.alloc _ = V at hV ⊢
  have hE : firstE [checkRingE r, phaseE phase r.length] = basin1E r phase := rfl
  rw [hE]
  clear h1 hE
  by_cases he : basin1E r phase = 0
  · obtain ⟨r1, r64, hrp, hp1, hp2⟩ := basin1E_ok he
    have HR := Lib.hid (show basinR r phase = basinL r phase r.length by rw [basinR, if_neg (by rw [he]; simp)])
    have HE := Lib.hid he
    have HRP := Lib.hid hrp
    rw [he]
    clear he hrp
    go_wp2_with fail
    go_loopw [7, 24] (fun vo vi wr => ∃ k : Nat, k ≤ r.length ∧ vi = .int .i64 k ∧ wr.ownsRow V.heap.size 3 1 vo (basinL r phase k).length ((basinL r phase k).map (Value.int .i64)) ∧ Below V.heap.size V wr) (fun _ vi _ => r.length - (intOf vi).toNat)
    case atStart => exact ⟨0, by omega, rfl, World.ownsRow_nil _ _ _ _, Below.refl _ _⟩
    case round =>
      obtain ⟨k, hk, rfl, hown, hbr⟩ := hrel
      have hbl := basinL_length r phase k
      by_cases hlt : k < r.length
      · have hs : basinL r phase (k + 1) = if (fallsW r k phase).isSome then basinL r phase k ++ [(k : Int)] else basinL r phase k := rfl
        have HS := Lib.hid hs
        have hfa := Lib.hid (falls_ring_any _ r k phase wr (hv.carry (bthen hV hbr)) hl HRP.out (by omega))
        clear hs
        by_cases hf : (fallsW r k phase).isSome = true
        · rw [hf] at hfa
          have HS2 := Lib.hid (show basinL r phase (k + 1) = basinL r phase k ++ [(k : Int)] by rw [HS.out, if_pos hf])
          clear hf
          generalize basinL r phase k = bl at hown hbl HS2
          go_wp2_with fail
          refine hfa.out.mono ?_
          rintro e w2 ⟨rfl, rfl⟩
          go_wp2_with (at_builtin; refine wpList_append_own _ rfl _ _ 22 rfl V.heap.size 3 i0 (.int .i64 0) 1 8 Tryz.underlying22 hi hz0 hz1 hz2 rfl (by decide) _ _ _ rfl (hown.alloc _) ⟨wr.heap.size, 0, none⟩ 1 1 [.int .i64 k] rfl rfl (cell_one_new _ _ _) (by simp [Value.oneCell']) (by unfold maxLen; omega) (by omega) (by have := hbr.size; simp; omega) ?_; intro v' w3 hown' hgrow _)
          have hb3 := below_own hbr hown hgrow
          have hown2 : w3.ownsRow V.heap.size 3 1 v' (basinL r phase (k + 1)).length ((basinL r phase (k + 1)).map (Value.int .i64)) := by
            rw [HS2.out, List.length_append, List.map_append]; exact hown'
          clear hown hown' hgrow hbr
          go_wp2
          go_roundw
          case rel => exact ⟨k + 1, by omega, by go_num, hown2, hb3⟩
          case measure => simp [intOf]; omega
        · have hf' : (fallsW r k phase).isSome = false := by simpa using hf
          rw [hf'] at hfa
          have HS2 := Lib.hid (show basinL r phase (k + 1) = basinL r phase k by rw [HS.out, if_neg hf])
          clear hf hf'
          go_wp2_with fail
          refine hfa.out.mono ?_
          rintro e w2 ⟨rfl, rfl⟩
          go_wp2
          go_roundw
          case rel => exact ⟨k + 1, by omega, by go_num, by rw [HS2.out]; exact hown, hbr⟩
          case measure => simp [intOf]; omega
      · obtain rfl : k = r.length := by omega
        have hout := Lib.hid (Ints.of_own hown rfl)
        clear hown
        go_wp2
        go_ret2
        exact ⟨⟨_, by rw [HE.out]; rfl, by rw [HR.out]; exact hout.out⟩, bthen hV hbr⟩
  · have HR := Lib.hid (show basinR r phase = [] by rw [basinR, if_pos he])
    go_wp2
    go_ret2
    exact ⟨⟨_, rfl, by rw [HR.out]; exact Ints.nil _⟩, hV⟩

def locks1E (r : List Int) (x phase : Int) : Int := firstE [checkRingE r, phaseE x r.length, phaseE phase r.length]
theorem locks1E_ok {r : List Int} {x phase : Int} (h : locks1E r x phase = 0) : 1 ≤ r.length ∧ r.length ≤ 64 ∧ RingP r ∧ 0 ≤ x ∧ x < r.length := by
  obtain ⟨h1, h2⟩ := firstE_cons_ok h
  obtain ⟨h2, _⟩ := firstE_cons_ok h2
  obtain ⟨a, b, c⟩ := checkRingE_ok h1
  have := phaseE_ok h2
  exact ⟨a, b, c, this.1, this.2⟩
def locksE (r : List Int) (x phase : Int) : Int := if locks1E r x phase ≠ 0 then locks1E r x phase else whenE (fallsW r x phase).isNone 7
def locksR (r : List Int) (x phase : Int) : Int := if locks1E r x phase ≠ 0 then 0 else (((fallsW r x phase).getD 0 : Nat) : Int)

set_option maxRecDepth 100000 in
set_option maxHeartbeats 1000000 in
theorem Locks_any (v : Value) (r : List Int) (x phase : Int) (w : World) (hv : Ints w v r) (hl : r.length ≤ 1000000) :
    Calls Tryz.prog 31 #[v, .int .i64 x, .int .i64 phase] w fun e w' => e = .returned (.tuple #[.int .i64 (locksR r x phase), .int .i64 (locksE r x phase)]) ∧ Below w.heap.size w w' := by
  obtain ⟨a, cap, rfl, _⟩ := id hv
  go_enter Tryz.func31, Tryz.ntmps31
  go_wp2_with fail
  refine (CheckRing_any _ r w hv hl).mono ?_
  rintro e w1 ⟨rfl, h1⟩
  go_wp2_with fail
  refine (checkPhase_any _ _ _).mono ?_
  rintro e w' ⟨rfl, rfl⟩
  go_wp2_with fail
  refine (checkPhase_any _ _ _).mono ?_
  rintro e w' ⟨rfl, rfl⟩
  go_wp2_with fail
  refine (first3 _ _ _ _ _).mono ?_
  rintro e w' ⟨rfl, rfl⟩
  have hV := bthen h1 (below_new w1 (.cells #[.int .i64 (checkRingE r), .int .i64 (phaseE x r.length), .int .i64 (phaseE phase r.length)] 27))
  generalize w1.alloc _ = V at hV ⊢
  have hE : firstE [checkRingE r, phaseE x r.length, phaseE phase r.length] = locks1E r x phase := rfl
  rw [hE]
  clear h1 hE
  by_cases he : locks1E r x phase = 0
  · obtain ⟨r1, r64, hrp, hp1, hp2⟩ := locks1E_ok he
    have HR := Lib.hid (show locksR r x phase = (((fallsW r x phase).getD 0 : Nat) : Int) by rw [locksR, if_neg (by rw [he]; simp)])
    have HE := Lib.hid (show locksE r x phase = whenE (fallsW r x phase).isNone 7 by rw [locksE, if_neg (by rw [he]; simp)])
    have hfa := Lib.hid (falls_ring_any _ r x phase V (hv.carry hV) hl hrp ⟨hp1, hp2⟩)
    rw [he]
    clear he hrp
    go_wp2_with fail
    refine (hfa.out).mono ?_
    rintro e w' ⟨rfl, rfl⟩
    go_wp2_with fail
    refine (when_any _ _ _).mono ?_
    rintro e w' ⟨rfl, rfl⟩
    go_wp2
    go_ret2
    exact ⟨by rw [HR.out, HE.out]; rfl, hV⟩
  · have HR := Lib.hid (show locksR r x phase = 0 by rw [locksR, if_pos he])
    have HE := Lib.hid (show locksE r x phase = locks1E r x phase by rw [locksE, if_pos he])
    go_wp2
    go_ret2
    exact ⟨by rw [HR.out, HE.out]; rfl, hV⟩

/-- does the k-th number prove what it must? -/
def proofB (r : List Int) (phase : Int) (l : List Int) (k : Nat) : Bool :=
  (!decide (l[k]?.getD 0 < 0)) && (decide (l[k]?.getD 0 = 0) == decide ((k : Int) = phase)) && (decide ((k : Int) = phase) || decide (l[(r[k]?.getD 0).toNat]?.getD 0 < l[k]?.getD 0))
def basin2E (r : List Int) (phase : Int) (l : List Int) : Int := firstE [checkRingE r, phaseE phase r.length, whenE ((l.length : Int) != (r.length : Int)) 2]
def checkBasinE (r : List Int) (phase : Int) (l : List Int) : Int := if basin2E r phase l ≠ 0 then basin2E r phase l else if (List.range r.length).all (proofB r phase l) then 0 else 19
theorem basin2E_ok {r : List Int} {phase : Int} {l : List Int} (h : basin2E r phase l = 0) : 1 ≤ r.length ∧ r.length ≤ 64 ∧ RingP r ∧ l.length = r.length := by
  obtain ⟨h1, h2⟩ := firstE_cons_ok h
  obtain ⟨_, h3⟩ := firstE_cons_ok h2
  obtain ⟨h3, _⟩ := firstE_cons_ok h3
  obtain ⟨a, b, c⟩ := checkRingE_ok h1
  have h3 := whenE_ok h3 (by decide)
  rw [bne_eq_false_iff_eq] at h3
  exact ⟨a, b, c, by omega⟩
theorem all_range_succ {f : Nat → Bool} {k : Nat} (h : (List.range k).all f = true) (hf : f k = true) : (List.range (k + 1)).all f = true := by
  rw [List.range_succ, List.all_append, h]; simp [hf]
theorem all_range_no {f : Nat → Bool} {k n : Nat} (hk : k < n) (hf : f k = false) : (List.range n).all f = false := by
  rw [List.all_eq_false]; exact ⟨k, List.mem_range.2 hk, by rw [hf]; simp⟩

set_option maxRecDepth 100000 in
set_option maxHeartbeats 2000000 in
theorem CheckBasin_any (v vl : Value) (r l : List Int) (phase : Int) (w : World) (hv : Ints w v r) (hvl : Ints w vl l) (hl : r.length ≤ 1000000) (hl2 : l.length ≤ 1000000) :
    Calls Tryz.prog 33 #[v, .int .i64 phase, vl] w fun e w' => e = .returned (.int .i64 (checkBasinE r phase l)) ∧ Below w.heap.size w w' := by
  obtain ⟨a, cap, rfl, _⟩ := id hv
  obtain ⟨a2, cap2, rfl, _⟩ := id hvl
  go_enter Tryz.func33, Tryz.ntmps33
  go_wp2_with fail
  refine (CheckRing_any _ r w hv hl).mono ?_
  rintro e w1 ⟨rfl, h1⟩
  go_wp2_with fail
  refine (checkPhase_any _ _ _).mono ?_
  rintro e w' ⟨rfl, rfl⟩
  go_wp2_with fail
  refine (when_any _ _ _).mono ?_
  rintro e w' ⟨rfl, rfl⟩
  go_wp2_with fail
  refine (first3 _ _ _ _ _).mono ?_
  rintro e w' ⟨rfl, rfl⟩
  have hV := bthen h1 (below_new w1 (.cells #[.int .i64 (checkRingE r), .int .i64 (phaseE phase r.length), .int .i64 (whenE ((l.length : Int) != (r.length : Int)) 2)] 27))
  generalize w1.alloc _ = V at hV ⊢
  have hE : firstE [checkRingE r, phaseE phase r.length, whenE ((l.length : Int) != (r.length : Int)) 2] = basin2E r phase l := rfl
  rw [hE]
  clear h1 hE
  by_cases he : basin2E r phase l = 0
  · obtain ⟨r1, r64, hrp, hll⟩ := basin2E_ok he
    have HR := Lib.hid (show checkBasinE r phase l = if (List.range r.length).all (proofB r phase l) then 0 else 19 by rw [checkBasinE, if_neg (by rw [he]; simp)])
    rw [he]
    have HRP := Lib.hid hrp
    have HL := Lib.hid hll
    obtain ⟨b, o, _, hba, hc⟩ := (hv.carry hV).head (by omega)
    cases hba
    obtain ⟨b2, o2, _, hba2, hc2⟩ := (hvl.carry hV).head (by omega)
    cases hba2
    have hC := Lib.hid hc
    have hC2 := Lib.hid hc2
    have l1 : 1 ≤ l.length := by omega
    have l64 : l.length ≤ 64 := by omega
    clear he hrp hll hc hc2
    go_wp2_with fail
    go_loop [29] (fun vi => ∃ k : Nat, k ≤ l.length ∧ vi = .int .i64 k ∧ (List.range k).all (proofB r phase l) = true) (fun vi => l.length - (intOf vi).toNat)
    case atStart => exact ⟨0, by omega, rfl, rfl⟩
    case round =>
      obtain ⟨k, hk, rfl, hall⟩ := hrel
      have HA := Lib.hid hall
      clear hall
      by_cases hlt : k < l.length
      · have c0 := hC2.out k hlt
        have hkr : k < r.length := by rw [← HL.out]; exact hlt
        have hrk : 0 ≤ r[k]?.getD 0 ∧ r[k]?.getD 0 < l.length := by
          rw [List.getElem?_eq_getElem hkr, HL.out]; exact HRP.out _ (List.getElem_mem _)
        have c1 := hC.out k hkr
        have c2 := hC2.out (r[k]?.getD 0).toNat (by omega)
        have hP : proofB r phase l k = ((!decide (l[k]?.getD 0 < 0)) && (decide (l[k]?.getD 0 = 0) == decide ((k : Int) = phase)) && (decide ((k : Int) = phase) || decide (l[(r[k]?.getD 0).toNat]?.getD 0 < l[k]?.getD 0))) := rfl
        have hno := fun h => all_range_no (f := proofB r phase l) hkr h
        generalize l[(r[k]?.getD 0).toNat]?.getD 0 = m at c2 hP
        generalize r[k]?.getD 0 = y at c1 c2 hrk
        generalize l[k]?.getD 0 = n at c0 hP
        obtain ⟨y1, y2⟩ := hrk
        have HP := Lib.hid hP
        have HNO := Lib.hid hno
        have g1 : (k : Int) < (r.length : Int) := by omega
        clear hP hno
        by_cases hn : n < 0
        · have hf := Lib.hid (HNO.out (by rw [HP.out, decide_eq_true hn]; rfl))
          clear c1 c2
          go_wp2
          go_ret
          exact ⟨ret_int (by rw [HR.out, hf.out]; rfl), hV⟩
        · by_cases hn0 : n = 0
          · by_cases hkp : (k : Int) = phase
            · have hf := Lib.hid (all_range_succ HA.out (show proofB r phase l k = true by rw [HP.out]; simp [hkp, hn0]))
              have e1 : (n == 0) = true := by simpa using hn0
              have e2 : ((k : Int) == phase) = true := by simpa using hkp
              have e3 : ((k : Int) != phase) = false := by simpa using hkp
              clear hn0 hkp c1 c2
              go_wp2
              go_round
              case rel => exact ⟨k + 1, by omega, by go_num, hf.out⟩
              case measure => simp [intOf]; omega
            · have hf := Lib.hid (HNO.out (by rw [HP.out, decide_eq_true hn0, decide_eq_false hkp]; simp))
              have e1 : (n == 0) = true := by simpa using hn0
              have e2 : ((k : Int) == phase) = false := by simpa using hkp
              clear hn0 hkp c1 c2
              go_wp2
              go_ret
              exact ⟨ret_int (by rw [HR.out, hf.out]; rfl), hV⟩
          · by_cases hkp : (k : Int) = phase
            · have hf := Lib.hid (HNO.out (by rw [HP.out, decide_eq_false hn0, decide_eq_true hkp]; simp))
              have e1 : (n == 0) = false := by simpa using hn0
              have e2 : ((k : Int) == phase) = true := by simpa using hkp
              clear hn0 hkp c1 c2
              go_wp2
              go_ret
              exact ⟨ret_int (by rw [HR.out, hf.out]; rfl), hV⟩
            · have e1 : (n == 0) = false := by simpa using hn0
              have e2 : ((k : Int) == phase) = false := by simpa using hkp
              have e3 : ((k : Int) != phase) = true := by simpa using hkp
              by_cases hm : m < n
              · have hf := Lib.hid (all_range_succ HA.out (show proofB r phase l k = true by rw [HP.out]; simp [hkp, hn0, hn, hm]))
                clear hn0 hkp
                go_wp2
                go_round
                case rel => exact ⟨k + 1, by omega, by go_num, hf.out⟩
                case measure => simp [intOf]; omega
              · have hf := Lib.hid (HNO.out (by rw [HP.out, decide_eq_false hkp, decide_eq_false hm]; simp))
                clear hn0 hkp
                go_wp2
                go_ret
                exact ⟨ret_int (by rw [HR.out, hf.out]; rfl), hV⟩
      · obtain rfl : k = l.length := by omega
        have h := HA.out
        rw [HL.out] at h
        have H := Lib.hid h
        clear h
        go_wp2
        go_ret
        exact ⟨ret_int (by rw [HR.out, H.out]; rfl), hV⟩
  · have HR := Lib.hid (show checkBasinE r phase l = basin2E r phase l by rw [checkBasinE, if_pos he])
    go_wp2
    go_ret
    exact ⟨ret_int (by rw [HR.out]), hV⟩

def made1E (n phase most : Int) : Int := firstE [withinE n 1 64, phaseE phase n, withinE most 1 64]
theorem made1E_ok {n phase most : Int} (h : made1E n phase most = 0) : 1 ≤ n ∧ n ≤ 64 ∧ 0 ≤ phase ∧ phase < n ∧ 1 ≤ most ∧ most ≤ 64 := by
  obtain ⟨h1, h2⟩ := firstE_cons_ok h
  obtain ⟨h2, h3⟩ := firstE_cons_ok h2
  obtain ⟨h3, _⟩ := firstE_cons_ok h3
  have := withinE_ok h1
  have := phaseE_ok h2
  have := withinE_ok h3
  omega
/-- the next phase of a phase. -/
def madeAt (n phase most x : Int) : Int :=
  if (phase - x + n) % n = 0 ∧ (x - phase + n) % n = 0 then x
  else if (phase - x + n) % n ≤ (x - phase + n) % n then (x + min most ((phase - x + n) % n)) % n
  else (x - min most ((x - phase + n) % n) + n) % n
def madeL (n phase most : Int) : List Int := upto (fun k => madeAt n phase most k) n.toNat
def madeR (n phase most : Int) : List Int := if made1E n phase most ≠ 0 then [] else madeL n phase most
def madeRow (n phase most : Int) (k : Nat) : List Int := upto (fun k => madeAt n phase most k) k ++ List.replicate (n.toNat - k) 0
theorem madeRow_set (n phase most : Int) (k : Nat) (h : k < n.toNat) : (madeRow n phase most k).set k (madeAt n phase most k) = madeRow n phase most (k + 1) := by
  unfold madeRow
  rw [List.set_append_right _ _ (by rw [upto_length]; exact Nat.le_refl _), upto_length, Nat.sub_self, show n.toNat - k = (n.toNat - (k + 1)) + 1 from by omega, List.replicate_succ, List.set_cons_zero, upto_succ]
  simp
theorem madeRow_length (n phase most : Int) (k : Nat) (h : k ≤ n.toNat) : (madeRow n phase most k).length = n.toNat := by simp [madeRow, upto_length]; omega

/-- two integers in an array against the zero array. -/
theorem eqWays (a b : Int) (w : World) : Sem.run Tryz.prog (binOp .eql 137 (.agg #[.int .i64 a, .int .i64 b]) (.agg #[.int .i64 0, .int .i64 0])) w = .ok (.bool (decide (a = 0 ∧ b = 0))) w := by
  obtain ⟨i0, hi, hz0, hz1, hz2⟩ := info_parts Tryz.infoInt
  have hu : Tryz.prog.underlying 3 = some (.int .i64) := by kernel_rfl
  have hc : Tryz.prog.cellsOf 3 = 1 := by kernel_rfl
  rw [run_eql_struct, run_equalIn_array w 9999 (t := 137) (e := 3) (n := 2) _ _ (by kernel_rfl) hi, hc]
  have he : ∀ x, (Op.equalIn 9999 3 (.int .i64 x) (.int .i64 0)).run Tryz.prog w = .ok (x == 0) w := fun x => run_equalIn_int w 9998 _ _ _ x 0 hu
  have hp : ∀ (xs : Array Value) (i : Nat) (x : Int), xs[i]? = some (.int .i64 x) → (part 3 xs i).run Tryz.prog w = .ok (.int .i64 x) w := fun xs i x hx => by
    exact run_part_plain w (by kernel_rfl) hx
  show Result.andThen (Sem.run _ (Op.eqItems 9999 _ 1 _ _ [0, 1]) w) _ = _
  simp only [Op.eqItems, Sem.run_bind]
  rw [hp _ _ a (by rfl)]
  simp only [Result.andThen_ok]
  rw [hp _ _ 0 (by rfl)]
  simp only [Result.andThen_ok, he]
  by_cases ha : a = 0
  · subst ha
    simp only [beq_self_eq_true, Bool.not_true, Bool.false_eq_true, if_false, Sem.run_bind]
    rw [hp _ _ b (by rfl)]
    simp only [Result.andThen_ok]
    rw [hp _ _ 0 (by rfl)]
    simp only [Result.andThen_ok, he]
    by_cases hb : b = 0
    · subst hb
      simp [Result.andThen]
    · simp [hb, Result.andThen]
  · simp [ha, Result.andThen]

set_option maxRecDepth 100000 in
set_option maxHeartbeats 4000000 in
theorem Made_any (n phase most : Int) (w : World) :
    Calls Tryz.prog 30 #[.int .i64 n, .int .i64 phase, .int .i64 most] w (GivesPoly w (madeR n phase most) (made1E n phase most)) := by
  go_enter Tryz.func30, Tryz.ntmps30
  go_wp2_with fail
  refine (within_any _ _ _ _).mono ?_
  rintro e w' ⟨rfl, rfl⟩
  go_wp2_with fail
  refine (checkPhase_any _ _ _).mono ?_
  rintro e w' ⟨rfl, rfl⟩
  go_wp2_with fail
  refine (within_any _ _ _ _).mono ?_
  rintro e w' ⟨rfl, rfl⟩
  go_wp2_with fail
  refine (first3 _ _ _ _ _).mono ?_
  rintro e w' ⟨rfl, rfl⟩
  have hV := below_new w (.cells #[.int .i64 (withinE n 1 64), .int .i64 (phaseE phase n), .int .i64 (withinE most 1 64)] 27)
  generalize w.alloc _ = V at hV ⊢
  have hE : firstE [withinE n 1 64, phaseE phase n, withinE most 1 64] = made1E n phase most := rfl
  rw [hE]
  clear hE
  by_cases he : made1E n phase most = 0
  · obtain ⟨n1, n64, p0, pn, m1, m64⟩ := made1E_ok he
    have HR := Lib.hid (show madeR n phase most = madeL n phase most by rw [madeR, if_neg (by rw [he]; simp)])
    have HE := Lib.hid he
    rw [he]
    clear he
    obtain ⟨N, rfl⟩ : ∃ N : Nat, n = N := ⟨n.toNat, by omega⟩
    have hmk := run_make_row' (P := Tryz.prog) 79 3 (.int .i64 0) 8 Tryz.underlying79 Tryz.infoInt rfl .i64 .i64 N (by omega) (by omega)
    rw [ia_made] at hmk
    go_wp2_with fail
    clear hmk
    have hB0 := below_new V (.cells (ia (List.replicate N 0)) 3)
    have hC0 := BlkI.new V 3 (List.replicate N 0)
    obtain ⟨W, hW⟩ : ∃ W, W = V.alloc (.cells (ia (List.replicate N 0)) 3) := ⟨_, rfl⟩
    rw [← hW] at hB0 hC0 ⊢
    clear hW
    go_loopw [27] (fun vi wr => ∃ k : Nat, k ≤ N ∧ vi = .int .i64 k ∧ Below V.heap.size V wr ∧ BlkI wr V.heap.size 3 (madeRow N phase most k)) (fun vi _ => N - (intOf vi).toNat)
    case atStart => exact ⟨0, by omega, rfl, hB0, by simpa [madeRow, upto] using hC0⟩
    case round =>
      obtain ⟨k, hk, rfl, hbr, hcr⟩ := hrel
      by_cases hlt : k < N
      · have hset := madeRow_set N phase most k (by simpa using hlt)
        have hlen := madeRow_length N phase most k (by simp; omega)
        rw [Int.toNat_natCast] at hlen
        obtain ⟨up, hup⟩ : ∃ u, u = (phase - k + N) % (N : Int) := ⟨_, rfl⟩
        obtain ⟨dn, hdn⟩ : ∃ u, u = ((k : Int) - phase + N) % (N : Int) := ⟨_, rfl⟩
        have hat : madeAt N phase most k = if up = 0 ∧ dn = 0 then (k : Int) else if up ≤ dn then (k + min most up) % (N : Int) else (k - min most dn + N) % (N : Int) := by rw [hup, hdn]; rfl
        rw [hat] at hset
        have hu1 : 0 ≤ up ∧ up < N := by rw [hup]; exact ⟨Int.emod_nonneg _ (by omega), Int.emod_lt_of_pos _ (by omega)⟩
        have hd1 : 0 ≤ dn ∧ dn < N := by rw [hdn]; exact ⟨Int.emod_nonneg _ (by omega), Int.emod_lt_of_pos _ (by omega)⟩
        have e1 : IntKind.i64.wrap (phase - (k : Int)) = phase - k := IntWalk.i64_in _ (by omega)
        have e2 : IntKind.i64.wrap (phase - (k : Int) + N) = phase - k + N := IntWalk.i64_in _ (by omega)
        have e3 : IntKind.i64.wrap ((k : Int) - phase) = k - phase := IntWalk.i64_in _ (by omega)
        have e4 : IntKind.i64.wrap ((k : Int) - phase + N) = k - phase + N := IntWalk.i64_in _ (by omega)
        have t1 : (phase - (k : Int) + N).tmod N = up := by rw [hup, Int.tmod_eq_emod_of_nonneg (by omega)]
        have t2 : ((k : Int) - phase + N).tmod N = dn := by rw [hdn, Int.tmod_eq_emod_of_nonneg (by omega)]
        have z1 : ¬ N = 0 := by omega
        have HSet := Lib.hid hset
        have HLen := Lib.hid hlen
        have hfo := Blk.frozen hcr k
        have hco := BlkI.cell hcr (j := k) (by omega)
        clear hup hdn hat hset hlen
        go_wp2_with fail
        refine wp_region_held_drew (S := (fun _ => True)) (by kernel_rfl) ?_ (fun hHeld0 => ?_)
        · (try dsimp only); (first | done | trivial)
        refine wpAnyH_take (i := 0) (oi := { dst := some 30, op := Op.move (Operand.tmp 1), type := 3, pos := "ring.go:82", after := #[], guard := none }) (v := ?_) rfl (by kernel_rfl) (by kernel_rfl) (by kernel_rfl) (fun _ _ _ h => h) (Or.inl ⟨by rfl, ?_⟩) (by assumption) ?_
        rotate_left
        · (intro w hSw; (try dsimp only at hSw); go_simp); (try with_reducible rfl)
        try simp only [Act.put, List.setIfInBounds_toArray, List.set_cons_zero, List.set_cons_succ]
        refine wpAnyH_take (i := 1) (oi := { dst := some 31, op := Op.move (Operand.tmp 10), type := 3, pos := "ring.go:82", after := #[], guard := none }) (v := ?_) rfl (by kernel_rfl) (by kernel_rfl) (by kernel_rfl) (fun _ _ _ h => h) (Or.inl ⟨by rfl, ?_⟩) (by assumption) ?_
        rotate_left
        · (intro w hSw; (try dsimp only at hSw); go_simp); (try with_reducible rfl)
        try simp only [Act.put, List.setIfInBounds_toArray, List.set_cons_zero, List.set_cons_succ]
        refine wpAnyH_take (i := 2) (oi := { dst := some 32, op := Op.binOp BinOp.sub 3 (Operand.tmp 30) (Operand.tmp 31) 3, type := 3, pos := "ring.go:82", after := #[{ on := 0, ground := Ground.data }, { on := 1, ground := Ground.data }], guard := none }) (v := ?_) rfl (by kernel_rfl) (by kernel_rfl) (by kernel_rfl) (fun _ _ _ h => h) (Or.inl ⟨by rfl, ?_⟩) (by assumption) ?_
        rotate_left
        · (intro w hSw; (try dsimp only at hSw); go_simp); (try with_reducible rfl)
        try simp only [Act.put, List.setIfInBounds_toArray, List.set_cons_zero, List.set_cons_succ]
        refine wpAnyH_take (i := 3) (oi := { dst := some 33, op := Op.move (Operand.tmp 0), type := 3, pos := "ring.go:82", after := #[], guard := none }) (v := ?_) rfl (by kernel_rfl) (by kernel_rfl) (by kernel_rfl) (fun _ _ _ h => h) (Or.inl ⟨by rfl, ?_⟩) (by assumption) ?_
        rotate_left
        · (intro w hSw; (try dsimp only at hSw); go_simp); (try with_reducible rfl)
        try simp only [Act.put, List.setIfInBounds_toArray, List.set_cons_zero, List.set_cons_succ]
        refine wpAnyH_take (i := 4) (oi := { dst := some 34, op := Op.binOp BinOp.add 3 (Operand.tmp 32) (Operand.tmp 33) 3, type := 3, pos := "ring.go:82", after := #[{ on := 2, ground := Ground.data }, { on := 3, ground := Ground.data }], guard := none }) (v := ?_) rfl (by kernel_rfl) (by kernel_rfl) (by kernel_rfl) (fun _ _ _ h => h) (Or.inl ⟨by rfl, ?_⟩) (by assumption) ?_
        rotate_left
        · (intro w hSw; (try dsimp only at hSw); go_simp); (try with_reducible rfl)
        try simp only [Act.put, List.setIfInBounds_toArray, List.set_cons_zero, List.set_cons_succ]
        refine wpAnyH_take (i := 5) (oi := { dst := some 35, op := Op.move (Operand.tmp 0), type := 3, pos := "ring.go:82", after := #[], guard := none }) (v := ?_) rfl (by kernel_rfl) (by kernel_rfl) (by kernel_rfl) (fun _ _ _ h => h) (Or.inl ⟨by rfl, ?_⟩) (by assumption) ?_
        rotate_left
        · (intro w hSw; (try dsimp only at hSw); go_simp); (try with_reducible rfl)
        try simp only [Act.put, List.setIfInBounds_toArray, List.set_cons_zero, List.set_cons_succ]
        refine wpAnyH_take (i := 6) (oi := { dst := some 36, op := Op.binOp BinOp.rem 3 (Operand.tmp 34) (Operand.tmp 35) 3, type := 3, pos := "ring.go:82", after := #[{ on := 4, ground := Ground.data }, { on := 5, ground := Ground.data }], guard := none }) (v := ?_) rfl (by kernel_rfl) (by kernel_rfl) (by kernel_rfl) (fun _ _ _ h => h) (Or.inl ⟨by rfl, ?_⟩) (by assumption) ?_
        rotate_left
        · (intro w hSw; (try dsimp only at hSw); go_simp); (try with_reducible rfl)
        try simp only [Act.put, List.setIfInBounds_toArray, List.set_cons_zero, List.set_cons_succ]
        refine wpAnyH_take (i := 7) (oi := { dst := some 37, op := Op.move (Operand.tmp 10), type := 3, pos := "ring.go:82", after := #[], guard := none }) (v := ?_) rfl (by kernel_rfl) (by kernel_rfl) (by kernel_rfl) (fun _ _ _ h => h) (Or.inl ⟨by rfl, ?_⟩) (by assumption) ?_
        rotate_left
        · (intro w hSw; (try dsimp only at hSw); go_simp); (try with_reducible rfl)
        try simp only [Act.put, List.setIfInBounds_toArray, List.set_cons_zero, List.set_cons_succ]
        refine wpAnyH_take (i := 8) (oi := { dst := some 38, op := Op.move (Operand.tmp 1), type := 3, pos := "ring.go:82", after := #[], guard := none }) (v := ?_) rfl (by kernel_rfl) (by kernel_rfl) (by kernel_rfl) (fun _ _ _ h => h) (Or.inl ⟨by rfl, ?_⟩) (by assumption) ?_
        rotate_left
        · (intro w hSw; (try dsimp only at hSw); go_simp); (try with_reducible rfl)
        try simp only [Act.put, List.setIfInBounds_toArray, List.set_cons_zero, List.set_cons_succ]
        refine wpAnyH_take (i := 9) (oi := { dst := some 39, op := Op.binOp BinOp.sub 3 (Operand.tmp 37) (Operand.tmp 38) 3, type := 3, pos := "ring.go:82", after := #[{ on := 7, ground := Ground.data }, { on := 8, ground := Ground.data }], guard := none }) (v := ?_) rfl (by kernel_rfl) (by kernel_rfl) (by kernel_rfl) (fun _ _ _ h => h) (Or.inl ⟨by rfl, ?_⟩) (by assumption) ?_
        rotate_left
        · (intro w hSw; (try dsimp only at hSw); go_simp); (try with_reducible rfl)
        try simp only [Act.put, List.setIfInBounds_toArray, List.set_cons_zero, List.set_cons_succ]
        refine wpAnyH_take (i := 10) (oi := { dst := some 40, op := Op.move (Operand.tmp 0), type := 3, pos := "ring.go:82", after := #[], guard := none }) (v := ?_) rfl (by kernel_rfl) (by kernel_rfl) (by kernel_rfl) (fun _ _ _ h => h) (Or.inl ⟨by rfl, ?_⟩) (by assumption) ?_
        rotate_left
        · (intro w hSw; (try dsimp only at hSw); go_simp); (try with_reducible rfl)
        try simp only [Act.put, List.setIfInBounds_toArray, List.set_cons_zero, List.set_cons_succ]
        refine wpAnyH_take (i := 11) (oi := { dst := some 41, op := Op.binOp BinOp.add 3 (Operand.tmp 39) (Operand.tmp 40) 3, type := 3, pos := "ring.go:82", after := #[{ on := 9, ground := Ground.data }, { on := 10, ground := Ground.data }], guard := none }) (v := ?_) rfl (by kernel_rfl) (by kernel_rfl) (by kernel_rfl) (fun _ _ _ h => h) (Or.inl ⟨by rfl, ?_⟩) (by assumption) ?_
        rotate_left
        · (intro w hSw; (try dsimp only at hSw); go_simp); (try with_reducible rfl)
        try simp only [Act.put, List.setIfInBounds_toArray, List.set_cons_zero, List.set_cons_succ]
        refine wpAnyH_take (i := 12) (oi := { dst := some 42, op := Op.move (Operand.tmp 0), type := 3, pos := "ring.go:82", after := #[], guard := none }) (v := ?_) rfl (by kernel_rfl) (by kernel_rfl) (by kernel_rfl) (fun _ _ _ h => h) (Or.inl ⟨by rfl, ?_⟩) (by assumption) ?_
        rotate_left
        · (intro w hSw; (try dsimp only at hSw); go_simp); (try with_reducible rfl)
        try simp only [Act.put, List.setIfInBounds_toArray, List.set_cons_zero, List.set_cons_succ]
        refine wpAnyH_take (i := 13) (oi := { dst := some 43, op := Op.binOp BinOp.rem 3 (Operand.tmp 41) (Operand.tmp 42) 3, type := 3, pos := "ring.go:82", after := #[{ on := 11, ground := Ground.data }, { on := 12, ground := Ground.data }], guard := none }) (v := ?_) rfl (by kernel_rfl) (by kernel_rfl) (by kernel_rfl) (fun _ _ _ h => h) (Or.inl ⟨by rfl, ?_⟩) (by assumption) ?_
        rotate_left
        · (intro w hSw; (try dsimp only at hSw); go_simp); (try with_reducible rfl)
        try simp only [Act.put, List.setIfInBounds_toArray, List.set_cons_zero, List.set_cons_succ]
        refine wpAnyH_take (i := 14) (oi := { dst := some 44, op := Op.build 137 #[(0, Operand.tmp 36), (1, Operand.tmp 43)], type := 137, pos := "ring.go:82", after := #[{ on := 6, ground := Ground.data }, { on := 13, ground := Ground.data }], guard := none }) (v := ?_) rfl (by kernel_rfl) (by kernel_rfl) (by kernel_rfl) (fun _ _ _ h => h) (Or.inl ⟨by rfl, ?_⟩) (by assumption) ?_
        rotate_left
        · (intro w hSw; (try dsimp only at hSw); go_simp); (try with_reducible rfl)
        try simp only [Act.put, List.setIfInBounds_toArray, List.set_cons_zero, List.set_cons_succ]
        refine wpAnyH_ready (rs := [15]) (by kernel_rfl) (by simp) ?_
        refine (AllReadyH.cons (o := { dst := some 11, op := Op.alloc 137, type := 0, pos := "ring.go:82", after := #[], guard := none }) rfl (fun K hK => ?_) AllReadyH.nil)
        go_simp
        refine hK.out _ _ ?_ (fun hHeld1 => ?_)
        · (try dsimp only); (first | done | trivial)
        clear hK K hHeld0
        try simp only [Act.put, List.setIfInBounds_toArray, List.set_cons_zero, List.set_cons_succ]
        refine wpAnyH_ready (rs := [16]) (by kernel_rfl) (by simp) ?_
        refine (AllReadyH.cons (o := { dst := none, op := Op.store 137 (Operand.tmp 11) (Operand.tmp 44), type := 0, pos := "ring.go:82", after := #[{ on := 15, ground := Ground.data }, { on := 14, ground := Ground.data }, { on := 0, ground := Ground.phase }, { on := 1, ground := Ground.phase }, { on := 2, ground := Ground.phase }, { on := 3, ground := Ground.phase }, { on := 4, ground := Ground.phase }, { on := 5, ground := Ground.phase }, { on := 6, ground := Ground.phase }, { on := 7, ground := Ground.phase }, { on := 8, ground := Ground.phase }, { on := 9, ground := Ground.phase }, { on := 10, ground := Ground.phase }, { on := 11, ground := Ground.phase }, { on := 12, ground := Ground.phase }, { on := 13, ground := Ground.phase }, { on := 14, ground := Ground.phase }, { on := 15, ground := Ground.phase }], guard := none }) rfl (fun K hK => ?_) AllReadyH.nil)
        go_simp
        refine hK.out _ _ ?_ (fun hHeld2 => ?_)
        · (try dsimp only); (first | done | trivial)
        clear hK K hHeld1
        try simp only [Act.put, List.setIfInBounds_toArray, List.set_cons_zero, List.set_cons_succ]
        refine wpAnyH_done (by kernel_rfl) ?_ _
        clear hHeld2
        obtain ⟨Z, hZ⟩ : ∃ v, v = World.alloc wr (Obj.cells #[.int .i64 up, .int .i64 dn] 137) := ⟨_, rfl⟩
        have kZ : Below wr.heap.size wr Z := by rw [hZ]; exact below_new _ _
        have iZ : Blk Z (wr.heap.size) 137 [.int .i64 up, .int .i64 dn] := by rw [hZ]; exact Blk.new _ _ _
        have sZ : Z.heap.size = wr.heap.size + 1 := by rw [hZ]; simp
        rw [← hZ]
        clear hZ
        clear sZ
        have hx0 := Blk.cell iZ (j := 0) (v := .int .i64 up) rfl
        have hx1 := Blk.cell iZ (j := 1) (v := .int .i64 dn) rfl
        have hcz := hcr.carry kZ
        have hfz := Blk.frozen hcz k
        have hcoz := BlkI.cell hcz (j := k) (by rw [HLen.out]; omega)
        clear hfo hco
        have hq := fun W => eqWays up dn W
        by_cases h0 : up = 0 ∧ dn = 0
        · have hst : (if up = 0 ∧ dn = 0 then (k : Int) else if up ≤ dn then (k + min most up) % (N : Int) else (k - min most dn + N) % (N : Int)) = k := if_pos h0
          have HSet := Lib.hid (HSet.out.symm.trans (by rw [hst])).symm
          have hd0 : decide (up = 0 ∧ dn = 0) = true := by simp [h0]
          rw [hd0] at hq
          clear hst hd0 h0
          go_wp2_with fail
          have hx := BlkI.set hcz k (k : Int)
          rw [HSet.out] at hx
          exact ⟨⟨k + 1, by omega, by simp, ((bthen hbr kZ).setCell (Nat.le_refl _) _).drew, hx⟩, by show N - ((k : Int) + 1).toNat < N - (k : Int).toNat; omega⟩
        · have hd0 : decide (up = 0 ∧ dn = 0) = false := by simp [h0]
          rw [hd0] at hq
          by_cases hle : up ≤ dn
          · have hst : (if up = 0 ∧ dn = 0 then (k : Int) else if up ≤ dn then (k + min most up) % (N : Int) else (k - min most dn + N) % (N : Int)) = (k + min most up) % (N : Int) := by rw [if_neg h0, if_pos hle]
            have HSet := Lib.hid (HSet.out.symm.trans (by rw [hst])).symm
            clear hst hd0 h0
            go_wp2_with fail
            have hmin : (if up < most then up else most) = min most up := by rw [Int.min_def]; split <;> split <;> omega
            have hx := BlkI.set hcz k ((k + (if up < most then up else most)) % (N : Int))
            rw [show (madeRow N phase most k).set k ((k + (if up < most then up else most)) % (N : Int)) = madeRow N phase most (k + 1) from by rw [hmin]; exact HSet.out] at hx
            exact ⟨⟨k + 1, by omega, by simp, ((bthen hbr kZ).setCell (Nat.le_refl _) _).drew, hx⟩, by show N - ((k : Int) + 1).toNat < N - (k : Int).toNat; omega⟩
          · have hst : (if up = 0 ∧ dn = 0 then (k : Int) else if up ≤ dn then (k + min most up) % (N : Int) else (k - min most dn + N) % (N : Int)) = (k - min most dn + N) % (N : Int) := by rw [if_neg h0, if_neg hle]
            have HSet := Lib.hid (HSet.out.symm.trans (by rw [hst])).symm
            clear hst hd0 h0
            go_wp2_with fail
            have hmin : (if dn < most then dn else most) = min most dn := by rw [Int.min_def]; split <;> split <;> omega
            have hx := BlkI.set hcz k ((k - (if dn < most then dn else most)) % (N : Int))
            rw [show (madeRow N phase most k).set k ((k - (if dn < most then dn else most)) % (N : Int)) = madeRow N phase most (k + 1) from by rw [hmin, ← Int.add_emod_right]; exact HSet.out] at hx
            exact ⟨⟨k + 1, by omega, by simp, ((bthen hbr kZ).setCell (Nat.le_refl _) _).drew, hx⟩, by show N - ((k : Int) + 1).toNat < N - (k : Int).toNat; omega⟩
      · obtain rfl : k = N := by omega
        have hfin : madeRow k phase most k = madeL k phase most := by simp [madeRow, madeL]
        rw [hfin] at hcr
        have hl := Lib.hid (BlkI.ints hcr (n := k) (by rw [madeL, upto_length]; simp))
        clear hfin hcr
        go_wp2
        go_ret2
        exact ⟨⟨_, by rw [HE.out]; rfl, by rw [HR.out]; exact hl.out⟩, bthen hV hbr⟩
  · have HR := Lib.hid (show madeR n phase most = [] by rw [madeR, if_pos he])
    go_wp2
    go_ret2
    exact ⟨⟨_, rfl, by rw [HR.out]; exact Ints.nil _⟩, hV⟩

/-- the package's table of the four quarters, as its initialiser lays it. -/
structure Quarters (w : World) : Prop where
  q0 : w.cell? ⟨0, 0, none⟩ = some (.int .i64 1)
  q1 : w.cell? ⟨0, 1, none⟩ = some (.int .i64 0)
  q2 : w.cell? ⟨0, 2, none⟩ = some (.int .i64 0)
  q3 : w.cell? ⟨0, 3, none⟩ = some (.int .i64 1)
  q4 : w.cell? ⟨0, 4, none⟩ = some (.int .i64 (-1))
  q5 : w.cell? ⟨0, 5, none⟩ = some (.int .i64 0)
  q6 : w.cell? ⟨0, 6, none⟩ = some (.int .i64 0)
  q7 : w.cell? ⟨0, 7, none⟩ = some (.int .i64 (-1))
theorem Quarters.below {n : Nat} {w w' : World} (h : Quarters w) (hb : Below n w w') (hn : 0 < n) : Quarters w' := by
  have e : ∀ j, w'.cell? ⟨0, j, none⟩ = w.cell? ⟨0, j, none⟩ := fun j => World.cell?_of_block (a := ⟨0, j, none⟩) (hb.block 0 hn)
  exact ⟨(e 0).trans h.q0, (e 1).trans h.q1, (e 2).trans h.q2, (e 3).trans h.q3, (e 4).trans h.q4, (e 5).trans h.q5, (e 6).trans h.q6, (e 7).trans h.q7⟩
theorem Quarters.size {w : World} (h : Quarters w) : 0 < w.heap.size := by
  have h0 := h.q0
  rcases Nat.eq_zero_or_pos w.heap.size with hz | hz
  · simp [World.cell?, hz] at h0
  · exact hz

def quarterAt : Nat → Int × Int
  | 0 => (1, 0) | 1 => (0, 1) | 2 => (-1, 0) | _ => (0, -1)
/-- a complex integer as a complex number. -/
def cx (z : Int × Int) : Value := .complex .f64 (floatOfInt .f64 z.1) (floatOfInt .f64 z.2)
def respV (l : List Int) (k : Nat) : Value := cx (atW l (quarterAt k).1 (quarterAt k).2)
def respRow (l : List Int) (k : Nat) : List Value := (List.range 4).map fun j => if j < k then respV l j else .complex .f64 0 0
theorem respRow_set (l : List Int) (k : Nat) (h : k < 4) : (respRow l k).set k (respV l k) = respRow l (k + 1) := by
  obtain rfl | rfl | rfl | rfl : k = 0 ∨ k = 1 ∨ k = 2 ∨ k = 3 := by omega
  all_goals simp [respRow, List.range_succ]
def respR (a b c d : List Int) : List Value := if checkLoopE a b c d ≠ 0 then List.replicate 4 (.complex .f64 0 0) else respRow (closedW a b c d) 4

def quartersA : Array Value := #[.int .i64 1, .int .i64 0, .int .i64 0, .int .i64 1, .int .i64 (-1), .int .i64 0, .int .i64 0, .int .i64 (-1)]
theorem index_q0 (w : World) : (Instr.index 121 (.agg #[.int .i64 1, .int .i64 0, .int .i64 0, .int .i64 1, .int .i64 (-1), .int .i64 0, .int .i64 0, .int .i64 (-1)]) (.int .i64 0)).run Tryz.prog w = .ok (.agg #[.int .i64 1, .int .i64 0]) w := by kernel_rfl
theorem index_q1 (w : World) : (Instr.index 121 (.agg #[.int .i64 1, .int .i64 0, .int .i64 0, .int .i64 1, .int .i64 (-1), .int .i64 0, .int .i64 0, .int .i64 (-1)]) (.int .i64 1)).run Tryz.prog w = .ok (.agg #[.int .i64 0, .int .i64 1]) w := by kernel_rfl
theorem index_q2 (w : World) : (Instr.index 121 (.agg #[.int .i64 1, .int .i64 0, .int .i64 0, .int .i64 1, .int .i64 (-1), .int .i64 0, .int .i64 0, .int .i64 (-1)]) (.int .i64 2)).run Tryz.prog w = .ok (.agg #[.int .i64 (-1), .int .i64 0]) w := by kernel_rfl
theorem index_q3 (w : World) : (Instr.index 121 (.agg #[.int .i64 1, .int .i64 0, .int .i64 0, .int .i64 1, .int .i64 (-1), .int .i64 0, .int .i64 0, .int .i64 (-1)]) (.int .i64 3)).run Tryz.prog w = .ok (.agg #[.int .i64 0, .int .i64 (-1)]) w := by kernel_rfl
theorem store_cx (x y : Nat) (ad : Addr) (m : Mode) (w : World) : (store ad (.complex .f64 x y) m).run Tryz.prog w = stored Tryz.prog w ad (.complex .f64 x y) m := run_store Tryz.prog w ad _ m rfl
theorem store_resp (l : List Int) (k : Nat) (ad : Addr) (m : Mode) (w : World) : (store ad (respV l k) m).run Tryz.prog w = stored Tryz.prog w ad (respV l k) m := run_store Tryz.prog w ad _ m rfl

set_option maxRecDepth 100000 in
set_option maxHeartbeats 4000000 in
theorem Response_any (va vb vc vd : Value) (a b c d : List Int) (w : World) (hq : Quarters w) (ha : Ints w va a) (hb : Ints w vb b) (hc : Ints w vc c) (hd : Ints w vd d)
    (ha2 : a.length ≤ 100000) (hb2 : b.length ≤ 100000) (hc2 : c.length ≤ 100000) (hd2 : d.length ≤ 100000) :
    Calls Tryz.prog 21 #[.agg #[va, vb, vc, vd]] w fun r w' => r = .returned (.tuple #[.agg (respR a b c d).toArray, .int .i64 (checkLoopE a b c d)]) ∧ Below w.heap.size w w' := by
  go_enter Tryz.func21, Tryz.ntmps21
  go_wp2_with fail
  obtain ⟨W1, hW1⟩ : ∃ v, v = World.alloc w (Obj.cells #[va, vb, vc, vd] 32) := ⟨_, rfl⟩
  have kW1 : Below w.heap.size w W1 := by rw [hW1]; exact below_new _ _
  have iW1 : Blk W1 (w.heap.size) 32 [va, vb, vc, vd] := by rw [hW1]; exact Blk.new _ _ _
  have sW1 : W1.heap.size = w.heap.size + 1 := by rw [hW1]; simp
  rw [← hW1]
  clear hW1
  obtain ⟨W2, hW2⟩ : ∃ v, v = World.alloc W1 (Obj.cells #[.complex .f64 0 0, .complex .f64 0 0, .complex .f64 0 0, .complex .f64 0 0] 58) := ⟨_, rfl⟩
  have kW2 : Below W1.heap.size W1 W2 := by rw [hW2]; exact below_new _ _
  have iW2 : Blk W2 (w.heap.size + 1) 58 [.complex .f64 0 0, .complex .f64 0 0, .complex .f64 0 0, .complex .f64 0 0] := by rw [hW2, ← sW1]; exact Blk.new _ _ _
  have sW2 : W2.heap.size = w.heap.size + 1 + 1 := by rw [hW2]; simp [sW1]
  rw [← hW2]
  clear hW2
  have hB := bthen kW1 kW2
  have hs2 : W2.heap.size = w.heap.size + 2 := by omega
  clear sW1 sW2
  have TC := Lib.hid (CheckLoop_any va vb vc vd a b c d _ (ha.below hB) (hb.below hB) (hc.below hB) (hd.below hB) ha2 hb2 hc2 hd2)
  refine TC.out.mono ?_
  clear TC
  rintro e w2 ⟨rfl, h2⟩
  have hB2 := bthen hB h2
  have l2 := (iW1.carry kW2).carry h2
  have r2 := iW2.carry h2
  have hs2 : w.heap.size + 2 ≤ w2.heap.size := by have := h2.size; omega
  have k0 := l2.cell (j := 0) rfl
  have k1 := l2.cell (j := 1) rfl
  have k2 := l2.cell (j := 2) rfl
  have k3 := l2.cell (j := 3) rfl
  have z0 := r2.cell (j := 0) rfl
  have z1 := r2.cell (j := 1) rfl
  have z2 := r2.cell (j := 2) rfl
  have z3 := r2.cell (j := 3) rfl
  have f0 := r2.frozen 0
  have f1 := r2.frozen 1
  have f2 := r2.frozen 2
  have f3 := r2.frozen 3
  by_cases he : checkLoopE a b c d = 0
  · obtain ⟨ea, eb, ec, ed⟩ := checkLoopE_ok he
    have ⟨a1, a5⟩ := checkPolyE_ok ea
    have ⟨b1, b5⟩ := checkPolyE_ok eb
    have ⟨c1, c5⟩ := checkPolyE_ok ec
    have ⟨d1, d5⟩ := checkPolyE_ok ed
    clear ea eb ec ed
    have HR := Lib.hid (show respR a b c d = respRow (closedW a b c d) 4 by rw [respR, if_neg (by rw [he]; simp)])
    have HE := Lib.hid he
    rw [he]
    clear he
    have T2 := Lib.hid (closed_any va vb vc vd a b c d w2 (ha.below hB2) (hb.below hB2) (hc.below hB2) (hd.below hB2) a1 b1 c1 d1 ha2 hb2 hc2 hd2)
    go_wp2_with fail
    refine T2.out.mono ?_
    clear T2
    rintro e w3 ⟨⟨u, rfl, hu⟩, h3⟩
    have hq3 := hq.below (bthen hB2 h3) hq.size
    have hq4 := hq3.below (below_new w3 (.cells #[.complex .f64 0 0, .complex .f64 0 0, .complex .f64 0 0, .complex .f64 0 0] 58)) hq3.size
    obtain ⟨q0, q1, q2, q3, q4, q5, q6, q7⟩ := hq4
    go_wp2_with fail
    clear q0 q1 q2 q3 q4 q5 q6 q7 k0 k1 k2 k3
    obtain ⟨W4, hW4⟩ : ∃ v, v = World.alloc w3 (Obj.cells #[.complex .f64 0 0, .complex .f64 0 0, .complex .f64 0 0, .complex .f64 0 0] 58) := ⟨_, rfl⟩
    have kW4 : Below w3.heap.size w3 W4 := by rw [hW4]; exact below_new _ _
    have iW4 : Blk W4 (w3.heap.size) 58 [.complex .f64 0 0, .complex .f64 0 0, .complex .f64 0 0, .complex .f64 0 0] := by rw [hW4]; exact Blk.new _ _ _
    have sW4 : W4.heap.size = w3.heap.size + 1 := by rw [hW4]; simp
    rw [← hW4]
    clear hW4
    clear sW4
    generalize hl : closedW a b c d = l at hu HR
    have hll : l.length ≤ 1000000 := by rw [← hl]; have := closedW_length a b c d; omega
    clear hl
    go_loopw [19] (fun vi wr => ∃ k : Nat, k ≤ 4 ∧ vi = .int .i64 k ∧ Below w3.heap.size w3 wr ∧ Blk wr w3.heap.size 58 (respRow l k)) (fun vi _ => 4 - (intOf vi).toNat)
    case atStart => exact ⟨0, by omega, rfl, kW4, iW4⟩
    case round =>
      obtain ⟨k, hk, rfl, hbr, hcr⟩ := hrel
      by_cases hlt : k < 4
      · have hset := Lib.hid (respRow_set l k hlt)
        have TA := fun (W : World) (h : Ints W u l) (zr zi : Int) => at_any u l zr zi W h (by omega)
        have TA := Lib.hid TA
        obtain rfl | rfl | rfl | rfl : k = 0 ∨ k = 1 ∨ k = 2 ∨ k = 3 := by omega
        · have hix := index_q0
          have hsx := store_cx
          go_wp2_with fail
          obtain ⟨X1, hX1⟩ : ∃ v, v = World.alloc wr (Obj.cells #[.int .i64 1, .int .i64 0] 51) := ⟨_, rfl⟩
          have kX1 : Below wr.heap.size wr X1 := by rw [hX1]; exact below_new _ _
          have iX1 : Blk X1 (wr.heap.size) 51 [.int .i64 1, .int .i64 0] := by rw [hX1]; exact Blk.new _ _ _
          have sX1 : X1.heap.size = wr.heap.size + 1 := by rw [hX1]; simp
          rw [← hX1]
          clear hX1
          clear sX1
          refine (TA.out X1 (hu.below (bthen hbr kX1)) 1 0).mono ?_
          rintro e w5 ⟨rfl, h5⟩
          have hb5 := bthen (bthen hbr kX1) h5
          have kY := below_new w5 (.cells #[.int .i64 (atW l 1 0).1, .int .i64 (atW l 1 0).2] 51)
          have hcY := ((hcr.carry kX1).carry h5).carry kY
          have c0 := hcY.cell (j := 0) (v := .complex .f64 0 0) rfl
          have f0 := hcY.frozen 0
          go_wp2_with fail
          have hx := hcY.set 0 (respV l 0)
          rw [hset.out] at hx
          exact ⟨⟨0 + 1, by omega, by simp, ((bthen hb5 kY).setCell (Nat.le_refl _) _), hx⟩, by simp [intOf]⟩
        · have hix := index_q1
          have hsx := store_cx
          go_wp2_with fail
          obtain ⟨X1, hX1⟩ : ∃ v, v = World.alloc wr (Obj.cells #[.int .i64 0, .int .i64 1] 51) := ⟨_, rfl⟩
          have kX1 : Below wr.heap.size wr X1 := by rw [hX1]; exact below_new _ _
          have iX1 : Blk X1 (wr.heap.size) 51 [.int .i64 0, .int .i64 1] := by rw [hX1]; exact Blk.new _ _ _
          have sX1 : X1.heap.size = wr.heap.size + 1 := by rw [hX1]; simp
          rw [← hX1]
          clear hX1
          clear sX1
          refine (TA.out X1 (hu.below (bthen hbr kX1)) 0 1).mono ?_
          rintro e w5 ⟨rfl, h5⟩
          have hb5 := bthen (bthen hbr kX1) h5
          have kY := below_new w5 (.cells #[.int .i64 (atW l 0 1).1, .int .i64 (atW l 0 1).2] 51)
          have hcY := ((hcr.carry kX1).carry h5).carry kY
          have c0 := hcY.cell (j := 1) (v := .complex .f64 0 0) rfl
          have f0 := hcY.frozen 1
          go_wp2_with fail
          have hx := hcY.set 1 (respV l 1)
          rw [hset.out] at hx
          exact ⟨⟨1 + 1, by omega, by simp, ((bthen hb5 kY).setCell (Nat.le_refl _) _), hx⟩, by simp [intOf]⟩
        · have hix := index_q2
          have hsx := store_cx
          go_wp2_with fail
          obtain ⟨X1, hX1⟩ : ∃ v, v = World.alloc wr (Obj.cells #[.int .i64 (-1), .int .i64 0] 51) := ⟨_, rfl⟩
          have kX1 : Below wr.heap.size wr X1 := by rw [hX1]; exact below_new _ _
          have iX1 : Blk X1 (wr.heap.size) 51 [.int .i64 (-1), .int .i64 0] := by rw [hX1]; exact Blk.new _ _ _
          have sX1 : X1.heap.size = wr.heap.size + 1 := by rw [hX1]; simp
          rw [← hX1]
          clear hX1
          clear sX1
          refine (TA.out X1 (hu.below (bthen hbr kX1)) (-1) 0).mono ?_
          rintro e w5 ⟨rfl, h5⟩
          have hb5 := bthen (bthen hbr kX1) h5
          have kY := below_new w5 (.cells #[.int .i64 (atW l (-1) 0).1, .int .i64 (atW l (-1) 0).2] 51)
          have hcY := ((hcr.carry kX1).carry h5).carry kY
          have c0 := hcY.cell (j := 2) (v := .complex .f64 0 0) rfl
          have f0 := hcY.frozen 2
          go_wp2_with fail
          have hx := hcY.set 2 (respV l 2)
          rw [hset.out] at hx
          exact ⟨⟨2 + 1, by omega, by simp, ((bthen hb5 kY).setCell (Nat.le_refl _) _), hx⟩, by simp [intOf]⟩
        · have hix := index_q3
          have hsx := store_cx
          go_wp2_with fail
          obtain ⟨X1, hX1⟩ : ∃ v, v = World.alloc wr (Obj.cells #[.int .i64 0, .int .i64 (-1)] 51) := ⟨_, rfl⟩
          have kX1 : Below wr.heap.size wr X1 := by rw [hX1]; exact below_new _ _
          have iX1 : Blk X1 (wr.heap.size) 51 [.int .i64 0, .int .i64 (-1)] := by rw [hX1]; exact Blk.new _ _ _
          have sX1 : X1.heap.size = wr.heap.size + 1 := by rw [hX1]; simp
          rw [← hX1]
          clear hX1
          clear sX1
          refine (TA.out X1 (hu.below (bthen hbr kX1)) 0 (-1)).mono ?_
          rintro e w5 ⟨rfl, h5⟩
          have hb5 := bthen (bthen hbr kX1) h5
          have kY := below_new w5 (.cells #[.int .i64 (atW l 0 (-1)).1, .int .i64 (atW l 0 (-1)).2] 51)
          have hcY := ((hcr.carry kX1).carry h5).carry kY
          have c0 := hcY.cell (j := 3) (v := .complex .f64 0 0) rfl
          have f0 := hcY.frozen 3
          go_wp2_with fail
          have hx := hcY.set 3 (respV l 3)
          rw [hset.out] at hx
          exact ⟨⟨3 + 1, by omega, by simp, ((bthen hb5 kY).setCell (Nat.le_refl _) _), hx⟩, by simp [intOf]⟩
      · obtain rfl : k = 4 := by omega
        replace hcr : Blk wr w3.heap.size 58 [respV l 0, respV l 1, respV l 2, respV l 3] := hcr
        have hbr2 := bthen h3 hbr
        have r4 := r2.carry hbr2
        have c0 := hcr.cell (j := 0) rfl
        have c1 := hcr.cell (j := 1) rfl
        have c2 := hcr.cell (j := 2) rfl
        have c3 := hcr.cell (j := 3) rfl
        have z0 := r4.cell (j := 0) rfl
        have z1 := r4.cell (j := 1) rfl
        have z2 := r4.cell (j := 2) rfl
        have z3 := r4.cell (j := 3) rfl
        have f0 := r4.frozen 0
        have f1 := r4.frozen 1
        have f2 := r4.frozen 2
        have f3 := r4.frozen 3
        have hsx := store_resp l
        go_wp2
        have y := (((r4.set 0 (respV l 0)).set 1 (respV l 1)).set 2 (respV l 2)).set 3 (respV l 3)
        have y0 := y.cell (j := 0) (v := respV l 0) rfl
        have y1 := y.cell (j := 1) (v := respV l 1) rfl
        have y2 := y.cell (j := 2) (v := respV l 2) rfl
        have y3 := y.cell (j := 3) (v := respV l 3) rfl
        refine bodyPost_ret (v := .tuple #[.agg #[respV l 0, respV l 1, respV l 2, respV l 3], .int .i64 0]) (by simp [results, Tryz.f21, go_sem, y0, y1, y2, y3]) rfl ⟨?_, ((((bthen hB2 hbr2).setCell (by simp) _).setCell (by simp) _).setCell (by simp) _).setCell (by simp) _⟩
        rw [HR.out, HE.out]
        rfl
  · have HR := Lib.hid (show respR a b c d = List.replicate 4 (.complex .f64 0 0) by rw [respR, if_pos he])
    have hsx := store_cx
    go_wp2
    have y := (((r2.set 0 (.complex .f64 0 0)).set 1 (.complex .f64 0 0)).set 2 (.complex .f64 0 0)).set 3 (.complex .f64 0 0)
    have y0 := y.cell (j := 0) rfl
    have y1 := y.cell (j := 1) rfl
    have y2 := y.cell (j := 2) rfl
    have y3 := y.cell (j := 3) rfl
    refine bodyPost_ret (v := .tuple #[.agg #[.complex .f64 0 0, .complex .f64 0 0, .complex .f64 0 0, .complex .f64 0 0], .int .i64 (checkLoopE a b c d)]) (by simp [results, Tryz.f21, go_sem, y0, y1, y2, y3]) rfl ⟨?_, (((hB2.setCell (by simp) _).setCell (by simp) _).setCell (by simp) _).setCell (by simp) _⟩
    rw [HR.out]
    rfl

end Go.Proofs.YtfdehcphmmhjaaaGreatDoor

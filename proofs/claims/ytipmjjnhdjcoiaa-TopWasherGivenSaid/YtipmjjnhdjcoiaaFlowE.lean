/- The package flow at straight lines: the sum, the crossing. -/
import Derived.Test.YtipmjjnhdjcoiaaFlowD
namespace Go.Proofs.Ytipmjjnhdjcoiaa
set_option linter.unusedSimpArgs false
set_option linter.unusedVariables false
open Go.RowKit

/-- what lines give together at a voltage. -/
def tot (ls : List (Int × Int)) (n : Int) : Int := (ls.map fun x => x.1 - x.2 * n).sum
theorem tot_snoc (ls : List (Int × Int)) (x : Int × Int) (n : Int) : tot (ls ++ [x]) n = tot ls n + (x.1 - x.2 * n) := by simp [tot, List.sum_append]
theorem tot_bd {V n : Int} {ls : List (Int × Int)} (hok : LinesOk V ls) (hn : 0 ≤ n ∧ n ≤ V) (k : Nat) (hk : k ≤ ls.length) : -1000 * (k : Int) ≤ tot (ls.take k) n ∧ tot (ls.take k) n ≤ 1000 * k := by
  induction k with
  | zero => simp [tot]
  | succ k ih =>
    obtain ⟨i1, i2⟩ := ih (by omega)
    obtain ⟨x, hx⟩ : ∃ x, ls[k]? = some x := ⟨_, List.getElem?_eq_getElem (by omega)⟩
    have hb := hok.each x (List.mem_of_getElem? hx)
    have hl := line_at hok.v ⟨hb.1, hb.2.1⟩ ⟨hb.2.2.1, hb.2.2.2.1⟩ hb.2.2.2.2 hn
    rw [List.take_add_one, hx, show (some x).toList = [x] from rfl, tot_snoc]
    omega
/-- what they fall together a volt. -/
def fallL (ls : List (Int × Int)) : Int := (ls.map Prod.snd).sum
theorem tot_fall (ls : List (Int × Int)) (n m : Int) : tot ls n - tot ls m = fallL ls * (m - n) := by
  induction ls with
  | nil => simp [tot, fallL]
  | cons x ls ih =>
    have e1 : tot (x :: ls) n = (x.1 - x.2 * n) + tot ls n := by simp [tot]
    have e2 : tot (x :: ls) m = (x.1 - x.2 * m) + tot ls m := by simp [tot]
    have e3 : fallL (x :: ls) = x.2 + fallL ls := by simp [fallL]
    rw [e1, e2, e3, Int.add_mul, ← ih, Int.mul_sub]
    omega
theorem fall_pos {V : Int} {ls : List (Int × Int)} (hok : LinesOk V ls) : 1 ≤ fallL ls := by
  have key : ∀ l : List (Int × Int), (∀ x ∈ l, 1 ≤ x.2) → (l.length : Int) ≤ fallL l := by
    intro l
    induction l with
    | nil => intro _; simp [fallL]
    | cons x l ih =>
      intro h
      have := ih (fun y hy => h y (by simp [hy]))
      have := h x (by simp)
      have e3 : fallL (x :: l) = x.2 + fallL l := by simp [fallL]
      rw [e3, List.length_cons]; omega
  have := key ls (fun x hx => (hok.each x hx).2.2.1)
  have := hok.n
  omega
theorem tot_lt {V n m : Int} {ls : List (Int × Int)} (hok : LinesOk V ls) (h : n < m) : tot ls m < tot ls n := by
  have h1 := tot_fall ls n m
  have h2 := fall_pos hok
  have h3 : (1 : Int) * 1 ≤ fallL ls * (m - n) := Int.mul_le_mul h2 (by omega) (by omega) (by omega)
  omega

set_option maxRecDepth 100000 in
set_option maxHeartbeats 2000000 in
theorem sumF_any (v : Value) (V n : Int) (ls : List (Int × Int)) (w : World) (h : LinesIs w v V ls) (hok : LinesOk V ls) (hn : 0 ≤ n ∧ n ≤ V) :
    Calls Try.prog 65 #[v, .int .i64 n] w fun r w' => r = .returned (.agg #[.int .i64 (tot ls n), .int .i64 1]) ∧ Below w.heap.size w w' := by
  have HOK := Lib.hid hok
  have HN := Lib.hid hn
  obtain ⟨b, off, cap, rfl, hcap, hls⟩ := id h
  have HLS := Lib.hid hls
  have HN13 := Lib.hid hok.n
  have HBD := Lib.hid (tot_bd hok hn)
  clear h hls hok hn
  go_enter Try.func65, Try.ntmps65
  go_upto_region 2 with fail
  obtain ⟨W1, hW1⟩ : ∃ v, v = World.alloc w (Obj.cells #[.int .i64 0, .int .i64 0] 61) := ⟨_, rfl⟩
  have kW1 : Below w.heap.size w W1 := by rw [hW1]; exact below_new _ _
  have iW1 : Blk W1 (w.heap.size) 61 [.int .i64 0, .int .i64 0] := by rw [hW1]; exact Blk.new _ _ _
  have sW1 : W1.heap.size = w.heap.size + 1 := by rw [hW1]; simp
  rw [← hW1]
  clear hW1
  obtain ⟨W2, hW2⟩ : ∃ v, v = World.alloc W1 (Obj.cells #[.int .i64 0, .int .i64 1] 61) := ⟨_, rfl⟩
  have kW2 : Below W1.heap.size W1 W2 := by rw [hW2]; exact below_new _ _
  have iW2 : Blk W2 (w.heap.size + 1) 61 [.int .i64 0, .int .i64 1] := by rw [hW2, ← sW1]; exact Blk.new _ _ _
  have sW2 : W2.heap.size = w.heap.size + 1 + 1 := by rw [hW2]; simp [sW1]
  rw [← hW2]
  clear hW2
  clear sW1 sW2
  have iR := iW1.carry kW2
  have iC := iW2
  have hB := bthen kW1 kW2
  clear iW1 iW2 kW1 kW2
  go_wp2
  go_loopw [11] (fun v11 wr => ∃ k : Nat, k ≤ ls.length ∧ v11 = .int .i64 k ∧ Blk wr (w.heap.size + 1) 61 [.int .i64 (tot (ls.take k) n), .int .i64 1] ∧ Blk wr w.heap.size 61 [.int .i64 0, .int .i64 0] ∧ Below w.heap.size w wr) (fun v11 _ => ls.length - (intOf v11).toNat)
  case atStart => exact ⟨0, by omega, rfl, iC, iR, hB⟩
  case round =>
    clear iC iR hB
    obtain ⟨k, hk, rfl, iC, iR, hB⟩ := hrel
    by_cases hlt : k < ls.length
    · obtain ⟨x, hx⟩ : ∃ x, ls[k]? = some x := ⟨_, List.getElem?_eq_getElem hlt⟩
      obtain ⟨u, hu, hlu⟩ := HLS.out k x hx
      replace hu := cellb hu hB
      have hb := HOK.out.each x (List.mem_of_getElem? hx)
      have TA := Lib.hid (fun (W : World) (h : Below w.heap.size w W) => atL_any u V x.1 x.2 n W (hlu.carry h) HOK.out.v ⟨hb.1, hb.2.1⟩ ⟨hb.2.2.1, hb.2.2.2.1⟩ hb.2.2.2.2 HN.out)
      obtain ⟨qb, qo, qc, rfl, _⟩ := id hlu
      have d1 : (k : Int) < (ls.length : Int) := by omega
      have hS : tot (ls.take (k + 1)) n = tot (ls.take k) n + (x.1 - x.2 * n) := by
        rw [List.take_add_one, hx, show (some x).toList = [x] from rfl, tot_snoc]
      have hbd1 := HBD.out k (by omega)
      have hbd2 := HBD.out (k + 1) (by omega)
      have hn13 := HN13.out
      have TP := Lib.hid (fun W => plus1_any (tot (ls.take k) n) (x.1 - x.2 * n) W (by omega) (by omega))
      rw [← hS] at TP
      clear hlu hx hb hS hbd1 hbd2
      have hk3 : ls.length ≤ 3 := hn13.2
      clear hn13
      generalize hS1 : tot (ls.take (k + 1)) n = S1 at TP
      generalize tot (ls.take k) n = S at iC TP
      generalize x.1 - x.2 * n = D at TA TP
      have HS1 := Lib.hid hS1
      clear hS1
      go_upto_region 5 with fail
      refine wp_region_held_drew (S := (fun _ => True)) (by kernel_rfl) trivial (fun hHeld0 => ?_)
      obtain ⟨wzd, hwz⟩ : ∃ v, v = wr.drew := ⟨_, rfl⟩
      rw [← hwz]
      have hbzd : Below w.heap.size w wzd := by rw [hwz]; exact hB.drew
      have hlzd : Below wr.heap.size wr wzd := by rw [hwz]; exact (Below.refl _ _).drew
      have iR := iR.carry hlzd
      have iC := iC.carry hlzd
      clear hwz hlzd
      refine wpAnyH_take (i := 1) (oi := { dst := some 16, op := Op.move (Operand.tmp 7), type := 58, pos := "flow.go:193", after := #[], guard := none }) (v := ?_) rfl (by kernel_rfl) (by kernel_rfl) (by kernel_rfl) (fun _ _ _ h => h) (Or.inl ⟨by rfl, ?_⟩) (by assumption) ?_
      rotate_left
      · (intro w hSw; (try dsimp only at hSw); go_simp); (try with_reducible rfl)
      try simp only [Act.put, List.setIfInBounds_toArray, List.set_cons_zero, List.set_cons_succ]
      refine wpAnyH_take (i := 2) (oi := { dst := some 17, op := Op.move (Operand.tmp 1), type := 3, pos := "flow.go:193", after := #[], guard := none }) (v := ?_) rfl (by kernel_rfl) (by kernel_rfl) (by kernel_rfl) (fun _ _ _ h => h) (Or.inl ⟨by rfl, ?_⟩) (by assumption) ?_
      rotate_left
      · (intro w hSw; (try dsimp only at hSw); go_simp); (try with_reducible rfl)
      try simp only [Act.put, List.setIfInBounds_toArray, List.set_cons_zero, List.set_cons_succ]
      refine wpAnyH_ready (rs := [0, 3]) (by kernel_rfl) (by simp) ?_
      refine (AllReadyH.cons (o := { dst := some 15, op := Op.load 61 (Operand.tmp 5), type := 61, pos := "flow.go:193", after := #[], guard := none }) rfl (fun K hK => ?_) (AllReadyH.cons (o := { dst := some 18, op := Op.call { callee := Callee.value (Operand.func 84), args := #[Operand.tmp 16, Operand.tmp 17], argTypes := #[58, 3] }, type := 61, pos := "flow.go:193", after := #[{ on := 1, ground := Ground.data }, { on := 2, ground := Ground.data }], guard := none }) rfl (fun K hK => ?_) AllReadyH.nil))
      · have c0 := iC.cell (j := 0) (v := .int .i64 S) rfl
        have c1 := iC.cell (j := 1) (v := .int .i64 1) rfl
        go_simp
        clear c0 c1
        refine hK.out _ _ trivial (fun hHeld1 => ?_)
        clear hK K hHeld0
        try simp only [Act.put, List.setIfInBounds_toArray, List.set_cons_zero, List.set_cons_succ]
        refine wpAnyH_ready (rs := [3]) (by kernel_rfl) (by simp) ?_
        refine (AllReadyH.cons (o := { dst := some 18, op := Op.call { callee := Callee.value (Operand.func 84), args := #[Operand.tmp 16, Operand.tmp 17], argTypes := #[58, 3] }, type := 61, pos := "flow.go:193", after := #[{ on := 1, ground := Ground.data }, { on := 2, ground := Ground.data }], guard := none }) rfl (fun K hK => ?_) AllReadyH.nil)
        go_simp
        refine (TA.out wzd hbzd).mono ?_
        rintro e wz3 ⟨rfl, hl⟩
        (try go_wp2_with fail)
        have hbz3 := bthen hbzd hl
        have iR := iR.carry hl
        have iC := iC.carry hl
        clear hl
        refine hK.out _ _ trivial (fun hHeld2 => ?_)
        clear hK K hHeld1
        try simp only [Act.put, List.setIfInBounds_toArray, List.set_cons_zero, List.set_cons_succ]
        refine wpAnyH_ready (rs := [4]) (by kernel_rfl) (by simp) ?_
        refine (AllReadyH.cons (o := { dst := some 19, op := Op.call { callee := Callee.value (Operand.func 47), args := #[Operand.tmp 15, Operand.tmp 18], argTypes := #[61, 61] }, type := 61, pos := "flow.go:193", after := #[{ on := 0, ground := Ground.data }, { on := 3, ground := Ground.data }, { on := 3, ground := Ground.chain }], guard := none }) rfl (fun K hK => ?_) AllReadyH.nil)
        go_simp
        refine (TP.out wz3).mono ?_
        rintro e wz4 ⟨rfl, hl⟩
        (try go_wp2_with fail)
        have hbz4 := bthen hbz3 hl
        have iR := iR.carry hl
        have iC := iC.carry hl
        clear hl
        refine hK.out _ _ trivial (fun hHeld3 => ?_)
        clear hK K hHeld2
        try simp only [Act.put, List.setIfInBounds_toArray, List.set_cons_zero, List.set_cons_succ]
        refine wpAnyH_ready (rs := [5]) (by kernel_rfl) (by simp) ?_
        refine (AllReadyH.cons (o := { dst := none, op := Op.store 61 (Operand.tmp 5) (Operand.tmp 19), type := 0, pos := "flow.go:193", after := #[{ on := 4, ground := Ground.data }, { on := 4, ground := Ground.chain }, { on := 0, ground := Ground.phase }, { on := 1, ground := Ground.phase }, { on := 2, ground := Ground.phase }, { on := 3, ground := Ground.phase }, { on := 4, ground := Ground.phase }], guard := none }) rfl (fun K hK => ?_) AllReadyH.nil)
        have c0 := iC.cell (j := 0) (v := .int .i64 S) rfl
        have c1 := iC.cell (j := 1) (v := .int .i64 1) rfl
        have f0 := iC.frozen 0
        have f1 := iC.frozen 1
        go_simp
        obtain ⟨wz5, hwz⟩ : ∃ v, v = (wz4.setCell ⟨w.heap.size + 1, 0, none⟩ (.int .i64 S1)).setCell ⟨w.heap.size + 1, 1, none⟩ (.int .i64 1) := ⟨_, rfl⟩
        rw [← hwz]
        have hbz5 : Below w.heap.size w wz5 := by rw [hwz]; exact (hbz4.setCell (by simp only; omega) _).setCell (by simp only; omega) _
        have iC := iC.set2 (.int .i64 S1) (.int .i64 1)
        have iR := iR.other2 (B' := w.heap.size + 1) (by omega) (.int .i64 S1) (.int .i64 1)
        rw [← hwz] at iC iR
        clear hwz
        refine hK.out _ _ trivial (fun hHeld4 => ?_)
        clear hK K hHeld3
        try simp only [Act.put, List.setIfInBounds_toArray, List.set_cons_zero, List.set_cons_succ]
        refine wpAnyH_done (by kernel_rfl) ?_ _
        clear hHeld4
        go_wp2_with fail
        go_roundw
        case rel => exact ⟨k + 1, by omega, by go_num, by rw [HS1.out]; exact iC, iR, hbz5⟩
        case measure => simp [intOf]; omega
      · go_simp
        refine (TA.out wzd hbzd).mono ?_
        rintro e wz3 ⟨rfl, hl⟩
        (try go_wp2_with fail)
        have hbz3 := bthen hbzd hl
        have iR := iR.carry hl
        have iC := iC.carry hl
        clear hl
        refine hK.out _ _ trivial (fun hHeld1 => ?_)
        clear hK K hHeld0
        try simp only [Act.put, List.setIfInBounds_toArray, List.set_cons_zero, List.set_cons_succ]
        refine wpAnyH_ready (rs := [0]) (by kernel_rfl) (by simp) ?_
        refine (AllReadyH.cons (o := { dst := some 15, op := Op.load 61 (Operand.tmp 5), type := 61, pos := "flow.go:193", after := #[], guard := none }) rfl (fun K hK => ?_) AllReadyH.nil)
        have c0 := iC.cell (j := 0) (v := .int .i64 S) rfl
        have c1 := iC.cell (j := 1) (v := .int .i64 1) rfl
        go_simp
        clear c0 c1
        refine hK.out _ _ trivial (fun hHeld2 => ?_)
        clear hK K hHeld1
        try simp only [Act.put, List.setIfInBounds_toArray, List.set_cons_zero, List.set_cons_succ]
        refine wpAnyH_ready (rs := [4]) (by kernel_rfl) (by simp) ?_
        refine (AllReadyH.cons (o := { dst := some 19, op := Op.call { callee := Callee.value (Operand.func 47), args := #[Operand.tmp 15, Operand.tmp 18], argTypes := #[61, 61] }, type := 61, pos := "flow.go:193", after := #[{ on := 0, ground := Ground.data }, { on := 3, ground := Ground.data }, { on := 3, ground := Ground.chain }], guard := none }) rfl (fun K hK => ?_) AllReadyH.nil)
        go_simp
        refine (TP.out wz3).mono ?_
        rintro e wz4 ⟨rfl, hl⟩
        (try go_wp2_with fail)
        have hbz4 := bthen hbz3 hl
        have iR := iR.carry hl
        have iC := iC.carry hl
        clear hl
        refine hK.out _ _ trivial (fun hHeld3 => ?_)
        clear hK K hHeld2
        try simp only [Act.put, List.setIfInBounds_toArray, List.set_cons_zero, List.set_cons_succ]
        refine wpAnyH_ready (rs := [5]) (by kernel_rfl) (by simp) ?_
        refine (AllReadyH.cons (o := { dst := none, op := Op.store 61 (Operand.tmp 5) (Operand.tmp 19), type := 0, pos := "flow.go:193", after := #[{ on := 4, ground := Ground.data }, { on := 4, ground := Ground.chain }, { on := 0, ground := Ground.phase }, { on := 1, ground := Ground.phase }, { on := 2, ground := Ground.phase }, { on := 3, ground := Ground.phase }, { on := 4, ground := Ground.phase }], guard := none }) rfl (fun K hK => ?_) AllReadyH.nil)
        have c0 := iC.cell (j := 0) (v := .int .i64 S) rfl
        have c1 := iC.cell (j := 1) (v := .int .i64 1) rfl
        have f0 := iC.frozen 0
        have f1 := iC.frozen 1
        go_simp
        obtain ⟨wz5, hwz⟩ : ∃ v, v = (wz4.setCell ⟨w.heap.size + 1, 0, none⟩ (.int .i64 S1)).setCell ⟨w.heap.size + 1, 1, none⟩ (.int .i64 1) := ⟨_, rfl⟩
        rw [← hwz]
        have hbz5 : Below w.heap.size w wz5 := by rw [hwz]; exact (hbz4.setCell (by simp only; omega) _).setCell (by simp only; omega) _
        have iC := iC.set2 (.int .i64 S1) (.int .i64 1)
        have iR := iR.other2 (B' := w.heap.size + 1) (by omega) (.int .i64 S1) (.int .i64 1)
        rw [← hwz] at iC iR
        clear hwz
        refine hK.out _ _ trivial (fun hHeld4 => ?_)
        clear hK K hHeld3
        try simp only [Act.put, List.setIfInBounds_toArray, List.set_cons_zero, List.set_cons_succ]
        refine wpAnyH_done (by kernel_rfl) ?_ _
        clear hHeld4
        go_wp2_with fail
        go_roundw
        case rel => exact ⟨k + 1, by omega, by go_num, by rw [HS1.out]; exact iC, iR, hbz5⟩
        case measure => simp [intOf]; omega
    · obtain rfl : k = ls.length := by omega
      have d1 : ¬ (ls.length : Int) < (ls.length : Int) := by omega
      rw [List.take_length] at iC
      have c0 := iC.cell (j := 0) (v := .int .i64 (tot ls n)) rfl
      have c1 := iC.cell (j := 1) (v := .int .i64 1) rfl
      have r0 := iR.cell (j := 0) (v := .int .i64 0) rfl
      have r1 := iR.cell (j := 1) (v := .int .i64 0) rfl
      have f0 := iR.frozen 0
      have f1 := iR.frozen 1
      go_wp2_with fail
      have iR2 := iR.set2 (.int .i64 (tot ls n)) (.int .i64 1)
      have y0 := iR2.cell (j := 0) (v := .int .i64 (tot ls n)) rfl
      have y1 := iR2.cell (j := 1) (v := .int .i64 1) rfl
      exact bodyPost_ret (v := .agg #[.int .i64 (tot ls n), .int .i64 1]) (by simp [results, Try.f65, go_sem, y0, y1]) rfl ⟨rfl, (hB.setCell (Nat.le_refl _) _).setCell (Nat.le_refl _) _⟩

set_option maxRecDepth 100000 in
set_option maxHeartbeats 4000000 in
theorem crossing_any (v : Value) (V X load : Int) (ls : List (Int × Int)) (w : World) (h : LinesIs w v V ls) (hok : LinesOk V ls) (hX : 0 ≤ X ∧ X ≤ V) (hld : load = tot ls X) :
    Calls Try.prog 46 #[v, .int .i64 load] w fun r w' => r = .returned (.tuple #[.int .i64 X, .agg #[.int .i64 0, .int .i64 1], .bool true]) ∧ Below w.heap.size w w' := by
  have HH := Lib.hid h
  have HOK := Lib.hid hok
  have HX := Lib.hid hX
  have HLD := Lib.hid hld
  have HV := Lib.hid hok.v
  obtain ⟨hn1, hn3⟩ := hok.n
  have HBD := Lib.hid (fun n (hn : 0 ≤ n ∧ n ≤ V) => by have := tot_bd hok hn ls.length (Nat.le_refl _); rw [List.take_length] at this; exact (show -3000 ≤ tot ls n ∧ tot ls n ≤ 3000 by omega))
  have TS := Lib.hid (fun (W : World) (n : Int) (hb : Below w.heap.size w W) (hn : 0 ≤ n ∧ n ≤ V) => sumF_any v V n ls W (h.carry hb) hok hn)
  have TC := Lib.hid (fun (W : World) (hb : Below w.heap.size w W) => commonF_any v V ls W (h.carry hb) hok.v.1 hok.n)
  have hbl : -3000 ≤ load ∧ load ≤ 3000 := by rw [hld]; exact HBD.out X hX
  obtain ⟨b, off, cap, rfl, hcap, _⟩ := id h
  clear h hok hX hld hn1 hn3
  go_enter Try.func46, Try.ntmps46
  go_upto_region 1 with fail
  obtain ⟨W1, hW1⟩ : ∃ v, v = World.alloc w (Obj.cells #[.int .i64 0, .int .i64 0] 61) := ⟨_, rfl⟩
  have kW1 : Below w.heap.size w W1 := by rw [hW1]; exact below_new _ _
  have iW1 : Blk W1 (w.heap.size) 61 [.int .i64 0, .int .i64 0] := by rw [hW1]; exact Blk.new _ _ _
  have sW1 : W1.heap.size = w.heap.size + 1 := by rw [hW1]; simp
  rw [← hW1]
  clear hW1
  clear sW1
  go_step3
  go_wp2_with fail
  refine (TC.out W1 kW1).mono ?_
  rintro e w1 ⟨rfl, hl⟩
  have iR := iW1.carry hl
  have hB := bthen kW1 hl
  clear iW1 kW1 hl
  go_wp2_with fail
  go_step3
  obtain ⟨W2, hW2⟩ : ∃ v, v = World.alloc w1 (Obj.cells #[.int .i64 0, .int .i64 V] 45) := ⟨_, rfl⟩
  have kW2 : Below w1.heap.size w1 W2 := by rw [hW2]; exact below_new _ _
  have iW2 : Blk W2 (w1.heap.size) 45 [.int .i64 0, .int .i64 V] := by rw [hW2]; exact Blk.new _ _ _
  have sW2 : W2.heap.size = w1.heap.size + 1 := by rw [hW2]; simp
  rw [← hW2]
  clear hW2
  obtain ⟨W3, hW3⟩ : ∃ v, v = World.alloc W2 (Obj.cells #[.int .i64 0, .int .i64 0] 61) := ⟨_, rfl⟩
  have kW3 : Below W2.heap.size W2 W3 := by rw [hW3]; exact below_new _ _
  have iW3 : Blk W3 (w1.heap.size + 1) 61 [.int .i64 0, .int .i64 0] := by rw [hW3, ← sW2]; exact Blk.new _ _ _
  have sW3 : W3.heap.size = w1.heap.size + 1 + 1 := by rw [hW3]; simp [sW2]
  rw [← hW3]
  clear hW3
  clear sW2 sW3
  have hRs := iR.lt
  replace iR := (iR.carry kW2).carry kW3
  have hBs := hB.size
  replace hB := bthen hB (bthen kW2 kW3)
  have iC := iW2.carry kW3
  have iO := iW3
  clear iW2 iW3 kW2 kW3
  obtain ⟨G, hG⟩ : ∃ G, G = w1.heap.size := ⟨_, rfl⟩
  rw [← hG] at iC iO hRs hBs ⊢
  clear hG
  have c0 := iC.cell (j := 0) (v := .int .i64 0) rfl
  go_wp2_with fail
  clear c0
  obtain ⟨ws, rfl⟩ : ∃ v, v = W3 := ⟨_, rfl⟩
  go_loopw [11] (fun v11 wr => ∃ n : Int, 0 ≤ n ∧ n ≤ X ∧ v11 = .int .i64 n ∧ Below ws.heap.size ws wr) (fun v11 _ => (X + 1 - intOf v11).toNat)
  case atStart => exact ⟨0, by omega, HX.out.1, rfl, Below.refl _ _⟩
  case round =>
    obtain ⟨n, hn0, hnX, rfl, hbr⟩ := hrel
    have hB1 := bthen hB hbr
    have iC1 := iC.carry hbr
    have c1 := iC1.cell (j := 1) (v := .int .i64 V) rfl
    have hnV : n ≤ V := by have := HX.out; omega
    have hV1 := HV.out
    have hbn := HBD.out n ⟨hn0, hnV⟩
    have T1 := Lib.hid (TS.out wr n hB1 ⟨hn0, hnV⟩)
    obtain ⟨S, hS⟩ : ∃ S, S = tot ls n := ⟨_, rfl⟩
    rw [← hS] at T1 hbn
    by_cases hnx : n = X
    · subst hnx
      have hSl : S = load := by rw [hS, HLD.out]
      subst hSl
      clear hS
      go_wp2_with fail
      refine T1.out.mono ?_
      rintro e w2 ⟨rfl, hl⟩
      clear c1
      go_upto_region 7 with fail
      obtain ⟨W4, hW4⟩ : ∃ v, v = World.alloc w2 (Obj.cells #[.int .i64 S, .int .i64 1] 61) := ⟨_, rfl⟩
      have kW4 : Below w2.heap.size w2 W4 := by rw [hW4]; exact below_new _ _
      have iW4 : Blk W4 (w2.heap.size) 61 [.int .i64 S, .int .i64 1] := by rw [hW4]; exact Blk.new _ _ _
      have sW4 : W4.heap.size = w2.heap.size + 1 := by rw [hW4]; simp
      rw [← hW4]
      clear hW4
      clear sW4
      have s0 := iW4.cell (j := 0) (v := .int .i64 S) rfl
      have s1 := iW4.cell (j := 1) (v := .int .i64 1) rfl
      have iO1 := ((iO.carry hbr).carry hl).carry kW4
      have iR1 := ((iR.carry hbr).carry hl).carry kW4
      replace hB1 := bthen hB1 (bthen hl kW4)
      have o0 := iO1.cell (j := 0) (v := .int .i64 0) rfl
      have o1 := iO1.cell (j := 1) (v := .int .i64 0) rfl
      have f0 := iO1.frozen 0
      have f1 := iO1.frozen 1
      clear hl kW4 iW4
      have hRG : w.heap.size ≠ G + 1 := by omega
      go_upto_region 17 with fail
      have iO2 := iO1.set2 (.int .i64 0) (.int .i64 1)
      have iR2 := iR1.other2 hRG (.int .i64 0) (.int .i64 1)
      have hB2 := (hB1.setCell (p := ⟨G + 1, 0, none⟩) (by simp only; omega) (.int .i64 0)).setCell (p := ⟨G + 1, 1, none⟩) (by simp only; omega) (.int .i64 1)
      generalize (W4.setCell ⟨G + 1, 0, none⟩ (.int .i64 0)).setCell ⟨G + 1, 1, none⟩ (.int .i64 1) = W5 at iO2 iR2 hB2 ⊢
      clear iO1 iR1 hB1 o0 o1 f0 f1 s0 s1
      refine wp_region_held_drew (S := (fun w' => w'.cell? ⟨G + 1, 0, none⟩ = some (.int .i64 0) ∧ w'.cell? ⟨G + 1, 1, none⟩ = some (.int .i64 1))) (by kernel_rfl) ⟨iO2.cell (j := 0) rfl, iO2.cell (j := 1) rfl⟩ (fun hHeld0 => ?_)
      obtain ⟨wzd, hwz⟩ : ∃ v, v = W5.drew := ⟨_, rfl⟩
      rw [← hwz] at hHeld0 ⊢
      have hbzd : Below w.heap.size w wzd := by rw [hwz]; exact hB2.drew
      have hlzd : Below W5.heap.size W5 wzd := by rw [hwz]; exact (Below.refl _ _).drew
      have iR2 := iR2.carry hlzd
      have iO2 := iO2.carry hlzd
      clear hwz hlzd
      refine wpAnyH_take (i := 0) (oi := { dst := some 78, op := Op.move (Operand.tmp 8), type := 3, pos := "flow.go:224", after := #[], guard := none }) (v := ?_) rfl (by kernel_rfl) (by kernel_rfl) (by kernel_rfl) (fun _ _ _ h => h) (Or.inl ⟨by rfl, ?_⟩) (by assumption) ?_
      rotate_left
      · (intro w hSw; (try dsimp only at hSw); go_simp); (try with_reducible rfl)
      try simp only [Act.put, List.setIfInBounds_toArray, List.set_cons_zero, List.set_cons_succ]
      refine wpAnyH_take (i := 1) (oi := { dst := some 79, op := Op.load 61 (Operand.tmp 9), type := 61, pos := "flow.go:224", after := #[{ on := 3, ground := Ground.gcOnly Departure.lateStores }], guard := none }) (v := ?_) rfl (by kernel_rfl) (by kernel_rfl) (by kernel_rfl) (fun _ _ _ h => h) (Or.inl ⟨by rfl, ?_⟩) (by assumption) ?_
      rotate_left
      · (intro w hSw; (try dsimp only at hSw); go_simp); (try with_reducible rfl)
      try simp only [Act.put, List.setIfInBounds_toArray, List.set_cons_zero, List.set_cons_succ]
      refine wpAnyH_take (i := 2) (oi := { dst := some 80, op := Op.move (Operand.tmp 10), type := 4, pos := "flow.go:224", after := #[{ on := 4, ground := Ground.gcOnly Departure.lateStores }], guard := none }) (v := ?_) rfl (by kernel_rfl) (by kernel_rfl) (by kernel_rfl) (fun _ _ _ h => h) (Or.inl ⟨by rfl, ?_⟩) (by assumption) ?_
      rotate_left
      · (intro w hSw; (try dsimp only at hSw); go_simp); (try with_reducible rfl)
      try simp only [Act.put, List.setIfInBounds_toArray, List.set_cons_zero, List.set_cons_succ]
      refine wpAnyH_take (i := 3) (oi := { dst := some 4, op := Op.assign (Operand.tmp 78), type := 3, pos := "flow.go:224", after := #[{ on := 0, ground := Ground.data }, { on := 0, ground := Ground.phase }, { on := 1, ground := Ground.textOnly Departure.lateStores }, { on := 2, ground := Ground.textOnly Departure.lateStores }], guard := none }) (v := ?_) rfl (by kernel_rfl) (by kernel_rfl) (by kernel_rfl) (fun _ _ _ h => h) (Or.inl ⟨by rfl, ?_⟩) (by assumption) ?_
      rotate_left
      · (intro w hSw; (try dsimp only at hSw); go_simp); (try with_reducible rfl)
      try simp only [Act.put, List.setIfInBounds_toArray, List.set_cons_zero, List.set_cons_succ]
      refine wpAnyH_ready (rs := [4]) (by kernel_rfl) (by simp) ?_
      refine (AllReadyH.cons (o := { dst := none, op := Op.store 61 (Operand.tmp 5) (Operand.tmp 79), type := 0, pos := "flow.go:224", after := #[{ on := 1, ground := Ground.data }, { on := 3, ground := Ground.chain }, { on := 0, ground := Ground.phase }, { on := 1, ground := Ground.phase }, { on := 2, ground := Ground.textOnly Departure.lateStores }, { on := 3, ground := Ground.phase }], guard := none }) rfl (fun K hK => ?_) AllReadyH.nil)
      have c0 := iR2.cell (j := 0) (v := .int .i64 0) rfl
      have c1 := iR2.cell (j := 1) (v := .int .i64 0) rfl
      have f0 := iR2.frozen 0
      have f1 := iR2.frozen 1
      go_simp
      obtain ⟨wz4, hwz⟩ : ∃ v, v = (wzd.setCell ⟨w.heap.size, 0, none⟩ (.int .i64 0)).setCell ⟨w.heap.size, 1, none⟩ (.int .i64 1) := ⟨_, rfl⟩
      rw [← hwz]
      have hbz4 : Below w.heap.size w wz4 := by rw [hwz]; exact (hbzd.setCell (Nat.le_refl _) _).setCell (Nat.le_refl _) _
      have iR2 := iR2.set2 (.int .i64 0) (.int .i64 1)
      have iO2 := iO2.other2 hRG.symm (.int .i64 0) (.int .i64 1)
      rw [← hwz] at iR2 iO2
      clear hwz
      refine hK.out _ _ ⟨iO2.cell (j := 0) rfl, iO2.cell (j := 1) rfl⟩ (fun hHeld1 => ?_)
      clear hK K hHeld0
      try simp only [Act.put, List.setIfInBounds_toArray, List.set_cons_zero, List.set_cons_succ]
      refine wpAnyH_take (i := 5) (oi := { dst := some 6, op := Op.assign (Operand.tmp 80), type := 4, pos := "flow.go:224", after := #[{ on := 2, ground := Ground.data }, { on := 4, ground := Ground.chain }, { on := 0, ground := Ground.phase }, { on := 1, ground := Ground.phase }, { on := 2, ground := Ground.phase }, { on := 3, ground := Ground.phase }, { on := 4, ground := Ground.phase }], guard := none }) (v := ?_) rfl (by kernel_rfl) (by kernel_rfl) (by kernel_rfl) (fun _ _ _ h => h) (Or.inl ⟨by rfl, ?_⟩) (by assumption) ?_
      rotate_left
      · (intro w hSw; (try dsimp only at hSw); go_simp); (try with_reducible rfl)
      try simp only [Act.put, List.setIfInBounds_toArray, List.set_cons_zero, List.set_cons_succ]
      refine wpAnyH_done (by kernel_rfl) ?_ _
      clear hHeld1
      have y0 := iR2.cell (j := 0) (v := .int .i64 0) rfl
      have y1 := iR2.cell (j := 1) (v := .int .i64 1) rfl
      have hbq := hbz4
      go_wp2_with fail
      (try rw [Exit.noGoto_ret])
      exact bodyPost_ret (v := .tuple #[.int .i64 n, .agg #[.int .i64 0, .int .i64 1], .bool true]) (by simp [results, Try.f46, go_sem, y0, y1]) rfl ⟨rfl, hbq⟩
    · have hlt : n < X := by omega
      have hgt := tot_lt HOK.out hlt
      rw [← hS, ← HLD.out] at hgt
      have hge : load ≤ tot ls (n + 1) := by
        rw [HLD.out]
        by_cases h1 : n + 1 = X
        · rw [h1]; exact Int.le_refl _
        · exact Int.le_of_lt (tot_lt HOK.out (by omega))
      have hn1V : n + 1 ≤ V := by have := HX.out; omega
      have hbn1 := HBD.out (n + 1) ⟨by omega, hn1V⟩
      have T2 := Lib.hid (fun W hb => TS.out W (n + 1) hb ⟨by omega, hn1V⟩)
      obtain ⟨S2, hS2⟩ : ∃ S2, S2 = tot ls (n + 1) := ⟨_, rfl⟩
      rw [← hS2] at T2 hge hbn1
      clear hS hS2 hnx
      have dA : (S - load == 0) = false := by rw [beq_eq_false_iff_ne]; omega
      have dA2 : ¬ S - load = 0 := by omega
      have dB : ¬ S - load < 0 := by omega
      have dB2 : decide (S - load < 0) = false := decide_eq_false dB
      have dC : (n == V) = false := by rw [beq_eq_false_iff_ne]; omega
      have dC2 : ¬ n = V := by omega
      have dD : ¬ S2 < load := by omega
      have dD2 : decide (S2 < load) = false := decide_eq_false dD
      have k4 : (IntKind.i64.wrap (S - load)) = S - load := IntWalk.i64_in _ (by omega)
      go_wp2_with fail
      refine T1.out.mono ?_
      rintro e w2 ⟨rfl, hl⟩
      go_upto_region 7 with fail
      obtain ⟨W4, hW4⟩ : ∃ v, v = World.alloc w2 (Obj.cells #[.int .i64 S, .int .i64 1] 61) := ⟨_, rfl⟩
      have kW4 : Below w2.heap.size w2 W4 := by rw [hW4]; exact below_new _ _
      have iW4 : Blk W4 (w2.heap.size) 61 [.int .i64 S, .int .i64 1] := by rw [hW4]; exact Blk.new _ _ _
      have sW4 : W4.heap.size = w2.heap.size + 1 := by rw [hW4]; simp
      rw [← hW4]
      clear hW4
      clear sW4
      have s0 := iW4.cell (j := 0) (v := .int .i64 S) rfl
      have s1 := iW4.cell (j := 1) (v := .int .i64 1) rfl
      replace hB1 := bthen hB1 (bthen hl kW4)
      replace hbr := bthen hbr (bthen hl kW4)
      replace c1 := cellb (cellb c1 hl) kW4
      clear hl kW4 iW4
      go_wp2_with fail
      refine (T2.out W4 hB1).mono ?_
      rintro e w5 ⟨rfl, hl⟩
      clear s0 s1 c1
      go_upto_region 13 with fail
      obtain ⟨W6, hW6⟩ : ∃ v, v = World.alloc w5 (Obj.cells #[.int .i64 S2, .int .i64 1] 61) := ⟨_, rfl⟩
      have kW6 : Below w5.heap.size w5 W6 := by rw [hW6]; exact below_new _ _
      have iW6 : Blk W6 (w5.heap.size) 61 [.int .i64 S2, .int .i64 1] := by rw [hW6]; exact Blk.new _ _ _
      have sW6 : W6.heap.size = w5.heap.size + 1 := by rw [hW6]; simp
      rw [← hW6]
      clear hW6
      clear sW6
      have s0 := iW6.cell (j := 0) (v := .int .i64 S2) rfl
      have s1 := iW6.cell (j := 1) (v := .int .i64 1) rfl
      replace hbr := bthen hbr (bthen hl kW6)
      go_wp2_with fail
      go_roundw
      case rel => exact ⟨n + 1, by omega, by omega, by go_num, hbr⟩
      case measure => simp [intOf]; omega

set_option maxRecDepth 100000 in
set_option maxHeartbeats 2000000 in
theorem Crossing_any (v : Value) (V X load : Int) (ls : List (Int × Int)) (w : World) (h : LinesIs w v V ls) (hok : LinesOk V ls) (hX : 0 ≤ X ∧ X ≤ V) (hld : load = tot ls X) :
    Calls Try.prog 17 #[v, .int .i64 load] w fun r w' => r = .returned (.tuple #[.agg #[.int .i64 X, .int .i64 1], .int .i64 0]) ∧ Below w.heap.size w w' := by
  have TL := Lib.hid (fun (W : World) (hb : Below w.heap.size w W) => CheckLines_any v V ls W (h.carry hb) hok)
  have TX := Lib.hid (fun (W : World) (hb : Below w.heap.size w W) => crossing_any v V X load ls W (h.carry hb) hok hX hld)
  have hbl : -3000 ≤ load ∧ load ≤ 3000 := by
    have := tot_bd hok hX ls.length (Nat.le_refl _)
    rw [List.take_length, ← hld] at this
    have := hok.n
    omega
  have WE := Lib.hid (show withinE load (-3000) 3000 = 0 by rw [withinE, if_neg (by omega)])
  have TP := Lib.hid (fun W => plus1_any X 0 W (by have := hok.v; omega) (by omega))
  rw [Int.add_zero] at TP
  obtain ⟨b, off, cap, rfl, hcap, _⟩ := id h
  clear h hok hX hld hbl
  go_enter Try.func17, Try.ntmps17
  go_upto_region 1 with fail
  obtain ⟨W1, hW1⟩ : ∃ v, v = World.alloc w (Obj.cells #[.int .i64 0, .int .i64 0] 61) := ⟨_, rfl⟩
  have kW1 : Below w.heap.size w W1 := by rw [hW1]; exact below_new _ _
  have iW1 : Blk W1 (w.heap.size) 61 [.int .i64 0, .int .i64 0] := by rw [hW1]; exact Blk.new _ _ _
  have sW1 : W1.heap.size = w.heap.size + 1 := by rw [hW1]; simp
  rw [← hW1]
  clear hW1
  clear sW1
  go_wp2_with fail
  refine (TL.out W1 kW1).mono ?_
  rintro e w1 ⟨rfl, hl⟩
  have iR := iW1.carry hl
  have hB := bthen kW1 hl
  clear iW1 kW1 hl
  go_wp2_with fail
  refine (checkLoad_any load w1).mono ?_
  rintro e w' ⟨rfl, rfl⟩
  rw [WE.out]
  go_wp2_with fail
  refine (first2F _ _ _ _).mono ?_
  rintro e w' ⟨rfl, rfl⟩
  rw [show firstE [0, 0] = 0 from rfl]
  obtain ⟨w2, hw2⟩ : ∃ v, v = w1.alloc (Obj.cells #[Value.int IntKind.i64 0, Value.int IntKind.i64 0] 36) := ⟨_, rfl⟩
  rw [← hw2]
  have hl : Below w1.heap.size w1 w2 := by rw [hw2]; exact below_new _ _
  clear hw2
  replace iR := iR.carry hl
  replace hB := bthen hB hl
  clear hl
  go_wp2_with fail
  refine (TX.out w2 hB).mono ?_
  rintro e w3 ⟨rfl, hl⟩
  replace iR := iR.carry hl
  replace hB := bthen hB hl
  clear hl
  go_upto_region 5 with fail
  obtain ⟨W4, hW4⟩ : ∃ v, v = World.alloc w3 (Obj.cells #[.int .i64 0, .int .i64 1] 61) := ⟨_, rfl⟩
  have kW4 : Below w3.heap.size w3 W4 := by rw [hW4]; exact below_new _ _
  have iW4 : Blk W4 (w3.heap.size) 61 [.int .i64 0, .int .i64 1] := by rw [hW4]; exact Blk.new _ _ _
  have sW4 : W4.heap.size = w3.heap.size + 1 := by rw [hW4]; simp
  rw [← hW4]
  clear hW4
  clear sW4
  have p0 := iW4.cell (j := 0) (v := .int .i64 0) rfl
  have p1 := iW4.cell (j := 1) (v := .int .i64 1) rfl
  replace iR := iR.carry kW4
  replace hB := bthen hB kW4
  clear kW4 iW4
  go_wp2_with fail
  refine (TP.out W4).mono ?_
  rintro e w5 ⟨rfl, hl⟩
  replace iR := iR.carry hl
  replace hB := bthen hB hl
  clear hl p0 p1
  have r0 := iR.cell (j := 0) (v := .int .i64 0) rfl
  have r1 := iR.cell (j := 1) (v := .int .i64 0) rfl
  have f0 := iR.frozen 0
  have f1 := iR.frozen 1
  go_wp2_with fail
  have iR2 := iR.set2 (.int .i64 X) (.int .i64 1)
  have y0 := iR2.cell (j := 0) (v := .int .i64 X) rfl
  have y1 := iR2.cell (j := 1) (v := .int .i64 1) rfl
  exact bodyPost_ret (v := .tuple #[.agg #[.int .i64 X, .int .i64 1], .int .i64 0]) (by simp [results, Try.f17, go_sem, y0, y1]) rfl ⟨rfl, (hB.setCell (Nat.le_refl _) _).setCell (Nat.le_refl _) _⟩

end Go.Proofs.Ytipmjjnhdjcoiaa

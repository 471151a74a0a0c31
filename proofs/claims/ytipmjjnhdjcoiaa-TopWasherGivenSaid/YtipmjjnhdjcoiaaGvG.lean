/- Package flow: what is needed; balances. -/
import Derived.Test.YtipmjjnhdjcoiaaGvF
namespace Go.Proofs.Ytipmjjnhdjcoiaa
set_option linter.unusedSimpArgs false
set_option linter.unusedVariables false
open Go.RowKit

theorem fieldI0 (x y : Int) (w : World) : Sem.run Try.prog (Instr.field 45 (.agg #[.int .i64 x, .int .i64 y]) 0) w = .ok (.int .i64 x) w := by kernel_rfl
set_option maxRecDepth 100000 in
set_option maxHeartbeats 2000000 in
theorem Needed_any (a b c p : Int) (w : World) (hok : LsOk a b c) (hp : 0 ≤ p ∧ p ≤ 1000) :
    Calls Try.prog 14 #[.agg #[.int .i64 a, .int .i64 b, .int .i64 c], .int .i64 p] w fun r w' => (∃ n e : Int, r = .returned (.tuple #[.int .i64 n, .int .i64 e]) ∧ (e = 7 ∨ (e = 0 ∧ (p ≤ n ∧ n ≤ 1000) ∧ p ≤ dlLo a b c n))) ∧ Below w.heap.size w w' := by
  have TC := Lib.hid (fun W => checkLoss_ok a b c p W hok hp)
  have TD := Lib.hid (fun n hn W => delivered_any a b c n W hok hn)
  have HP := Lib.hid hp
  clear hok hp
  go_enter Try.func14, Try.ntmps14
  go_upto_region 1 with fail
  obtain ⟨W1, hW1⟩ : ∃ v, v = World.alloc w (Obj.cells #[.int .i64 a, .int .i64 b, .int .i64 c] 48) := ⟨_, rfl⟩
  have kW1 : Below w.heap.size w W1 := by rw [hW1]; exact below_new _ _
  have iW1 : Blk W1 (w.heap.size) 48 [.int .i64 a, .int .i64 b, .int .i64 c] := by rw [hW1]; exact Blk.new _ _ _
  have sW1 : W1.heap.size = w.heap.size + 1 := by rw [hW1]; simp
  rw [← hW1]
  clear hW1
  have a0 := iW1.cell (j := 0) (v := .int .i64 a) rfl
  have a1 := iW1.cell (j := 1) (v := .int .i64 b) rfl
  have a2 := iW1.cell (j := 2) (v := .int .i64 c) rfl
  have hB := kW1
  clear kW1 sW1
  go_wp2_with fail
  refine (TC.out _).mono ?_
  rintro e w3 ⟨rfl, hb3⟩
  have i3 := iW1.carry hb3
  have hB3 := bthen hB hb3
  clear hb3 a0 a1 a2 TC iW1 hB
  go_wp2_with fail
  go_loopw [7] (fun i wr => ∃ n : Int, i = .int .i64 n ∧ p ≤ n ∧ n ≤ 1001 ∧ Blk wr w.heap.size 48 [.int .i64 a, .int .i64 b, .int .i64 c] ∧ Below w.heap.size w wr) (fun i _ => (1001 - intOf i).toNat)
  case atStart => exact ⟨p, rfl, by omega, by have := HP.out; omega, i3, hB3⟩
  case round =>
    clear i3 hB3
    obtain ⟨n, rfl, hpn, hn, hi, hB⟩ := hrel
    by_cases hlt : n ≤ 1000
    · have a0 := hi.cell (j := 0) (v := .int .i64 a) rfl
      have a1 := hi.cell (j := 1) (v := .int .i64 b) rfl
      have a2 := hi.cell (j := 2) (v := .int .i64 c) rfl
      have TN := Lib.hid (TD.out n (by have := HP.out; omega))
      obtain ⟨D, hD⟩ : ∃ d, d = dlLo a b c n := ⟨_, rfl⟩
      rw [← hD] at TN
      have HD := Lib.hid hD
      have hfld := fieldI0 D (dlHi a b c n)
      clear hD
      go_wp2_with fail
      refine (TN.out _).mono ?_
      rintro e w4 ⟨rfl, hb4⟩
      have hi := hi.carry hb4
      have hB := bthen hB hb4
      clear a0 a1 a2 TN hb4
      by_cases hc : p ≤ D
      · have HC := Lib.hid hc
        go_wp2
        go_ret2
        exact ⟨⟨_, _, rfl, .inr ⟨by trivial, ⟨hpn, hlt⟩, by rw [← HD.out]; exact HC.out⟩⟩, hB⟩
      · have k1 : IntKind.i64.wrap (n + 1) = n + 1 := IntWalk.i64_in _ (by have := HP.out; omega)
        go_wp2
        go_roundw
        case rel => exact ⟨n + 1, rfl, by omega, by omega, hi, hB⟩
        case measure => simp [intOf]; omega
    · go_wp2
      go_ret2
      exact ⟨⟨_, _, rfl, .inl (by trivial)⟩, hB⟩
theorem Try.enterBal1 (args : Array Value) (w : World) : Sem.run Try.prog (callFunc 39 args) w = .ok (.enter 39 args) w :=
  MuLone.run_callFunc_enter Try.func39 (by kernel_rfl) rfl args w
theorem Balance1_any (x : Int) (w : World) (hx : 0 ≤ x ∧ x ≤ 1000) : Calls Try.prog 39 #[.int .i64 x] w fun r w' => r = .returned (.int .i64 0) ∧ Below w.heap.size w w' := by
  have T := Lib.hid (fun W => within0F hx W)
  clear hx
  go_enter Try.func39, Try.ntmps39
  go_wp2_with fail
  refine (T.out _).mono ?_
  rintro e w2 ⟨rfl, rfl⟩
  go_wp2
  go_ret
  exact ⟨rfl, Below.refl _ _⟩
theorem firstE_zeros {α : Type} (l : List α) : firstE (l.map fun _ => (0 : Int)) = 0 := by
  induction l with
  | nil => rfl
  | cons x l ih => simpa [firstE] using ih
/-- arrays of integers are compared. -/
theorem eqItemsI (l m : List Int) (w : World) : ∀ is : List Nat, (∀ i ∈ is, i < l.length ∧ i < m.length) →
    (Op.eqItems 9999 3 1 (ia l) (ia m) is).run Try.prog w = .ok (is.all fun i => l[i]?.getD 0 == m[i]?.getD 0) w := by
  have hu : Try.prog.underlying 3 = some (.int .i64) := by kernel_rfl
  have he : ∀ x y, (Op.equalIn 9999 3 (.int .i64 x) (.int .i64 y)).run Try.prog w = .ok (x == y) w := fun x y => run_equalIn_int w 9998 _ _ _ x y hu
  have hp : ∀ (xs : Array Value) (i : Nat) (x : Int), xs[i]? = some (.int .i64 x) → (part 3 xs i).run Try.prog w = .ok (.int .i64 x) w := fun xs i x hx => run_part_plain w (by kernel_rfl) hx
  have hg : ∀ (l : List Int) i, i < l.length → (ia l)[i]? = some (.int .i64 (l[i]?.getD 0)) := fun l i hi => by
    simp [ia, hi]
  intro is
  induction is with
  | nil => intro _; rfl
  | cons i is ih =>
    intro h
    obtain ⟨h1, h2⟩ := h i (by simp)
    simp only [Op.eqItems, Sem.run_bind, Nat.mul_one]
    rw [hp _ _ _ (hg l i h1)]
    simp only [Result.andThen_ok]
    rw [hp _ _ _ (hg m i h2)]
    simp only [Result.andThen_ok, he, List.all_cons]
    cases hb : (l[i]?.getD 0 == m[i]?.getD 0)
    · simp
    · simp only [Bool.not_true, Bool.false_eq_true, if_false, Bool.true_and]
      exact ih (fun j hj => h j (by simp [hj]))
theorem allRange_eq (l m : List Int) (n : Nat) (hl : l.length = n) (hm : m.length = n) : ((List.range n).all fun i => l[i]?.getD 0 == m[i]?.getD 0) = (l == m) := by
  rw [Bool.eq_iff_iff]
  simp only [List.all_eq_true, List.mem_range, beq_iff_eq]
  constructor
  · intro h
    apply List.ext_getElem (by omega)
    intro i h1 h2
    have := h i (by omega)
    simpa [h1, h2] using this
  · rintro rfl i _
    rfl
/-- arrays of integers are compared for difference. -/
theorem neqInts (T : TypeId) (n : Nat) (hT : Try.prog.underlying T = some (.array n 3)) (l m : List Int) (hl : l.length = n) (hm : m.length = n) (w : World) :
    Sem.run Try.prog (binOp .neq T (.agg (ia l)) (.agg (ia m))) w = .ok (.bool (!(l == m))) w := by
  obtain ⟨i0, hi, hz0, hz1, hz2⟩ := info_parts Try.infZint
  have hc : Try.prog.cellsOf 3 = 1 := by kernel_rfl
  rw [run_neq_struct, run_equalIn_array w 9999 (t := T) (e := 3) (n := n) _ _ hT hi, hc, eqItemsI l m w _ (fun i hi => by rw [hl, hm]; exact ⟨List.mem_range.1 hi, List.mem_range.1 hi⟩), allRange_eq l m n hl hm]
  rfl
theorem neq2 (x y : Int) (w : World) : Sem.run Try.prog (binOp .neq 92 (.agg #[.int .i64 x, .int .i64 y]) (.agg #[.int .i64 0, .int .i64 0])) w = .ok (.bool (!([x, y] == [0, 0]))) w := by
  have := neqInts 92 2 (by kernel_rfl) [x, y] [0, 0] rfl rfl w
  simpa [ia] using this
set_option maxRecDepth 100000 in
set_option maxHeartbeats 4000000 in
theorem Balance_any (a b c : Int) (v : Value) (l : List Int) (w : World) (hok : LsOk a b c) (hl : l.length ≤ 256) (hr : ∀ x ∈ l, 0 ≤ x ∧ x ≤ 1000) (hv : Ints w v l) :
    Calls Try.prog 12 #[.agg #[.int .i64 a, .int .i64 b, .int .i64 c], v] w fun r w' => r = .returned (.tuple #[.agg #[.int .i64 (smL (dlLo a b c) l), .int .i64 (smL (dlHi a b c) l)], .int .i64 0]) ∧ Below w.heap.size w w' := by
  have TC := Lib.hid (fun W => CheckLossesF_ok a b c W hok)
  have TD := Lib.hid (fun n hn W => delivered_any a b c n W hok hn)
  have TM := Lib.hid (fun W (h : Ints W v l) => mapIE_any 39 #[] Try.enterBal1 (fun _ => 0) v l W (by omega) (Rw.of_ints h) (fun x hx w1 _ => Balance1_any x w1 (hr x hx)))
  have HR := Lib.hid hr
  have HK := Lib.hid hok
  have HV := Lib.hid hv
  obtain ⟨xa, cp, rfl, -⟩ := id hv
  obtain ⟨N, hN⟩ : ∃ N, N = l.length := ⟨_, rfl⟩
  rw [← hN] at HV TM hl ⊢
  have HN := Lib.hid hN
  have d1 : ¬ (256 : Int) < (N : Int) := by omega
  clear hN hv hr hok
  go_enter Try.func12, Try.ntmps12
  go_upto_region 1 with fail
  obtain ⟨W1, hW1⟩ : ∃ v, v = World.alloc w (Obj.cells #[.int .i64 a, .int .i64 b, .int .i64 c] 48) := ⟨_, rfl⟩
  have kW1 : Below w.heap.size w W1 := by rw [hW1]; exact below_new _ _
  have iW1 : Blk W1 (w.heap.size) 48 [.int .i64 a, .int .i64 b, .int .i64 c] := by rw [hW1]; exact Blk.new _ _ _
  have sW1 : W1.heap.size = w.heap.size + 1 := by rw [hW1]; simp
  rw [← hW1]
  clear hW1
  obtain ⟨W2, hW2⟩ : ∃ v, v = World.alloc W1 (Obj.cells #[.int .i64 0, .int .i64 0] 45) := ⟨_, rfl⟩
  have kW2 : Below W1.heap.size W1 W2 := by rw [hW2]; exact below_new _ _
  have iW2 : Blk W2 (w.heap.size + 1) 45 [.int .i64 0, .int .i64 0] := by rw [hW2, ← sW1]; exact Blk.new _ _ _
  have sW2 : W2.heap.size = w.heap.size + 1 + 1 := by rw [hW2]; simp [sW1]
  rw [← hW2]
  clear hW2
  have hB := bthen kW1 kW2
  have i1 := iW1.carry kW2
  have a0 := i1.cell (j := 0) (v := .int .i64 a) rfl
  have a1 := i1.cell (j := 1) (v := .int .i64 b) rfl
  have a2 := i1.cell (j := 2) (v := .int .i64 c) rfl
  clear kW1 kW2 sW1 sW2 iW1
  go_wp2_with fail
  refine (TC.out _).mono ?_
  rintro e w3 ⟨rfl, hb3⟩
  have iR := iW2.carry hb3
  have i1 := i1.carry hb3
  have hB := bthen hB hb3
  clear iW2 hb3 TC a0 a1 a2
  have tw := when0F 5
  rw [show false = decide ((256 : Int) < (N : Int)) from (decide_eq_false (by omega)).symm] at tw
  have TW := Lib.hid tw
  clear tw
  go_wp2_with fail
  refine (TW.out _).mono ?_
  rintro e w4 ⟨rfl, rfl⟩
  go_wp2_with fail
  have hz2 := zero2F (.slice (some ⟨w3.heap.size, 0, none⟩) 2 2) (w3.alloc (.cells #[.int .i64 0, .int .i64 0] 36)) (Ints.lit w3 _ [0, 0] 2 rfl)
  obtain ⟨W5, hW5⟩ : ∃ W, W = w3.alloc (.cells #[.int .i64 0, .int .i64 0] 36) := ⟨_, rfl⟩
  rw [← hW5] at hz2 ⊢
  refine hz2.mono ?_
  rintro e w4 ⟨rfl, rfl⟩
  have kn := below_new w3 (.cells #[.int .i64 0, .int .i64 0] 36)
  have iR := iR.carry kn
  have i1 := i1.carry kn
  have hB := bthen hB kn
  clear kn TW
  rw [← hW5] at iR i1 hB
  clear hW5 hz2
  go_wp2_with fail
  refine (TM.out _ (HV.out.below hB)).mono ?_
  rintro e w6 ⟨⟨u, rfl, hu⟩, hb6⟩
  have iR := iR.carry hb6
  have i1 := i1.carry hb6
  have hB := bthen hB hb6
  have hz := firstF_any u (l.map fun _ => (0 : Int)) w6 (by rw [List.length_map, ← HN.out]; unfold maxLen; omega) (hu.rw nV_len).ints
  rw [firstE_zeros] at hz
  have HZ := Lib.hid hz
  clear hz hu hb6 TM
  go_wp2_with fail
  refine HZ.out.mono ?_
  rintro e w7 ⟨rfl, rfl⟩
  clear HZ
  go_upto_region 8 with fail
  obtain ⟨W8, hW8⟩ : ∃ v, v = World.alloc w6 (Obj.cells #[.int .i64 0, .int .i64 0] 92) := ⟨_, rfl⟩
  have kW8 : Below w6.heap.size w6 W8 := by rw [hW8]; exact below_new _ _
  have iW8 : Blk W8 (w6.heap.size) 92 [.int .i64 0, .int .i64 0] := by rw [hW8]; exact Blk.new _ _ _
  have sW8 : W8.heap.size = w6.heap.size + 1 := by rw [hW8]; simp
  rw [← hW8]
  clear hW8
  have hlt6 := Blk.lt iR
  have iR := iR.carry kW8
  have i1 := i1.carry kW8
  have hB := bthen hB kW8
  obtain ⟨G, hG⟩ : ∃ g, g = w6.heap.size := ⟨_, rfl⟩
  have hGw : w.heap.size + 1 < G := by rw [hG]; exact hlt6
  rw [← hG] at iW8 ⊢
  clear kW8 sW8 hG
  go_wp2_with fail
  go_loopw [34] (fun i wr => ∃ k : Nat, k ≤ N ∧ i = .int .i64 k ∧ Blk wr G 92 [.int .i64 (smL (dlLo a b c) (l.take k)), .int .i64 (smL (dlHi a b c) (l.take k))] ∧ Blk wr (w.heap.size + 1) 45 [.int .i64 0, .int .i64 0] ∧ Blk wr w.heap.size 48 [.int .i64 a, .int .i64 b, .int .i64 c] ∧ Below w.heap.size w wr) (fun i _ => N - (intOf i).toNat)
  case atStart => exact ⟨0, by omega, rfl, iW8, iR, i1, hB⟩
  case round =>
    clear iW8 iR i1 hB
    obtain ⟨k, hk, rfl, hS, iR, i1, hB⟩ := hrel
    have b1 := smL_rng (f := dlLo a b c) (l := l.take k) (m := 1000) (by omega) (fun y hy => (dl_rng HK.out (HR.out y (List.mem_of_mem_take hy))).1)
    have b2 := smL_rng (f := dlHi a b c) (l := l.take k) (m := 1000) (by omega) (fun y hy => (dl_rng HK.out (HR.out y (List.mem_of_mem_take hy))).2)
    rw [List.length_take, ← HN.out, Nat.min_eq_left hk] at b1 b2
    by_cases hlt : k < N
    · have hdk : (k : Int) < (N : Int) := by omega
      obtain ⟨x, hx⟩ : ∃ x, l[k]? = some x := ⟨_, List.getElem?_eq_getElem (by rw [← HN.out]; exact hlt)⟩
      obtain ⟨b', off, cp', he, hcs⟩ := (HV.out.below hB).head (by rw [← HN.out]; omega)
      simp only [Value.slice.injEq] at he
      obtain ⟨rfl, -, rfl⟩ := he
      have c0 := hcs k (by rw [← HN.out]; exact hlt)
      rw [hx, Option.getD_some] at c0
      have hxr := HR.out x (List.mem_of_getElem? hx)
      have e1 := smL_take (dlLo a b c) hx
      have e2 := smL_take (dlHi a b c) hx
      have b3 := dl_rng HK.out hxr
      have TN := Lib.hid (TD.out x hxr)
      obtain ⟨S1, hS1⟩ : ∃ s, s = smL (dlLo a b c) (l.take k) := ⟨_, rfl⟩
      obtain ⟨S2, hS2⟩ : ∃ s, s = smL (dlHi a b c) (l.take k) := ⟨_, rfl⟩
      obtain ⟨D1, hD1⟩ : ∃ s, s = dlLo a b c x := ⟨_, rfl⟩
      obtain ⟨D2, hD2⟩ : ∃ s, s = dlHi a b c x := ⟨_, rfl⟩
      rw [← hS1] at e1 b1 hS
      rw [← hS2] at e2 b2 hS
      rw [← hD1] at e1 b3 TN
      rw [← hD2] at e2 b3 TN
      have E1 := Lib.hid e1
      have E2 := Lib.hid e2
      have q1 : IntKind.i64.wrap (S1 + D1) = S1 + D1 := IntWalk.i64_in _ (by omega)
      have q2 : IntKind.i64.wrap (S2 + D2) = S2 + D2 := IntWalk.i64_in _ (by omega)
      have Q1 := Lib.hid q1
      have Q2 := Lib.hid q2
      have a0 := i1.cell (j := 0) (v := .int .i64 a) rfl
      have a1 := i1.cell (j := 1) (v := .int .i64 b) rfl
      have a2 := i1.cell (j := 2) (v := .int .i64 c) rfl
      clear hcs hx hxr e1 e2 hS1 hS2 hD1 hD2 b1 b2 b3 q1 q2
      go_wp2_with fail
      refine (TN.out _).mono ?_
      rintro e w4 ⟨rfl, hb4⟩
      have iR := iR.carry hb4
      have i1 := i1.carry hb4
      have hS := hS.carry hb4
      have hB := bthen hB hb4
      clear c0 a0 a1 a2 TN hb4
      go_upto_region 12 with fail
      obtain ⟨V1, hV1⟩ : ∃ v, v = World.alloc w4 (Obj.cells #[.int .i64 D1, .int .i64 D2] 45) := ⟨_, rfl⟩
      have kV1 : Below w4.heap.size w4 V1 := by rw [hV1]; exact below_new _ _
      have iV1 : Blk V1 (w4.heap.size) 45 [.int .i64 D1, .int .i64 D2] := by rw [hV1]; exact Blk.new _ _ _
      have sV1 : V1.heap.size = w4.heap.size + 1 := by rw [hV1]; simp
      rw [← hV1]
      clear hV1
      have d0 := iV1.cell (j := 0) (v := .int .i64 D1) rfl
      have d1 := iV1.cell (j := 1) (v := .int .i64 D2) rfl
      have iR := iR.carry kV1
      have i1 := i1.carry kV1
      have hS := hS.carry kV1
      have hB := bthen hB kV1
      clear kV1 iV1 sV1
      go_upto_region 13 with fail
      obtain ⟨V2, hV2⟩ : ∃ v, v = World.alloc V1 (Obj.cells #[.int .i64 D1, .int .i64 D2] 92) := ⟨_, rfl⟩
      have kV2 : Below V1.heap.size V1 V2 := by rw [hV2]; exact below_new _ _
      have iV2 : Blk V2 (V1.heap.size) 92 [.int .i64 D1, .int .i64 D2] := by rw [hV2]; exact Blk.new _ _ _
      have sV2 : V2.heap.size = V1.heap.size + 1 := by rw [hV2]; simp
      rw [← hV2]
      clear hV2
      clear d0 d1
      have d0 := iV2.cell (j := 0) (v := .int .i64 D1) rfl
      have d1 := iV2.cell (j := 1) (v := .int .i64 D2) rfl
      have iR := iR.carry kV2
      have i1 := i1.carry kV2
      have hS := hS.carry kV2
      have hB := bthen hB kV2
      clear kV2 iV2 sV2
      have hne := neq2 D1 D2
      by_cases hz : D1 = 0 ∧ D2 = 0
      · obtain ⟨rfl, rfl⟩ := hz
        have hb0 : (!(([0, 0] : List Int) == [0, 0])) = false := by decide
        rw [hb0] at hne
        clear hb0
        go_wp2
        go_roundw
        case rel => exact ⟨k + 1, by omega, by go_num, by rw [E1.out, E2.out, Int.add_zero, Int.add_zero]; exact hS, iR, i1, hB⟩
        case measure => simp [intOf]; omega
      · have hb0 : (!(([D1, D2] : List Int) == [0, 0])) = true := by
          simp only [Bool.not_eq_true', beq_eq_false_iff_ne, ne_eq, List.cons.injEq, and_true]; exact hz
        rw [hb0] at hne
        clear hb0 hz
        have q1 := Q1.out
        have q2 := Q2.out
        have s0 := hS.cell (j := 0) (v := .int .i64 S1) rfl
        have s1 := hS.cell (j := 1) (v := .int .i64 S2) rfl
        have f0 := hS.frozen 0
        have f1 := hS.frozen 1
        have hS' := hS.set2 (.int .i64 (S1 + D1)) (.int .i64 (S2 + D2))
        have hB' := (hB.setCell (p := ⟨G, 0, none⟩) (by simp only; omega) (.int .i64 (S1 + D1))).setCell (p := ⟨G, 1, none⟩) (by simp only; omega) (.int .i64 (S2 + D2))
        have iR' := (iR.other (B' := G) (j := 0) (by omega) (.int .i64 (S1 + D1))).other (B' := G) (j := 1) (by omega) (.int .i64 (S2 + D2))
        have i1' := (i1.other (B' := G) (j := 0) (by omega) (.int .i64 (S1 + D1))).other (B' := G) (j := 1) (by omega) (.int .i64 (S2 + D2))
        clear hS hB iR i1
        go_wp2
        go_roundw
        case rel => exact ⟨k + 1, by omega, by go_num, by rw [E1.out, E2.out]; exact hS', iR', i1', hB'⟩
        case measure => simp [intOf]; omega
    · obtain rfl : k = N := by omega
      have hdk : ¬ (k : Int) < (k : Int) := by omega
      rw [HN.out, List.take_length] at hS
      obtain ⟨S1, hS1⟩ : ∃ s, s = smL (dlLo a b c) l := ⟨_, rfl⟩
      obtain ⟨S2, hS2⟩ : ∃ s, s = smL (dlHi a b c) l := ⟨_, rfl⟩
      rw [← hS1, ← hS2] at hS
      have HS1 := Lib.hid hS1
      have HS2 := Lib.hid hS2
      have s0 := hS.cell (j := 0) (v := .int .i64 S1) rfl
      have s1 := hS.cell (j := 1) (v := .int .i64 S2) rfl
      have c0 := iR.cell (j := 0) (v := .int .i64 0) rfl
      have c1 := iR.cell (j := 1) (v := .int .i64 0) rfl
      have f0 := iR.frozen 0
      have f1 := iR.frozen 1
      have iZ := iR.set2 (.int .i64 S1) (.int .i64 S2)
      have hB2 := (hB.setCell (p := ⟨w.heap.size + 1, 0, none⟩) (by simp only; omega) (.int .i64 S1)).setCell (p := ⟨w.heap.size + 1, 1, none⟩) (by simp only; omega) (.int .i64 S2)
      have y0 := iZ.cell (j := 0) (v := .int .i64 S1) rfl
      have y1 := iZ.cell (j := 1) (v := .int .i64 S2) rfl
      clear iR hB iZ hS i1 b1 b2 hS1 hS2
      go_wp2_with fail
      exact bodyPost_ret (v := .tuple #[.agg #[.int .i64 S1, .int .i64 S2], .int .i64 0]) (by simp [results, Try.f12, go_sem, y0, y1]) rfl ⟨by rw [HS1.out, HS2.out], hB2⟩
end Go.Proofs.Ytipmjjnhdjcoiaa

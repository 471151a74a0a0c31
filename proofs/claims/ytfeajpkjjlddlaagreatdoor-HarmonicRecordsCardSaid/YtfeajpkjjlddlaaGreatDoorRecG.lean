/- Levels, samples and records at every word: the program and the reference. -/
import Derived.Test.YtfeajpkjjlddlaaGreatDoorFlpA
import Derived.Test.YtfeajpkjjlddlaaGreatDoorHarC
import Derived.Laws.Cover2
import Derived.Laws.Externs
import Derived.Test.YtfeajpkjjlddlaaGreatDoorFltA
import Derived.Test.YtfeajpkjjlddlaaGreatDoorHarS
import Derived.Test.YtfeajpkjjlddlaaGreatDoorHrA
namespace Go.Proofs.YtfeajpkjjlddlaaGreatDoor
section
set_option linter.unusedSimpArgs false
set_option linter.unusedVariables false
open Go.RowKit Flp

theorem cmp_eq (a : Int) : compare a a = .eq := by simp [compare, compareOfLessAndEq]
theorem isNaN_num (y : Nat) (v : Int) (w : World) (hy : V64 y = some v) : Calls Tryz.prog 136 #[.float .f64 y] w fun e w' => e = .returned (.bool false) ∧ w = w' := by
  have o := order64 hy hy
  have o1 : FloatKind.f64.format.order y y = some .eq := by
    show Ieee.double.order y y = _
    rw [o, cmp_eq]
  go_enter Tryz.func136, Tryz.ntmps136
  go_wp2
  go_ret
  exact ⟨rfl, rfl⟩
theorem isNaN_nan (y : Nat) (w : World) (hy : ∃ a b, Ieee.double.read y = .nan a b) : Calls Tryz.prog 136 #[.float .f64 y] w fun e w' => e = .returned (.bool true) ∧ w = w' := by
  have o1 : FloatKind.f64.format.order y y = none := (order_nan hy y).1
  go_enter Tryz.func136, Tryz.ntmps136
  go_wp2
  go_ret
  exact ⟨rfl, rfl⟩
theorem V_1024 : V32 1149239296 = some (1024 * U) := by
  have h : Ieee.single.read 1149239296 = .number false 8388608 (-13) := by decide +kernel
  unfold V32
  rw [h]
  show some (valU false 8388608 (-13)) = _
  unfold valU
  rw [signed_eq]
  simp only [Bool.false_eq_true, if_false, Int.one_mul]
  rw [U_def, show ((-13 : Int) + 2000).toNat = 1987 by decide, show uk = 1987 + 13 by rfl, Int.pow_add]
  have e1 : (2 : Int) ^ 13 = 8192 := by decide
  rw [e1]
  generalize (2 : Int) ^ 1987 = p
  congr 1
  rw [show ((8388608 : Nat) : Int) = 8388608 from rfl]
  omega
theorem V_n1024 : V32 3296722944 = some (-(1024 * U)) := by
  have h : Ieee.single.read 3296722944 = .number true 8388608 (-13) := by decide +kernel
  unfold V32
  rw [h]
  show some (valU true 8388608 (-13)) = _
  unfold valU
  rw [signed_eq]
  simp only [if_true, Int.neg_one_mul]
  rw [U_def, show ((-13 : Int) + 2000).toNat = 1987 by decide, show uk = 1987 + 13 by rfl, Int.pow_add]
  have e1 : (2 : Int) ^ 13 = 8192 := by decide
  rw [e1]
  generalize (2 : Int) ^ 1987 = p
  congr 1
  rw [show ((8388608 : Nat) : Int) = 8388608 from rfl]
  omega
theorem fl1024w : floatOfInt .f32 1024 = 1149239296 := by kernel_rfl
theorem negFw (W : World) : Sem.run Tryz.prog (Op.unary .neg (.float .f32 1149239296)) W = .ok (.float .f32 3296722944) W := by
  kernel_rfl
theorem cmp_lt {a b : Int} (h : a < b) : compare a b = .lt := by rw [Int.compare_eq_lt]; exact h
theorem cmp_gt {a b : Int} (h : b < a) : compare a b = .gt := by rw [Int.compare_eq_gt]; exact h
theorem whenP_any (c : Bool) (e : Int) (w : World) : Calls Tryz.prog 159 #[.bool c, .int .i64 e] w fun r w' => r = .returned (.int .i64 (if c then e else 0)) ∧ w = w' := by
  cases c
  · go_enter Tryz.func159, Tryz.ntmps159
    go_wp2
    go_ret
    exact ⟨rfl, rfl⟩
  · go_enter Tryz.func159, Tryz.ntmps159
    go_wp2
    go_ret
    exact ⟨rfl, rfl⟩
set_option maxRecDepth 100000 in
set_option maxHeartbeats 2000000 in
/-- a sample's error, at every word. -/
theorem checkPart_w (x : Nat) (w : World) : Calls Tryz.prog 133 #[.float .f32 x, .int .i64 1024] w fun e w' => e = .returned (.int .i64 (smpE x)) ∧ Below w.heap.size w w' := by
  cases hv : V32 x with
  | none =>
    have hs : Ieee.single.sub x x = none := by rw [sub_self, hv]; rfl
    obtain ⟨r, hr, hrun⟩ := run_sub_nan (P := Tryz.prog) w 99 x x hs
    have o1 : FloatKind.f32.format.order r 0 = none := (order_nan hr 0).1
    have HE := Lib.hid (show smpE x = 1 by unfold smpE; rw [hv])
    clear hs hr hv
    go_enter Tryz.func133, Tryz.ntmps133
    go_wp2
    go_ret
    exact ⟨by rw [HE.out]; rfl, (Below.refl _ _).drew⟩
  | some v =>
    have g1 := fun W => run_float_arith (P := Tryz.prog) W .sub 99 .f32 x x 0 (show floatBits .sub .f32 x x = some 0 by show Ieee.single.sub x x = _; rw [sub_self, hv]; rfl)
    have o0 : FloatKind.f32.format.order 0 0 = some .eq := by kernel_rfl
    have c1 := fl1024w
    have n1 := negFw
    have p1 : FloatKind.f32.format.order x 3296722944 = some (compare v (-(1024 * U))) := order32 hv V_n1024
    have p2 : FloatKind.f32.format.order x 1149239296 = some (compare v (1024 * U)) := order32 hv V_1024
    have HS := Lib.hid (show smpE x = if v < -(1024 * U) ∨ 1024 * U < v then 3 else if 16 * v / U * U = 16 * v then 0 else 3 by unfold smpE; rw [hv])
    by_cases hlo : v < -(1024 * U)
    · rw [cmp_lt hlo] at p1
      rw [if_pos (.inl hlo)] at HS
      clear p2 hv hlo
      go_enter Tryz.func133, Tryz.ntmps133
      go_wp2
      go_ret
      exact ⟨by rw [HS.out]; rfl, Below.refl _ _⟩
    · have p1' : ¬ FloatKind.f32.format.order x 3296722944 = some .lt := by
        rw [p1]; intro e; exact hlo (Int.compare_eq_lt.1 (Option.some.inj e))
      have p1b : (FloatKind.f32.format.order x 3296722944 == some .lt) = false := by rw [beq_eq_false_iff_ne]; exact p1'
      by_cases hhi : 1024 * U < v
      · rw [cmp_gt hhi] at p2
        rw [if_pos (.inr hhi)] at HS
        clear p1 hv hlo hhi
        go_enter Tryz.func133, Tryz.ntmps133
        go_wp2
        go_ret
        exact ⟨by rw [HS.out]; rfl, Below.refl _ _⟩
      · have p2' : ¬ FloatKind.f32.format.order x 1149239296 = some .gt := by
          rw [p2]; intro e; exact hhi (Int.compare_eq_gt.1 (Option.some.inj e))
        have p2b : (FloatKind.f32.format.order x 1149239296 == some .gt) = false := by rw [beq_eq_false_iff_ne]; exact p2'
        have e10 : (2 : Int) ^ 10 = 1024 := by decide
        obtain ⟨y, hy, hyv⟩ := mul_16 hv (by rw [e10]; omega)
        have g5 := fun W => run_float_arith (P := Tryz.prog) W .mul 99 .f32 1098907648 x y hy
        have hU := U_pos
        have hyb : -(16384 * U) ≤ 16 * v ∧ 16 * v ≤ 16384 * U := by omega
        have ht := toInt32 hyv 16384 (by omega) hyb
        have g6 := fun W => run_convert_float_int (P := Tryz.prog) W 99 3 .f32 .i64 y _ (by kernel_rfl) Tryz.underlying3 ht
        obtain ⟨tb1, tb2⟩ := tdiv_bound 16384 (by omega) hyb
        obtain ⟨t, htd⟩ : ∃ t, t = Int.tdiv (16 * v) U := ⟨_, rfl⟩
        rw [← htd] at g6 tb1 tb2
        have hz := ofInt32 t (by omega)
        obtain ⟨z, hzd⟩ : ∃ z, z = floatOfInt .f32 t := ⟨_, rfl⟩
        have k1 : floatOfInt .f32 t = z := hzd.symm
        rw [← hzd] at hz
        have p3 : FloatKind.f32.format.order z y = some (compare (t * U) (16 * v)) := order32 hz hyv
        rw [if_neg (by omega)] at HS
        have hcond : (t * U = 16 * v) ↔ (16 * v / U * U = 16 * v) := by rw [htd]; exact tdiv_mul _
        have TW := Lib.hid (fun (c : Bool) (W : World) => whenP_any c 3 W)
        by_cases hc : t * U = 16 * v
        · rw [hc, cmp_eq] at p3
          rw [if_pos (hcond.1 hc)] at HS
          clear hcond hc hv hlo hhi p1 p2 p1' p2' hy hyv hyb ht hz hzd htd tb1 tb2 hU e10
          go_enter Tryz.func133, Tryz.ntmps133
          go_wp2_with fail
          refine (TW.out _ w).mono ?_
          rintro e w1 ⟨rfl, rfl⟩
          go_wp2
          go_ret
          exact ⟨by rw [HS.out]; rfl, Below.refl _ _⟩
        · have p3' : ¬ FloatKind.f32.format.order z y = some .eq := by
            rw [p3]; intro e; exact hc (Int.compare_eq_eq.1 (Option.some.inj e))
          have p3b : (FloatKind.f32.format.order z y == some .eq) = false := by rw [beq_eq_false_iff_ne]; exact p3'
          rw [if_neg (fun e => hc (hcond.2 e))] at HS
          clear hcond hc hv hlo hhi p1 p2 p3 p1' p2' hy hyv hyb ht hz hzd htd tb1 tb2 hU e10
          go_enter Tryz.func133, Tryz.ntmps133
          go_wp2_with fail
          refine (TW.out _ w).mono ?_
          rintro e w1 ⟨rfl, rfl⟩
          go_wp2
          go_ret
          exact ⟨by rw [HS.out]; rfl, Below.refl _ _⟩
theorem CheckSample_w (x : Nat) (w : World) : Calls Tryz.prog 99 #[.float .f32 x] w fun e w' => e = .returned (.int .i64 (smpE x)) ∧ Below w.heap.size w w' := by
  have T := Lib.hid (fun W => checkPart_w x W)
  go_enter Tryz.func99, Tryz.ntmps99
  go_wp2_with fail
  refine (T.out w).mono ?_
  rintro e w' ⟨rfl, hb⟩
  go_wp2_with fail
  go_ret
  exact ⟨rfl, hb⟩
/-- a sample as a level, and its error. -/
def lvR (x : Nat) : Int := if smpE x ≠ 0 then 0 else lvN x
set_option maxRecDepth 100000 in
set_option maxHeartbeats 2000000 in
theorem level_w (x : Nat) (w : World) : Calls Tryz.prog 44 #[.float .f32 x] w fun e w' => e = .returned (.tuple #[.int .i64 (lvR x), .int .i64 (lvE x)]) ∧ Below w.heap.size w w' := by
  have T := Lib.hid (fun W => CheckSample_w x W)
  by_cases h0 : smpE x = 0
  · obtain ⟨v, hv, hb, _⟩ := smp_some h0
    have HR := Lib.hid (show lvR x = lvN x by unfold lvR; rw [if_neg (fun e => e h0)])
    have HE := Lib.hid (show lvE x = firstE [whenE (!lvOk x) 1, withinE (lvN x) (-100) 100] by
      unfold lvE
      rw [if_neg (fun e => e h0)]
      unfold withinE
      cases lvOk x with
      | false => rfl
      | true =>
        rw [if_neg (show ¬ true = false by decide)]
        by_cases hr : lvN x < -100 ∨ 100 < lvN x
        · rw [if_pos hr]; rfl
        · rw [if_neg hr]; rfl)
    have ht := toInt32 hv 1024 (by omega) hb
    have hn : lvN x = Int.tdiv v U := by unfold lvN; rw [hv]
    have hok : lvOk x = decide (Int.tdiv v U * U = v) := by unfold lvOk; rw [hv]
    rw [← hn] at ht hok
    obtain ⟨tb1, tb2⟩ := tdiv_bound 1024 (by omega) hb
    rw [← hn] at tb1 tb2
    have g8 := fun W => run_convert_float_int (P := Tryz.prog) W 99 3 .f32 .i64 x _ (by kernel_rfl) Tryz.underlying3 ht
    have hz := ofInt32 (lvN x) (by omega)
    obtain ⟨z, hzd⟩ : ∃ z, z = floatOfInt .f32 (lvN x) := ⟨_, rfl⟩
    have k1 : floatOfInt .f32 (lvN x) = z := hzd.symm
    rw [← hzd] at hz
    have p3 : FloatKind.f32.format.order z x = some (compare (lvN x * U) v) := order32 hz hv
    have TW := Lib.hid (fun W => withinH_any (lvN x) (-100) 100 W)
    have p4 : (FloatKind.f32.format.order z x == some .eq) = lvOk x := by
      rw [p3, hok]
      by_cases hc : lvN x * U = v
      · rw [hc, cmp_eq, decide_eq_true rfl]; rfl
      · rw [decide_eq_false hc, beq_eq_false_iff_ne]
        intro e; exact hc (Int.compare_eq_eq.1 (Option.some.inj e))
    rw [h0] at T
    obtain ⟨n, hnn⟩ : ∃ n, n = lvN x := ⟨_, rfl⟩
    rw [← hnn] at HR HE g8 k1 TW
    rw [HR.out, HE.out]
    obtain ⟨ok, hokk⟩ : ∃ ok, ok = lvOk x := ⟨_, rfl⟩
    rw [← hokk] at p4 ⊢
    have p4b : (FloatKind.f32.format.order z x != some .eq) = !ok := by unfold bne; rw [p4]
    generalize withinE n (-100) 100 = we at TW ⊢
    clear p3 hz hzd hn hok hv hb ht tb1 tb2 hnn hokk HR HE h0
    go_enter Tryz.func44, Tryz.ntmps44
    go_wp2_with fail
    refine (T.out w).mono ?_
    rintro e w1 ⟨rfl, hb⟩
    go_wp2_with (first | (go_at_call 43; refine (whenH_any _ _ _).mono ?_; rintro e w' ⟨rfl, rfl⟩) | (go_at_call 54; refine (TW.out _).mono ?_; rintro e w' ⟨rfl, rfl⟩))
    try rw [p4b]
    have hI : BlkI (w1.alloc (Obj.cells #[Value.int IntKind.i64 (whenE (!ok) 1), Value.int IntKind.i64 we] 31)) w1.heap.size 31 [whenE (!ok) 1, we] := Blk.new w1 _ _
    refine (firstH_any _ [whenE (!ok) 1, we] _ (by simp [maxLen]) (BlkI.ints hI rfl)).mono ?_
    rintro e w2 ⟨rfl, rfl⟩
    go_wp2_with fail
    go_ret2
    exact ⟨rfl, bthen hb (below_new _ _)⟩
  · have z : (smpE x != 0) = true := by rw [bne_iff_ne]; exact h0
    have HR := Lib.hid (show lvR x = 0 by unfold lvR; rw [if_pos h0])
    have HE := Lib.hid (show lvE x = smpE x by unfold lvE; rw [if_pos h0])
    rw [HR.out, HE.out]
    generalize smpE x = e0 at T z ⊢
    clear HR HE h0
    go_enter Tryz.func44, Tryz.ntmps44
    go_wp2_with fail
    refine (T.out w).mono ?_
    rintro e w1 ⟨rfl, hb⟩
    go_wp2
    go_ret2
    exact ⟨rfl, hb⟩
end

section
set_option linter.unusedSimpArgs false
set_option linter.unusedVariables false
open Go.RowKit Flp

theorem eqI12w (l m : List Int) (hl : l.length = 12) (hm : m.length = 12) (W : World) : Sem.run Tryz.prog (Op.equalIn 10000 30 (.agg (ia l)) (.agg (ia m))) W = .ok (l == m) W := by
  obtain ⟨i0, hi, hz0, hz1, hz2⟩ := info_parts Tryz.infoInt
  have hc : Tryz.prog.cellsOf 3 = 1 := by kernel_rfl
  rw [run_equalIn_array W 9999 (t := 30) (e := 3) (n := 12) _ _ Tryz.undA12 hi, hc, eqItemsI l m W _ (fun i hi => by rw [hl, hm]; exact ⟨List.mem_range.1 hi, List.mem_range.1 hi⟩), allRange_eq l m 12 hl hm]
/-- a record's words, the levels of its samples, and twelve of them. -/
def xsV (xs : List Nat) : List Value := xs.map (Value.float .f32)
def lvL (xs : List Nat) : List Int := xs.map lvN
def chL (rl : List Int) (q : Nat) : List Int := (List.range 12).map fun j => rl[12 * q + j]?.getD 0
def zer12 : List Int := List.replicate 12 0
theorem chL_len (rl : List Int) (q : Nat) : (chL rl q).length = 12 := by simp [chL]
theorem chL_at (rl : List Int) (q j : Nat) (hj : j < 12) : (chL rl q)[j]?.getD 0 = rl[12 * q + j]?.getD 0 := by simp [chL, hj]
theorem lvL_at (xs : List Nat) (k : Nat) (hk : k < xs.length) : (lvL xs)[k]?.getD 0 = lvN (xs[k]?.getD 0) := by simp [lvL, hk]
theorem rec_len {xs : List Nat} (h : lenE xs.length ≠ 0) : recE xs = lenE xs.length ∧ recP xs = zer12 := by
  have h1 : recE xs = lenE xs.length := by unfold recE; rw [if_pos h]
  refine ⟨h1, ?_⟩
  unfold recP
  rw [if_neg (by rw [h1]; exact h)]; rfl
theorem rec_bad {xs : List Nat} (h0 : lenE xs.length = 0) (k : Nat) (hk : k < xs.length) (hg : ∀ j, j < k → lvE (xs[j]?.getD 0) = 0) (hb : lvE (xs[k]?.getD 0) ≠ 0) : recE xs = lvE (xs[k]?.getD 0) ∧ recP xs = zer12 := by
  have hf : xs.find? (fun x => decide (lvE x ≠ 0)) = some (xs[k]?.getD 0) := by
    rw [List.find?_eq_some_iff_getElem]
    refine ⟨by simpa using hb, k, hk, by simp [hk], fun j hj => ?_⟩
    have := hg j hj
    rw [List.getElem?_eq_getElem (by omega)] at this
    simpa using this
  have h1 : recE xs = lvE (xs[k]?.getD 0) := by unfold recE; rw [if_neg (fun e => e h0), hf]
  refine ⟨h1, ?_⟩
  unfold recP
  rw [if_neg (by rw [h1]; exact hb)]; rfl
theorem rec_none {xs : List Nat} (h0 : lenE xs.length = 0) (hg : ∀ j, j < xs.length → lvE (xs[j]?.getD 0) = 0) : recE xs = if (List.range xs.length).all (fun i => lvN (xs[i]?.getD 0) == lvN (xs[i % 12]?.getD 0)) = true then 0 else 24 := by
  have hf : xs.find? (fun x => decide (lvE x ≠ 0)) = none := by
    rw [List.find?_eq_none]
    intro x hx
    obtain ⟨j, hj, rfl⟩ := List.mem_iff_getElem.1 hx
    have := hg j hj
    rw [List.getElem?_eq_getElem hj] at this
    simpa using this
  unfold recE
  rw [if_neg (fun e => e h0), hf]
theorem rec_same {xs : List Nat} (c : Nat) (hc : 0 < c) (hn : xs.length = 12 * c) (h0 : lenE xs.length = 0) (hg : ∀ j, j < xs.length → lvE (xs[j]?.getD 0) = 0) (h : ∀ q, q < c → chL (lvL xs) q = chL (lvL xs) 0) : recE xs = 0 ∧ recP xs = chL (lvL xs) 0 := by
  have h1 : recE xs = 0 := by
    rw [rec_none h0 hg, if_pos]
    rw [List.all_eq_true]
    intro i hi
    rw [List.mem_range] at hi
    rw [beq_iff_eq, ← lvL_at xs i hi, ← lvL_at xs (i % 12) (by omega)]
    have h2 := congrArg (fun l : List Int => l[i % 12]?.getD 0) (h (i / 12) (by omega))
    rw [chL_at _ _ _ (by omega), chL_at _ _ _ (by omega), show 12 * (i / 12) + i % 12 = i by omega, show 12 * 0 + i % 12 = i % 12 by omega] at h2
    exact h2
  refine ⟨h1, ?_⟩
  unfold recP
  rw [if_pos h1]
  apply List.ext_getElem?
  intro j
  by_cases hj : j < 12
  · simp [chL, hj, lvL]
    rw [List.getElem?_eq_getElem (by omega)]; exact ⟨_, rfl, rfl⟩
  · rw [List.getElem?_eq_none (by simp; omega), List.getElem?_eq_none (by rw [chL_len]; omega)]
theorem rec_conf {xs : List Nat} (c : Nat) (hn : xs.length = 12 * c) (h0 : lenE xs.length = 0) (hg : ∀ j, j < xs.length → lvE (xs[j]?.getD 0) = 0) (q : Nat) (hq : q < c) (h : chL (lvL xs) q ≠ chL (lvL xs) 0) : recE xs = 24 ∧ recP xs = zer12 := by
  have h1 : recE xs = 24 := by
    rw [rec_none h0 hg, if_neg]
    intro ha
    rw [List.all_eq_true] at ha
    refine h (List.ext_getElem? fun j => ?_)
    by_cases hj : j < 12
    · have h2 := ha (12 * q + j) (List.mem_range.2 (by omega))
      rw [beq_iff_eq, show (12 * q + j) % 12 = j by omega, ← lvL_at xs _ (by omega), ← lvL_at xs _ (by omega)] at h2
      simp [chL, hj, h2]
    · rw [List.getElem?_eq_none (by rw [chL_len]; omega), List.getElem?_eq_none (by rw [chL_len]; omega)]
  refine ⟨h1, ?_⟩
  unfold recP
  rw [if_neg (by rw [h1]; decide)]; rfl
theorem lenE_zero {n : Nat} (h : lenE n = 0) : 12 ≤ n ∧ n ≤ 192 ∧ n % 12 = 0 := by
  unfold lenE at h
  by_cases h1 : n < 12
  · rw [if_pos h1] at h; cases h
  · rw [if_neg h1] at h
    by_cases h2 : 192 < n
    · rw [if_pos h2] at h; cases h
    · rw [if_neg h2] at h
      by_cases h3 : n % 12 ≠ 0
      · rw [if_pos h3] at h; cases h
      · omega
set_option maxRecDepth 100000 in
set_option maxHeartbeats 2000000 in
theorem chunk1_inW (n : Nat) (hn : 1 ≤ n) (l Bs Bn H g c cp : Nat) (J Jx : List (Value × Nat) → World → Prop)
    (hcp : 12 * c ≤ cp) (hc3 : c ≤ 16) (hBs : Bs < H) (hBn : Bn < H)
    (hY : ∀ pre x W, J pre W → (x.1 = chunkV g pre.length ∧ pre.length < c) → YieldAt Fence.wide (n - 1) Tryz.prog l #[x.1] W fun e W' =>
      (e = .returned (.bool true) ∧ J (pre ++ [x]) W' ∧ KB H W W') ∨ (e = .returned (.bool false) ∧ Jx (pre ++ [x]) W'))
    (hJ : ∀ pre A B, J pre A → A.grownBy B none → J pre B)
    (W : World) (iS : Blk W Bs 59 [.slice (some ⟨g, 0, none⟩) (12 * c) cp]) (iN : Blk W Bn 3 [.int .i64 12]) (h00 : J [] W) :
    CallsIn Fence.wide n Tryz.prog 100 #[.func (.yield l) #[] #[], .pointer (some ⟨Bs, 0, none⟩), .pointer (some ⟨Bn, 0, none⟩)] W fun e W' => (∃ v, e = .returned v) ∧
      ((∃ ys, ys.length = c ∧ J ys W') ∨ (∃ pre, Jx pre W')) := by
  refine callsIn_of_wp Tryz.func100 rfl trivial ?_ rfl
  simp only [Tryz.ntmps100, List.size_toArray, List.length_cons, List.length_nil, Nat.reduceAdd, Nat.reduceSub, Array.replicate_succ, Array.replicate_zero, List.push_toArray, List.append_toArray, List.nil_append, List.cons_append]
  have hwf : ∀ f, Fence.wide.fn f := fun _ => trivial
  have HY := Lib.hid hY
  have HJ := Lib.hid hJ
  clear hY hJ
  gi_wp2_with fail
  gi_loopw [4] (fun i wr => ∃ (k : Nat) (pre : List (Value × Nat)), k ≤ c ∧ i = .int .i64 (12 * (k : Int)) ∧ pre.length = k ∧ J pre wr ∧ Blk wr Bs 59 [.slice (some ⟨g, 0, none⟩) (12 * c) cp] ∧ Blk wr Bn 3 [.int .i64 12])
    (fun r _ => match r with | .int _ n => (192 - n).toNat | _ => 0)
  case atStart => exact ⟨0, [], Nat.zero_le _, rfl, rfl, h00, iS, iN⟩
  case round =>
    obtain ⟨k, pre, hk, rfl, hpre, hj, jS, jN⟩ := hrel
    have s0 := jS.cell (j := 0) (v := .slice (some ⟨g, 0, none⟩) (12 * c) cp) rfl
    have n0 := jN.cell (j := 0) (v := .int .i64 12) rfl
    by_cases hkc : k = c
    · subst hkc
      have hn : ¬ 12 * (k : Int) < ((12 * k : Nat) : Int) := by omega
      gi_wp2
      go_end0
      exact ⟨⟨_, rfl⟩, .inl ⟨pre, hpre, hj⟩⟩
    · have hlt : 12 * (k : Int) < ((12 * c : Nat) : Int) := by omega
      have hq1 : 0 ≤ 12 * (k : Int) := by omega
      have hq2 : (12 * (k : Int)).toNat = 12 * k := by omega
      have hq3 : k ≤ c := hk
      have hq4 : 12 * k ≤ 12 * c := by omega
      have hq5 : ¬ cp = 12 * k := by omega
      have hq6 : 12 * (k : Int) ≤ ((12 * c : Nat) : Int) := by omega
      have hq7 : ¬ ((12 * c - 12 * k : Nat) : Int) < 12 := by omega
      gi_wp2_with fail
      gi_region
      have hmin : min (12 : Int) ((12 * c - 12 * k : Nat) : Int) = 12 := by omega
      rw [hmin]
      clear hmin hq7 s0 n0
      have hbd : Below wr.heap.size wr wr.drew := (Below.refl _ _).drew
      replace hj := HJ.out _ _ _ hj (grownF hbd)
      replace jS := Blk.carry jS hbd
      replace jN := Blk.carry jN hbd
      generalize wr.drew = W2 at hj jS jN ⊢
      clear hbd
      have s0 := jS.cell (j := 0) (v := .slice (some ⟨g, 0, none⟩) (12 * c) cp) rfl
      have n0 := jN.cell (j := 0) (v := .int .i64 12) rfl
      have e1 : IntKind.i64.wrap (12 * (k : Int) + 12) = 12 * (k : Int) + 12 := IntWalk.i64_in _ (by omega)
      have e2 : 12 * (k : Int) ≤ 12 * (k : Int) + 12 := by omega
      have e3 : 12 * (k : Int) + 12 ≤ (cp : Int) := by omega
      have e4 : (12 * (k : Int) + 12).toNat = 12 * k + 12 := by omega
      have e5 : 0 ≤ 12 * (k : Int) + 12 := by omega
      have e6 : 12 * k + 12 - 12 * k = 12 := by omega
      obtain ⟨fn, tmps, assign, body, hy, hR⟩ := HY.out pre (chunkV g k, k) W2 hj ⟨by rw [hpre], by omega⟩
      simp only [chunkV] at hy
      gi_wp2_with fail
      refine hR.mono ?_
      rintro e W3 (⟨rfl, hj3, hk3⟩ | ⟨rfl, hjx⟩)
      · replace jS := Blk.kb jS hk3 hBs
        replace jN := Blk.kb jN hk3 hBn
        have s0 := jS.cell (j := 0) (v := .slice (some ⟨g, 0, none⟩) (12 * c) cp) rfl
        have n0 := jN.cell (j := 0) (v := .int .i64 12) rfl
        clear hR hy
        gi_wp2
        go_roundw
        case rel => exact ⟨k + 1, pre ++ [(chunkV g k, k)], by omega, by go_num, by rw [List.length_append, hpre]; rfl, hj3, jS, jN⟩
        case measure => simp [intOf]; omega
      · clear hR hy
        gi_wp2
        refine bodyPost_ret (results_none rfl _ _ _) rfl ?_
        exact ⟨⟨_, rfl⟩, .inr ⟨_, hjx⟩⟩

theorem chunk_seqW (n : Nat) (hn : 1 ≤ n) (Bs Bn H g c cp : Nat) (w : World) (hcp : 12 * c ≤ cp) (hc3 : c ≤ 16) (hBs : Bs < H) (hBn : Bn < H)
    (iS : Blk w Bs 59 [.slice (some ⟨g, 0, none⟩) (12 * c) cp]) (iN : Blk w Bn 3 [.int .i64 12]) :
    SeqX Fence.wide n Tryz.prog 100 #[.pointer (some ⟨Bs, 0, none⟩), .pointer (some ⟨Bn, 0, none⟩)] (fun x : Value × Nat => #[x.1]) (fun pre x _ => x.1 = chunkV g pre.length ∧ pre.length < c) (KB H) (fun ys => ys.length = c) (fun _ => True) false w :=
  fun l J Jx W hW hJ _ hY h00 => (chunk1_inW n hn l Bs Bn H g c cp J Jx hcp hc3 hBs hBn hY (fun pre A B h hg => hJ pre A B none h hg (fun r e => by cases e)) W (Blk.carry iS hW) (Blk.carry iN hW) h00).mono
    fun _ _ ⟨hv, h⟩ => ⟨hv, h.imp (fun ⟨ys, hl, h⟩ => ⟨ys, hl, h⟩) (fun ⟨pre, h⟩ => ⟨pre, trivial, h⟩)⟩



theorem wpListIn_storeA {F : Fence} {n : Nat} {w : World} {ops : Array Oper} {rest : List Oper} {o : Oper} {a : Act} {Q : Exit → Act → World → Prop} (hg : o.guard = none) (T : TypeId) (x y : Operand) (hop : o.op = Op.store T x y) (B : Nat) (l old : List Int)
    (hx : a.eval x = .pointer (some ⟨B, 0, none⟩)) (hy : a.eval y = .agg (ia l)) (hB : BlkI w B T old) (hlo : old.length = l.length) (hi : (Tryz.prog.info? T).map (·.size) = some l.length)
    (hK : wpListIn F n Tryz.prog ops Q rest (a.put o.dst undef) (w.setRow B (ia l))) : wpListIn F n Tryz.prog ops Q (o :: rest) a w := by
  refine wpListIn_plain hg fun K' hK' => ?_
  unfold Oper.wpIn
  refine ⟨by simp [Oper.about, hop], ?_⟩
  rw [Oper.semAt_plain F _ _ (by rw [hop]; intro c hc'; cases hc')]
  simp only [execOp, hop, hx, hy, Instr.storeAt, Instr.sureAddr, Sem.run_bind, Sem.run_pure, Result.andThen_ok, run_storeVar_row (P := Tryz.prog) w B T T (ia old) (ia l) hB (by rw [hi, ia_size]) (by rw [ia_size, ia_size, hlo]) (ia_one l)]
  exact hK' _ _ hK
theorem keeps_setRow {W : World} {B : Nat} {T : TypeId} {old : List Value} (h : Blk W B T old) (cs : Array Value) : KeepsOthers W (W.setRow B cs) :=
  ⟨by simp [World.setRow], fun k o hk ho => by
    by_cases e : k = B
    · subst e
      rw [h] at hk
      cases hk
      cases ho
    · exact (setRow_other W B k cs e).trans hk⟩
attribute [local go_sem] Oper.semAt_some
set_option maxRecDepth 100000 in
set_option maxHeartbeats 8000000 in
theorem Levels_w (v : Value) (xs : List Nat) (w : World) (hn9 : xs.length ≤ 1000000) (hv : Vals w v (xsV xs)) :
    Calls Tryz.prog 8 #[v] w fun e w' => e = .returned (.tuple #[.agg (ia (recP xs)), .int .i64 (recE xs)]) ∧ Below w.heap.size w w' := by
  obtain ⟨i0, hi, hz0, hz1, hz2⟩ := info_parts Tryz.infoInt
  obtain ⟨sa, scp, rfl, hcp, hcs0⟩ := hv
  have hxl : (xsV xs).length = xs.length := by unfold xsV; rw [List.length_map]
  rw [hxl] at hcs0 hcp ⊢
  have HCS := Lib.hid hcs0
  clear hcs0 hcp
  obtain ⟨n, hn⟩ : ∃ n, n = xs.length := ⟨_, rfl⟩
  have HLE : lenE xs.length = firstE [whenE (decide ((n : Int) < 12)) 16, whenE (decide (192 < (n : Int))) 5, whenE ((n : Int) % 12 != 0) 2] := by
    rw [← hn]
    have e3 : ((n : Int) % 12 != 0) = decide (n % 12 ≠ 0) := by
      rw [Bool.eq_iff_iff]; simp; omega
    rw [e3]
    unfold lenE
    by_cases h1 : n < 12
    · rw [if_pos h1, decide_eq_true (by omega)]; rfl
    · rw [if_neg h1, decide_eq_false (by omega : ¬ (n : Int) < 12)]
      by_cases h2 : 192 < n
      · rw [if_pos h2, decide_eq_true (by omega)]; rfl
      · rw [if_neg h2, decide_eq_false (by omega : ¬ 192 < (n : Int))]
        by_cases h3 : n % 12 = 0
        · rw [decide_eq_false (fun e => e h3), if_neg (fun e => e h3)]; rfl
        · rw [decide_eq_true h3, if_pos h3]; rfl
  have HN := Lib.hid hn
  rw [← hn] at hn9 ⊢
  clear hn hxl
  refine calls_of_postR Tryz.func8 rfl ?_
  simp only [Tryz.ntmps8, List.size_toArray, List.length_cons, List.length_nil, Nat.reduceAdd, Nat.reduceSub, Array.replicate_succ, Array.replicate_zero, List.push_toArray, List.append_toArray, List.nil_append, List.cons_append]
  go_upto_region 1 with fail
  obtain ⟨W1, hW1⟩ : ∃ v, v = World.alloc w (Obj.cells #[.int .i64 0, .int .i64 0, .int .i64 0, .int .i64 0, .int .i64 0, .int .i64 0, .int .i64 0, .int .i64 0, .int .i64 0, .int .i64 0, .int .i64 0, .int .i64 0] 30) := ⟨_, rfl⟩
  have kW1 : Below w.heap.size w W1 := by rw [hW1]; exact below_new _ _
  have iW1 : BlkI W1 (w.heap.size) 30 (List.replicate 12 0) := by rw [hW1]; exact BlkI.new w 30 (List.replicate 12 0)
  have sW1 : W1.heap.size = w.heap.size + 1 := by rw [hW1]; simp
  rw [← hW1]
  clear hW1
  obtain ⟨W2, hW2⟩ : ∃ v, v = World.alloc W1 (Obj.cells #[.int .i64 0] 31) := ⟨_, rfl⟩
  have kW2 : Below W1.heap.size W1 W2 := by rw [hW2]; exact below_new _ _
  have iW2 : Blk W2 (w.heap.size + 1) 31 [.int .i64 0] := by rw [hW2, ← sW1]; exact Blk.new _ _ _
  have sW2 : W2.heap.size = w.heap.size + 1 + 1 := by rw [hW2]; simp [sW1]
  rw [← hW2]
  clear hW2
  replace iW1 := Blk.carry iW1 kW2
  have hB2 := bthen kW1 kW2
  clear kW1 kW2
  have HI := Lib.hid hi
  clear hi
  go_wp2_with fail
  refine (whenH_any _ _ _).mono ?_
  rintro e w' ⟨rfl, rfl⟩
  go_wp2_with fail
  refine (whenH_any _ _ _).mono ?_
  rintro e w' ⟨rfl, rfl⟩
  go_wp2_with fail
  refine (whenH_any _ _ _).mono ?_
  rintro e w' ⟨rfl, rfl⟩
  go_wp2_with fail
  have t3 := fun a b c => first3H a b c 31 W2
  rw [sW2] at t3
  refine (t3 _ _ _).mono ?_
  rintro e w9 ⟨rfl, hw9⟩
  have kW3 : Below W2.heap.size W2 w9 := by rw [← hw9]; exact below_new _ _
  clear hw9 t3
  replace iW1 := Blk.carry iW1 kW3
  replace iW2 := Blk.carry iW2 kW3
  replace hB2 := bthen hB2 kW3
  rw [← HLE]
  clear kW3
  obtain ⟨Y, hY⟩ : ∃ v, v = w9 := ⟨_, rfl⟩
  rw [← hY] at iW1 iW2 hB2 ⊢
  have hYs : w.heap.size + 2 ≤ Y.heap.size := by have h9 := Blk.lt iW2; omega
  clear hY sW1 sW2 HLE
  have hz12 : zer12.length = 12 := rfl
  by_cases h0 : lenE xs.length = 0
  · rw [h0]
    have HL0 := Lib.hid h0
    obtain ⟨q1, q2, q3⟩ := lenE_zero h0
    rw [← HN.out] at q1 q2 q3
    obtain ⟨c, hc⟩ : ∃ c, n = 12 * c := ⟨n / 12, by omega⟩
    have hcc : 1 ≤ c ∧ c ≤ 16 := by omega
    have HC := Lib.hid hc
    obtain ⟨rl, hrl⟩ : ∃ rl, rl = lvL xs := ⟨_, rfl⟩
    have hrn : rl.length = n := by rw [hrl, HN.out]; unfold lvL; rw [List.length_map]
    have HRL := Lib.hid hrl
    obtain ⟨sb, so, rfl, hcs⟩ := HCS.out (by rw [← HN.out]; omega)
    have hcs' : ∀ j, j < n → w.cell? ⟨sb, so + j, none⟩ = some (.float .f32 (xs[j]?.getD 0)) := fun j hj => by
      refine hcs j _ ?_
      unfold xsV
      rw [List.getElem?_map, List.getElem?_eq_getElem (by rw [← HN.out]; exact hj)]
      rfl
    have HCE := Lib.hid hcs'
    clear hcs hcs' hrl hc h0
    go_wp2_with fail
    go_loopw [5, 33] (fun v i wr => ∃ k : Nat, k ≤ n ∧ i = .int .i64 k ∧ Hid (∀ j, j < k → lvE (xs[j]?.getD 0) = 0) ∧ wr.ownsRow Y.heap.size 3 1 v k ((rl.take k).map (Value.int .i64)) ∧ Below Y.heap.size Y wr) (fun _ i _ => n - (intOf i).toNat)
    case atStart => exact ⟨0, by omega, rfl, Lib.hid (fun j hj => by omega), World.ownsRow_nil _ _ _ _, Below.refl _ _⟩
    case round =>
      obtain ⟨k, hk, rfl, hgood, hown, hbel⟩ := hrel
      by_cases hlt : k < n
      · have c0 := cellb (HCE.out k hlt) (bthen hB2 hbel)
        have HT := Lib.hid (show rl.take (k + 1) = rl.take k ++ [lvN (xs[k]?.getD 0)] by rw [List.take_add_one, List.getElem?_eq_getElem (by omega)]; have h9 := lvL_at xs k (by rw [← HN.out]; exact hlt); rw [← HRL.out, List.getElem?_eq_getElem (by omega)] at h9; rw [← h9]; rfl)
        by_cases hx : lvE (xs[k]?.getD 0) = 0
        · have HG := Lib.hid (show ∀ j, j < k + 1 → lvE (xs[j]?.getD 0) = 0 from fun j hj => by
            by_cases e : j = k
            · rw [e]; exact hx
            · exact hgood.out j (by omega))
          have TL := Lib.hid (level_w (xs[k]?.getD 0) wr)
          rw [hx] at TL
          have hlr : lvR (xs[k]?.getD 0) = lvN (xs[k]?.getD 0) := by unfold lvR; rw [if_neg (fun e => e (lv_ok hx).1)]
          rw [hlr] at TL
          clear hx hlr
          generalize lvN (xs[k]?.getD 0) = y at TL HT
          generalize xs[k]?.getD 0 = x at c0 TL
          go_wp2_with fail
          refine TL.out.mono ?_
          rintro e w5 ⟨rfl, hb5⟩
          replace hown := own_below hown hb5
          replace hbel := bthen hbel hb5
          clear hb5 TL c0
          go_wp2_with (at_builtin; refine wpList_append_own _ rfl _ _ 59 rfl Y.heap.size 3 i0 (.int .i64 0) 1 8 Tryz.underlying59 HI.out hz0 hz1 hz2 rfl (by decide) _ _ _ rfl (hown.alloc _) ⟨w5.heap.size, 0, none⟩ 1 1 [.int .i64 y] rfl rfl (cell_one_new _ _ _) (by simp [Value.oneCell']) (by unfold maxLen; omega) (by omega) (by have := hbel.size; simp; omega) ?_; intro v' w6 hown' hgrow hnil)
          have hbel' := below_own hbel hown hgrow
          have hown2 : w6.ownsRow Y.heap.size 3 1 v' (k + 1) ((rl.take (k + 1)).map (Value.int .i64)) := by
            rw [HT.out, List.map_append]; exact hown'
          clear hown hbel hown' hgrow
          go_wp2
          go_roundw
          case rel => exact ⟨k + 1, by omega, by go_num, HG, hown2, hbel'⟩
          case measure => simp [intOf]; omega
        · obtain ⟨r1, r2⟩ := rec_bad HL0.out k (by rw [← HN.out]; exact hlt) hgood.out hx
          have TL := Lib.hid (level_w (xs[k]?.getD 0) wr)
          have HR1 := Lib.hid r1
          have HR2 := Lib.hid r2
          clear r1 r2
          obtain ⟨E, hE⟩ : ∃ E, E = lvE (xs[k]?.getD 0) := ⟨_, rfl⟩
          rw [← hE] at hx TL HR1
          have hz : (E != 0) = true := by rw [bne_iff_ne]; exact hx
          clear hE hx HT hgood
          generalize lvR (xs[k]?.getD 0) = y at TL
          generalize xs[k]?.getD 0 = x at c0 TL
          replace iW1 := Blk.carry iW1 hbel
          replace iW2 := Blk.carry iW2 hbel
          have hB3 := bthen hB2 hbel
          clear hown hbel
          go_wp2_with fail
          refine TL.out.mono ?_
          rintro e w5 ⟨rfl, hb5⟩
          replace iW1 := Blk.carry iW1 hb5
          replace iW2 := Blk.carry iW2 hb5
          replace hB3 := bthen hB3 hb5
          clear hb5 TL c0
          have hx0 := (Blk.setRow iW2 (show w.heap.size + 1 ≠ w.heap.size by omega) (ia zer12)).cell (j := 0) (v := .int .i64 0) rfl
          have hf0 := (Blk.setRow iW2 (show w.heap.size + 1 ≠ w.heap.size by omega) (ia zer12)).frozen 0
          go_wp2_with (refine wpList_storeA rfl _ _ _ rfl w.heap.size zer12 zer12 rfl rfl iW1 rfl Tryz.infoA12 ?_)
          have m1 := Blk.setRow iW2 (show w.heap.size + 1 ≠ w.heap.size by omega) (ia zer12)
          have m0 := BlkI.setRowA iW1 zer12
          have hB7 := below_rowA hB3 (Nat.le_refl w.heap.size) (ia zer12)
          refine postR_ret (v := .tuple #[.agg (ia zer12), .int .i64 E]) (results_cell2 (p := 2) (q := 3) rfl _ _ w.heap.size (w.heap.size + 1) _ _ rfl rfl (load12 hz12 (m0.other (by omega : w.heap.size ≠ w.heap.size + 1) (j := 0) (.int .i64 E))) (loadE (m1.set 0 (.int .i64 E)))) rfl ⟨by rw [HR1.out, HR2.out], hB7.setCell (by simp) _⟩
      · obtain rfl : k = n := by omega
        have HGA := Lib.hid (show ∀ j, j < xs.length → lvE (xs[j]?.getD 0) = 0 by rw [← HN.out]; exact hgood.out)
        have hk12 : 12 ≤ k := by omega
        obtain ⟨g, cap, cur, rfl, hgb, hg, hcap, htake⟩ : ∃ g cap cur, u5 = .slice (some ⟨g, 0, none⟩) k cap ∧ Y.heap.size ≤ g ∧ Blk wr g 3 cur ∧ k ≤ cap ∧ cur.take k = (rl.take k).map (Value.int .i64) := by
          rcases hown.2 with ⟨_, h0⟩ | ⟨g, cap, cur, hv, hgb, hg, hc, _, _, ht⟩
          · omega
          · exact ⟨g, cap, cur.toList, hv, hgb, by unfold Blk; simpa using hg, hc, by rw [Nat.mul_one] at ht; exact ht⟩
        have hcell : ∀ (q j : Nat), q < c → j < 12 → cur[12 * q + j]? = some (.int .i64 ((chL rl q)[j]?.getD 0)) := fun q j hq hj => by
          have hlt : 12 * q + j < k := by have := HC.out; omega
          have h2 : (cur.take k)[12 * q + j]? = ((rl.take k).map (Value.int .i64))[12 * q + j]? := by rw [htake]
          rw [chL_at _ _ _ hj]
          rw [List.getElem?_take_of_lt hlt, List.getElem?_map, List.getElem?_take_of_lt hlt, List.getElem?_eq_getElem (show 12 * q + j < rl.length by omega)] at h2
          rw [h2, List.getElem?_eq_getElem (show 12 * q + j < rl.length by omega)]
          rfl
        have HCL := Lib.hid hcell
        clear hown htake hcell hgood
        have g1 : (12 : Int) ≤ (cap : Int) := by omega
        have g2 : (12 : Nat) ≤ cap := by omega
        have hB3 := bthen hB2 hbel
        replace iW1 := Blk.carry iW1 hbel
        replace iW2 := Blk.carry iW2 hbel
        have harr := arr12 (some ⟨g, 0, none⟩) 12 cap wr (Nat.le_refl _)
        have hc0 : 0 < c := hcc.1
        have hld := load12at (w := wr) (B := g) (o := 0) (chL_len rl 0) (fun j hj => by rw [Nat.zero_add]; have h9 := HCL.out 0 j hc0 hj; rw [Nat.mul_zero, Nat.zero_add] at h9; exact Blk.cell hg h9)
        obtain ⟨l, hl⟩ : ∃ l, l = chL rl 0 := ⟨_, rfl⟩
        have hll : l.length = 12 := by rw [hl]; exact chL_len rl 0
        have HLL := Lib.hid hl
        rw [← hl] at hld
        clear hl
        go_upto_region 14 with (first | (refine wpList_load rfl _ _ rfl hld ?_) | (refine wpList_storeA rfl _ _ _ rfl wr.heap.size l (List.replicate 12 0) rfl rfl (BlkI.new wr 30 (List.replicate 12 0)) (by rw [hll]; rfl) (by rw [hll]; exact Tryz.infoA12) ?_))
        obtain ⟨W4, hW4⟩ : ∃ v, v = World.setRow (World.alloc wr (Obj.cells #[.int .i64 0, .int .i64 0, .int .i64 0, .int .i64 0, .int .i64 0, .int .i64 0, .int .i64 0, .int .i64 0, .int .i64 0, .int .i64 0, .int .i64 0, .int .i64 0] 30)) wr.heap.size (ia (l)) := ⟨_, rfl⟩
        have kW4 : Below wr.heap.size wr W4 := by rw [hW4]; exact zrow_below _ _ _ _
        have iW4 : BlkI W4 wr.heap.size 30 (l) := by rw [hW4]; exact zrow_blk wr _ (List.replicate 12 0) _
        rw [← hW4]
        clear hW4
        obtain ⟨G, hG⟩ : ∃ G, G = wr.heap.size := ⟨_, rfl⟩
        rw [← hG] at iW4 ⊢
        replace hg := Blk.carry hg kW4
        replace iW1 := Blk.carry iW1 kW4
        replace iW2 := Blk.carry iW2 kW4
        have hB4 := bthen hB3 kW4
        have hGw : w.heap.size + 2 ≤ G := by have := hbel.size; omega
        clear hld harr hbel hB3 kW4 hG hB2
        go_wp2_with fail
        refine (Chunk_any _ _ _ W4).mono ?_
        rintro e W5 ⟨rfl, hw5⟩
        have kA := below_new W4 (.cells #[.slice (some ⟨g, 0, none⟩) k cap] 59)
        have iA := Blk.new W4 59 [.slice (some ⟨g, 0, none⟩) k cap]
        have iC := Blk.new (W4.alloc (.cells #[.slice (some ⟨g, 0, none⟩) k cap] 59)) 3 [.int .i64 12]
        have kC := below_new (W4.alloc (.cells #[.slice (some ⟨g, 0, none⟩) k cap] 59)) (.cells #[.int .i64 12] 3)
        replace iA := Blk.carry iA kC
        have kAC := bthen kA kC
        rw [World.size_alloc] at iC
        have hs5 : W5.heap.size = W4.heap.size + 2 := by rw [← hw5]; simp
        rw [hw5] at iA iC kAC
        clear kA kC hw5
        replace hg := Blk.carry hg kAC
        replace iW1 := Blk.carry iW1 kAC
        replace iW2 := Blk.carry iW2 kAC
        replace iW4 := Blk.carry iW4 kAC
        replace hB4 := bthen hB4 kAC
        have hws5 : w.heap.size ≤ W5.heap.size := hB4.size
        obtain ⟨BS, hBS⟩ : ∃ B, B = W4.heap.size := ⟨_, rfl⟩
        rw [← hBS] at iA iC hs5 ⊢
        clear kAC hBS
        go_wp2_with fail
        refine wp_rangeS (s := 11) (gf := 100) (lb := #[.pointer (some ⟨BS, 0, none⟩), .pointer (some ⟨BS + 1, 0, none⟩)]) rfl (enters_of Tryz.func100 (by kernel_rfl) rfl)
          (chunk_seqW 4 (by omega) BS (BS + 1) W5.heap.size g c cap W5 (by have := HC.out; omega) hcc.2 (by omega) (by omega) (by have h := iA; rw [HC.out] at h; exact h) iC)
          KB.trans (fun W l o o' hl h h1 _ => KB.turn h h1) (KB.refl _) (Below.refl _ _)
          (fun pre W => (Hid (∀ q, q < pre.length → chL rl q = l) ∧ (BlkI W G 30 l ∧ Blk W g 3 cur) ∧ (BlkI W w.heap.size 30 (List.replicate 12 0) ∧ Blk W (w.heap.size + 1) 31 [.int .i64 0])) ∧ Below W5.heap.size W5 W)
          (fun co pre W => (co = .ret ∧ Hid (∃ q, q < c ∧ chL rl q ≠ l)) ∧ (BlkI W w.heap.size 30 zer12 ∧ Blk W (w.heap.size + 1) 31 [.int .i64 24]) ∧ Below w.heap.size w W)
          (StableFrom.and (StableFrom.and (StableFrom.pure _ (fun pre : List (Value × Nat) => Hid (∀ q, q < pre.length → chL rl q = l))) (StableFrom.and (StableFrom.and (Blk.stableF (Blk.lt iW4) _ (fun _ => _)) (Blk.stableF (Blk.lt hg) _ (fun _ => _))) (StableFrom.and (Blk.stableF (Blk.lt iW1) _ (fun _ => _)) (Blk.stableF (Blk.lt iW2) _ (fun _ => _))))) (StableFrom.below (Nat.le_refl _) (Nat.le_refl _)))
          (fun co => StableFrom.own (StableFrom.and (StableFrom.pure _ (fun pre : List (Value × Nat) => co = .ret ∧ Hid (∃ q, q < c ∧ chL rl q ≠ l))) (StableFrom.and (StableFrom.and (Blk.stableF (Blk.lt iW1) _ (fun _ => _)) (Blk.stableF (Blk.lt iW2) _ (fun _ => _))) (StableFrom.below (by omega) (Nat.le_refl _)))))
          ⟨⟨Lib.hid (fun q hq => by simp at hq), ⟨iW4, hg⟩, iW1, iW2⟩, Below.refl _ _⟩ (fun pre _ A B row hs hg hr => hs) ?assign ?body ?done ?stop
        case assign =>
          intro l v W K hK
          gi_wp2
          exact hK
        case body =>
          rintro ll pre ⟨xv, xq⟩ W ⟨⟨hsame, ⟨jG, jg⟩, j1, j2⟩, hBr⟩ ⟨hx, hlen⟩
          simp only [chunkV] at hx
          subst hx
          simp only [List.setIfInBounds_toArray, List.set_cons_succ, List.set_cons_zero]
          have hwf : ∀ f, (Fence.wide.inRound ll).fn f := fun _ => trivial
          have hbd : Below W.heap.size W W.drew := (Below.refl _ _).drew
          have jG2 := Blk.carry jG hbd
          have jg2 := Blk.carry jg hbd
          have hl1 := load12at (w := W.drew) (B := g) (o := 12 * pre.length) (chL_len rl pre.length) (fun j hj => Blk.cell jg2 (HCL.out _ j hlen hj))
          have hl2 := load12 hll jG2
          have ha := arr12 (some ⟨g, 12 * pre.length, none⟩) 12 12 W.drew (Nat.le_refl _)
          obtain ⟨b, hb⟩ : ∃ b, b = (chL rl pre.length == l) := ⟨_, rfl⟩
          have he := eqI12w (chL rl pre.length) l (chL_len _ _) hll W.drew
          rw [← hb] at he
          cases b with
          | true =>
            have heq : chL rl pre.length = l := by rw [← beq_iff_eq]; exact hb.symm
            have HS2 := Lib.hid (show ∀ q, q < pre.length + 1 → chL rl q = l from fun q hq => by
              by_cases e : q = pre.length
              · rw [e]; exact heq
              · exact hsame.out q (by omega))
            clear hb heq hsame
            gi_wp2_with fail
            refine wpIn_region_any (by kernel_rfl) ?_
            (try (change wpAnyIn _ _ _ _ _ _ _ _ _ (World.drew _)))
            refine wpAnyIn_ready (rs := [0, 3]) (by kernel_rfl) (by simp) ?_
            refine (AllReadyIn.cons (o := { dst := some 58, op := Op.move (Operand.tmp 11), type := 59, pos := "harmonic.go:364", after := #[], guard := none }) rfl (fun K hK => ?_) (AllReadyIn.cons (o := { dst := some 61, op := Op.load 30 (Operand.tmp 10), type := 30, pos := "harmonic.go:364", after := #[], guard := none }) rfl (fun K hK => ?_) AllReadyIn.nil))
            · go_simp
              refine hK _ _ ?_
              clear hK K
              try simp only [Act.put, List.setIfInBounds_toArray, List.set_cons_zero, List.set_cons_succ]
              refine wpAnyIn_ready (rs := [1, 3]) (by kernel_rfl) (by simp) ?_
              refine (AllReadyIn.cons (o := { dst := some 59, op := Op.sliceToArrayPointer 30 (Operand.tmp 58), type := 0, pos := "harmonic.go:364", after := #[{ on := 0, ground := Ground.data }], guard := none }) rfl (fun K hK => ?_) (AllReadyIn.cons (o := { dst := some 61, op := Op.load 30 (Operand.tmp 10), type := 30, pos := "harmonic.go:364", after := #[], guard := none }) rfl (fun K hK => ?_) AllReadyIn.nil))
              · go_simp
                refine hK _ _ ?_
                clear hK K
                try simp only [Act.put, List.setIfInBounds_toArray, List.set_cons_zero, List.set_cons_succ]
                refine wpAnyIn_ready (rs := [2, 3]) (by kernel_rfl) (by simp) ?_
                refine (AllReadyIn.cons (o := { dst := some 60, op := Op.load 30 (Operand.tmp 59), type := 30, pos := "harmonic.go:364", after := #[{ on := 1, ground := Ground.data }], guard := none }) rfl (fun K hK => ?_) (AllReadyIn.cons (o := { dst := some 61, op := Op.load 30 (Operand.tmp 10), type := 30, pos := "harmonic.go:364", after := #[], guard := none }) rfl (fun K hK => ?_) AllReadyIn.nil))
                · rw [if_pos (by rfl)]
                  refine wpIn_load _ _ rfl hl1 ?_
                  refine hK _ _ ?_
                  clear hK K
                  try simp only [Act.put, List.setIfInBounds_toArray, List.set_cons_zero, List.set_cons_succ]
                  refine wpAnyIn_ready (rs := [3]) (by kernel_rfl) (by simp) ?_
                  refine (AllReadyIn.cons (o := { dst := some 61, op := Op.load 30 (Operand.tmp 10), type := 30, pos := "harmonic.go:364", after := #[], guard := none }) rfl (fun K hK => ?_) AllReadyIn.nil)
                  rw [if_pos (by rfl)]
                  refine wpIn_load _ _ rfl hl2 ?_
                  refine hK _ _ ?_
                  clear hK K
                  try simp only [Act.put, List.setIfInBounds_toArray, List.set_cons_zero, List.set_cons_succ]
                  refine wpAnyIn_ready (rs := [4]) (by kernel_rfl) (by simp) ?_
                  refine (AllReadyIn.cons (o := { dst := some 62, op := Op.binOp BinOp.neq 30 (Operand.tmp 60) (Operand.tmp 61) 30, type := 4, pos := "harmonic.go:364", after := #[{ on := 2, ground := Ground.data }, { on := 3, ground := Ground.data }], guard := none }) rfl (fun K hK => ?_) AllReadyIn.nil)
                  go_simp
                  refine hK _ _ ?_
                  clear hK K
                  try simp only [Act.put, List.setIfInBounds_toArray, List.set_cons_zero, List.set_cons_succ]
                  refine wpAnyIn_done (by kernel_rfl) ?_ _
                  gi_wp2
                  exact ⟨(keeps_of_below hbd).from _, KB.below hbd, ⟨by rw [List.length_append]; exact HS2, ⟨jG2, jg2⟩, Blk.carry j1 hbd, Blk.carry j2 hbd⟩, bthen hBr hbd⟩
                · rw [if_pos (by rfl)]
                  refine wpIn_load _ _ rfl hl2 ?_
                  refine hK _ _ ?_
                  clear hK K
                  try simp only [Act.put, List.setIfInBounds_toArray, List.set_cons_zero, List.set_cons_succ]
                  refine wpAnyIn_ready (rs := [2]) (by kernel_rfl) (by simp) ?_
                  refine (AllReadyIn.cons (o := { dst := some 60, op := Op.load 30 (Operand.tmp 59), type := 30, pos := "harmonic.go:364", after := #[{ on := 1, ground := Ground.data }], guard := none }) rfl (fun K hK => ?_) AllReadyIn.nil)
                  rw [if_pos (by rfl)]
                  refine wpIn_load _ _ rfl hl1 ?_
                  refine hK _ _ ?_
                  clear hK K
                  try simp only [Act.put, List.setIfInBounds_toArray, List.set_cons_zero, List.set_cons_succ]
                  refine wpAnyIn_ready (rs := [4]) (by kernel_rfl) (by simp) ?_
                  refine (AllReadyIn.cons (o := { dst := some 62, op := Op.binOp BinOp.neq 30 (Operand.tmp 60) (Operand.tmp 61) 30, type := 4, pos := "harmonic.go:364", after := #[{ on := 2, ground := Ground.data }, { on := 3, ground := Ground.data }], guard := none }) rfl (fun K hK => ?_) AllReadyIn.nil)
                  go_simp
                  refine hK _ _ ?_
                  clear hK K
                  try simp only [Act.put, List.setIfInBounds_toArray, List.set_cons_zero, List.set_cons_succ]
                  refine wpAnyIn_done (by kernel_rfl) ?_ _
                  gi_wp2
                  exact ⟨(keeps_of_below hbd).from _, KB.below hbd, ⟨by rw [List.length_append]; exact HS2, ⟨jG2, jg2⟩, Blk.carry j1 hbd, Blk.carry j2 hbd⟩, bthen hBr hbd⟩
              · rw [if_pos (by rfl)]
                refine wpIn_load _ _ rfl hl2 ?_
                refine hK _ _ ?_
                clear hK K
                try simp only [Act.put, List.setIfInBounds_toArray, List.set_cons_zero, List.set_cons_succ]
                refine wpAnyIn_ready (rs := [1]) (by kernel_rfl) (by simp) ?_
                refine (AllReadyIn.cons (o := { dst := some 59, op := Op.sliceToArrayPointer 30 (Operand.tmp 58), type := 0, pos := "harmonic.go:364", after := #[{ on := 0, ground := Ground.data }], guard := none }) rfl (fun K hK => ?_) AllReadyIn.nil)
                go_simp
                refine hK _ _ ?_
                clear hK K
                try simp only [Act.put, List.setIfInBounds_toArray, List.set_cons_zero, List.set_cons_succ]
                refine wpAnyIn_ready (rs := [2]) (by kernel_rfl) (by simp) ?_
                refine (AllReadyIn.cons (o := { dst := some 60, op := Op.load 30 (Operand.tmp 59), type := 30, pos := "harmonic.go:364", after := #[{ on := 1, ground := Ground.data }], guard := none }) rfl (fun K hK => ?_) AllReadyIn.nil)
                rw [if_pos (by rfl)]
                refine wpIn_load _ _ rfl hl1 ?_
                refine hK _ _ ?_
                clear hK K
                try simp only [Act.put, List.setIfInBounds_toArray, List.set_cons_zero, List.set_cons_succ]
                refine wpAnyIn_ready (rs := [4]) (by kernel_rfl) (by simp) ?_
                refine (AllReadyIn.cons (o := { dst := some 62, op := Op.binOp BinOp.neq 30 (Operand.tmp 60) (Operand.tmp 61) 30, type := 4, pos := "harmonic.go:364", after := #[{ on := 2, ground := Ground.data }, { on := 3, ground := Ground.data }], guard := none }) rfl (fun K hK => ?_) AllReadyIn.nil)
                go_simp
                refine hK _ _ ?_
                clear hK K
                try simp only [Act.put, List.setIfInBounds_toArray, List.set_cons_zero, List.set_cons_succ]
                refine wpAnyIn_done (by kernel_rfl) ?_ _
                gi_wp2
                exact ⟨(keeps_of_below hbd).from _, KB.below hbd, ⟨by rw [List.length_append]; exact HS2, ⟨jG2, jg2⟩, Blk.carry j1 hbd, Blk.carry j2 hbd⟩, bthen hBr hbd⟩
            · rw [if_pos (by rfl)]
              refine wpIn_load _ _ rfl hl2 ?_
              refine hK _ _ ?_
              clear hK K
              try simp only [Act.put, List.setIfInBounds_toArray, List.set_cons_zero, List.set_cons_succ]
              refine wpAnyIn_ready (rs := [0]) (by kernel_rfl) (by simp) ?_
              refine (AllReadyIn.cons (o := { dst := some 58, op := Op.move (Operand.tmp 11), type := 59, pos := "harmonic.go:364", after := #[], guard := none }) rfl (fun K hK => ?_) AllReadyIn.nil)
              go_simp
              refine hK _ _ ?_
              clear hK K
              try simp only [Act.put, List.setIfInBounds_toArray, List.set_cons_zero, List.set_cons_succ]
              refine wpAnyIn_ready (rs := [1]) (by kernel_rfl) (by simp) ?_
              refine (AllReadyIn.cons (o := { dst := some 59, op := Op.sliceToArrayPointer 30 (Operand.tmp 58), type := 0, pos := "harmonic.go:364", after := #[{ on := 0, ground := Ground.data }], guard := none }) rfl (fun K hK => ?_) AllReadyIn.nil)
              go_simp
              refine hK _ _ ?_
              clear hK K
              try simp only [Act.put, List.setIfInBounds_toArray, List.set_cons_zero, List.set_cons_succ]
              refine wpAnyIn_ready (rs := [2]) (by kernel_rfl) (by simp) ?_
              refine (AllReadyIn.cons (o := { dst := some 60, op := Op.load 30 (Operand.tmp 59), type := 30, pos := "harmonic.go:364", after := #[{ on := 1, ground := Ground.data }], guard := none }) rfl (fun K hK => ?_) AllReadyIn.nil)
              rw [if_pos (by rfl)]
              refine wpIn_load _ _ rfl hl1 ?_
              refine hK _ _ ?_
              clear hK K
              try simp only [Act.put, List.setIfInBounds_toArray, List.set_cons_zero, List.set_cons_succ]
              refine wpAnyIn_ready (rs := [4]) (by kernel_rfl) (by simp) ?_
              refine (AllReadyIn.cons (o := { dst := some 62, op := Op.binOp BinOp.neq 30 (Operand.tmp 60) (Operand.tmp 61) 30, type := 4, pos := "harmonic.go:364", after := #[{ on := 2, ground := Ground.data }, { on := 3, ground := Ground.data }], guard := none }) rfl (fun K hK => ?_) AllReadyIn.nil)
              go_simp
              refine hK _ _ ?_
              clear hK K
              try simp only [Act.put, List.setIfInBounds_toArray, List.set_cons_zero, List.set_cons_succ]
              refine wpAnyIn_done (by kernel_rfl) ?_ _
              gi_wp2
              exact ⟨(keeps_of_below hbd).from _, KB.below hbd, ⟨by rw [List.length_append]; exact HS2, ⟨jG2, jg2⟩, Blk.carry j1 hbd, Blk.carry j2 hbd⟩, bthen hBr hbd⟩
          | false =>
            have hne : chL rl pre.length ≠ l := fun e => by rw [e] at hb; simp at hb
            have HS2 := Lib.hid (show ∃ q, q < c ∧ chL rl q ≠ l from ⟨_, hlen, hne⟩)
            clear hb hne hsame
            have j1' := Blk.carry j1 hbd
            have j2' := Blk.carry j2 hbd
            have hx0 := (Blk.setRow j2' (show w.heap.size + 1 ≠ w.heap.size by omega) (ia zer12)).cell (j := 0) (v := .int .i64 0) rfl
            have hf0 := (Blk.setRow j2' (show w.heap.size + 1 ≠ w.heap.size by omega) (ia zer12)).frozen 0
            have hB7 := below_rowA (hB4.trans ((bthen hBr hbd).mono (by omega))) (Nat.le_refl w.heap.size) (ia zer12)
            gi_wp2_with fail
            refine wpIn_region_any (by kernel_rfl) ?_
            (try (change wpAnyIn _ _ _ _ _ _ _ _ _ (World.drew _)))
            refine wpAnyIn_ready (rs := [0, 3]) (by kernel_rfl) (by simp) ?_
            refine (AllReadyIn.cons (o := { dst := some 58, op := Op.move (Operand.tmp 11), type := 59, pos := "harmonic.go:364", after := #[], guard := none }) rfl (fun K hK => ?_) (AllReadyIn.cons (o := { dst := some 61, op := Op.load 30 (Operand.tmp 10), type := 30, pos := "harmonic.go:364", after := #[], guard := none }) rfl (fun K hK => ?_) AllReadyIn.nil))
            · go_simp
              refine hK _ _ ?_
              clear hK K
              try simp only [Act.put, List.setIfInBounds_toArray, List.set_cons_zero, List.set_cons_succ]
              refine wpAnyIn_ready (rs := [1, 3]) (by kernel_rfl) (by simp) ?_
              refine (AllReadyIn.cons (o := { dst := some 59, op := Op.sliceToArrayPointer 30 (Operand.tmp 58), type := 0, pos := "harmonic.go:364", after := #[{ on := 0, ground := Ground.data }], guard := none }) rfl (fun K hK => ?_) (AllReadyIn.cons (o := { dst := some 61, op := Op.load 30 (Operand.tmp 10), type := 30, pos := "harmonic.go:364", after := #[], guard := none }) rfl (fun K hK => ?_) AllReadyIn.nil))
              · go_simp
                refine hK _ _ ?_
                clear hK K
                try simp only [Act.put, List.setIfInBounds_toArray, List.set_cons_zero, List.set_cons_succ]
                refine wpAnyIn_ready (rs := [2, 3]) (by kernel_rfl) (by simp) ?_
                refine (AllReadyIn.cons (o := { dst := some 60, op := Op.load 30 (Operand.tmp 59), type := 30, pos := "harmonic.go:364", after := #[{ on := 1, ground := Ground.data }], guard := none }) rfl (fun K hK => ?_) (AllReadyIn.cons (o := { dst := some 61, op := Op.load 30 (Operand.tmp 10), type := 30, pos := "harmonic.go:364", after := #[], guard := none }) rfl (fun K hK => ?_) AllReadyIn.nil))
                · rw [if_pos (by rfl)]
                  refine wpIn_load _ _ rfl hl1 ?_
                  refine hK _ _ ?_
                  clear hK K
                  try simp only [Act.put, List.setIfInBounds_toArray, List.set_cons_zero, List.set_cons_succ]
                  refine wpAnyIn_ready (rs := [3]) (by kernel_rfl) (by simp) ?_
                  refine (AllReadyIn.cons (o := { dst := some 61, op := Op.load 30 (Operand.tmp 10), type := 30, pos := "harmonic.go:364", after := #[], guard := none }) rfl (fun K hK => ?_) AllReadyIn.nil)
                  rw [if_pos (by rfl)]
                  refine wpIn_load _ _ rfl hl2 ?_
                  refine hK _ _ ?_
                  clear hK K
                  try simp only [Act.put, List.setIfInBounds_toArray, List.set_cons_zero, List.set_cons_succ]
                  refine wpAnyIn_ready (rs := [4]) (by kernel_rfl) (by simp) ?_
                  refine (AllReadyIn.cons (o := { dst := some 62, op := Op.binOp BinOp.neq 30 (Operand.tmp 60) (Operand.tmp 61) 30, type := 4, pos := "harmonic.go:364", after := #[{ on := 2, ground := Ground.data }, { on := 3, ground := Ground.data }], guard := none }) rfl (fun K hK => ?_) AllReadyIn.nil)
                  go_simp
                  refine hK _ _ ?_
                  clear hK K
                  try simp only [Act.put, List.setIfInBounds_toArray, List.set_cons_zero, List.set_cons_succ]
                  refine wpAnyIn_done (by kernel_rfl) ?_ _
                  gi_wp2_with (refine wpListIn_storeA rfl _ _ _ rfl w.heap.size zer12 zer12 rfl rfl j1' rfl Tryz.infoA12 ?_)
                  exact ⟨(((keeps_of_below hbd).trans (keeps_setRow j1' _)).trans (KeepsOthers.setCell _ _ _)).from _, ⟨rfl, HS2⟩, ⟨(BlkI.setRowA j1' zer12).other (by omega) _, (Blk.setRow j2' (show w.heap.size + 1 ≠ w.heap.size by omega) (ia zer12)).set 0 _⟩, hB7.setCell (by simp) _⟩
                · rw [if_pos (by rfl)]
                  refine wpIn_load _ _ rfl hl2 ?_
                  refine hK _ _ ?_
                  clear hK K
                  try simp only [Act.put, List.setIfInBounds_toArray, List.set_cons_zero, List.set_cons_succ]
                  refine wpAnyIn_ready (rs := [2]) (by kernel_rfl) (by simp) ?_
                  refine (AllReadyIn.cons (o := { dst := some 60, op := Op.load 30 (Operand.tmp 59), type := 30, pos := "harmonic.go:364", after := #[{ on := 1, ground := Ground.data }], guard := none }) rfl (fun K hK => ?_) AllReadyIn.nil)
                  rw [if_pos (by rfl)]
                  refine wpIn_load _ _ rfl hl1 ?_
                  refine hK _ _ ?_
                  clear hK K
                  try simp only [Act.put, List.setIfInBounds_toArray, List.set_cons_zero, List.set_cons_succ]
                  refine wpAnyIn_ready (rs := [4]) (by kernel_rfl) (by simp) ?_
                  refine (AllReadyIn.cons (o := { dst := some 62, op := Op.binOp BinOp.neq 30 (Operand.tmp 60) (Operand.tmp 61) 30, type := 4, pos := "harmonic.go:364", after := #[{ on := 2, ground := Ground.data }, { on := 3, ground := Ground.data }], guard := none }) rfl (fun K hK => ?_) AllReadyIn.nil)
                  go_simp
                  refine hK _ _ ?_
                  clear hK K
                  try simp only [Act.put, List.setIfInBounds_toArray, List.set_cons_zero, List.set_cons_succ]
                  refine wpAnyIn_done (by kernel_rfl) ?_ _
                  gi_wp2_with (refine wpListIn_storeA rfl _ _ _ rfl w.heap.size zer12 zer12 rfl rfl j1' rfl Tryz.infoA12 ?_)
                  exact ⟨(((keeps_of_below hbd).trans (keeps_setRow j1' _)).trans (KeepsOthers.setCell _ _ _)).from _, ⟨rfl, HS2⟩, ⟨(BlkI.setRowA j1' zer12).other (by omega) _, (Blk.setRow j2' (show w.heap.size + 1 ≠ w.heap.size by omega) (ia zer12)).set 0 _⟩, hB7.setCell (by simp) _⟩
              · rw [if_pos (by rfl)]
                refine wpIn_load _ _ rfl hl2 ?_
                refine hK _ _ ?_
                clear hK K
                try simp only [Act.put, List.setIfInBounds_toArray, List.set_cons_zero, List.set_cons_succ]
                refine wpAnyIn_ready (rs := [1]) (by kernel_rfl) (by simp) ?_
                refine (AllReadyIn.cons (o := { dst := some 59, op := Op.sliceToArrayPointer 30 (Operand.tmp 58), type := 0, pos := "harmonic.go:364", after := #[{ on := 0, ground := Ground.data }], guard := none }) rfl (fun K hK => ?_) AllReadyIn.nil)
                go_simp
                refine hK _ _ ?_
                clear hK K
                try simp only [Act.put, List.setIfInBounds_toArray, List.set_cons_zero, List.set_cons_succ]
                refine wpAnyIn_ready (rs := [2]) (by kernel_rfl) (by simp) ?_
                refine (AllReadyIn.cons (o := { dst := some 60, op := Op.load 30 (Operand.tmp 59), type := 30, pos := "harmonic.go:364", after := #[{ on := 1, ground := Ground.data }], guard := none }) rfl (fun K hK => ?_) AllReadyIn.nil)
                rw [if_pos (by rfl)]
                refine wpIn_load _ _ rfl hl1 ?_
                refine hK _ _ ?_
                clear hK K
                try simp only [Act.put, List.setIfInBounds_toArray, List.set_cons_zero, List.set_cons_succ]
                refine wpAnyIn_ready (rs := [4]) (by kernel_rfl) (by simp) ?_
                refine (AllReadyIn.cons (o := { dst := some 62, op := Op.binOp BinOp.neq 30 (Operand.tmp 60) (Operand.tmp 61) 30, type := 4, pos := "harmonic.go:364", after := #[{ on := 2, ground := Ground.data }, { on := 3, ground := Ground.data }], guard := none }) rfl (fun K hK => ?_) AllReadyIn.nil)
                go_simp
                refine hK _ _ ?_
                clear hK K
                try simp only [Act.put, List.setIfInBounds_toArray, List.set_cons_zero, List.set_cons_succ]
                refine wpAnyIn_done (by kernel_rfl) ?_ _
                gi_wp2_with (refine wpListIn_storeA rfl _ _ _ rfl w.heap.size zer12 zer12 rfl rfl j1' rfl Tryz.infoA12 ?_)
                exact ⟨(((keeps_of_below hbd).trans (keeps_setRow j1' _)).trans (KeepsOthers.setCell _ _ _)).from _, ⟨rfl, HS2⟩, ⟨(BlkI.setRowA j1' zer12).other (by omega) _, (Blk.setRow j2' (show w.heap.size + 1 ≠ w.heap.size by omega) (ia zer12)).set 0 _⟩, hB7.setCell (by simp) _⟩
            · rw [if_pos (by rfl)]
              refine wpIn_load _ _ rfl hl2 ?_
              refine hK _ _ ?_
              clear hK K
              try simp only [Act.put, List.setIfInBounds_toArray, List.set_cons_zero, List.set_cons_succ]
              refine wpAnyIn_ready (rs := [0]) (by kernel_rfl) (by simp) ?_
              refine (AllReadyIn.cons (o := { dst := some 58, op := Op.move (Operand.tmp 11), type := 59, pos := "harmonic.go:364", after := #[], guard := none }) rfl (fun K hK => ?_) AllReadyIn.nil)
              go_simp
              refine hK _ _ ?_
              clear hK K
              try simp only [Act.put, List.setIfInBounds_toArray, List.set_cons_zero, List.set_cons_succ]
              refine wpAnyIn_ready (rs := [1]) (by kernel_rfl) (by simp) ?_
              refine (AllReadyIn.cons (o := { dst := some 59, op := Op.sliceToArrayPointer 30 (Operand.tmp 58), type := 0, pos := "harmonic.go:364", after := #[{ on := 0, ground := Ground.data }], guard := none }) rfl (fun K hK => ?_) AllReadyIn.nil)
              go_simp
              refine hK _ _ ?_
              clear hK K
              try simp only [Act.put, List.setIfInBounds_toArray, List.set_cons_zero, List.set_cons_succ]
              refine wpAnyIn_ready (rs := [2]) (by kernel_rfl) (by simp) ?_
              refine (AllReadyIn.cons (o := { dst := some 60, op := Op.load 30 (Operand.tmp 59), type := 30, pos := "harmonic.go:364", after := #[{ on := 1, ground := Ground.data }], guard := none }) rfl (fun K hK => ?_) AllReadyIn.nil)
              rw [if_pos (by rfl)]
              refine wpIn_load _ _ rfl hl1 ?_
              refine hK _ _ ?_
              clear hK K
              try simp only [Act.put, List.setIfInBounds_toArray, List.set_cons_zero, List.set_cons_succ]
              refine wpAnyIn_ready (rs := [4]) (by kernel_rfl) (by simp) ?_
              refine (AllReadyIn.cons (o := { dst := some 62, op := Op.binOp BinOp.neq 30 (Operand.tmp 60) (Operand.tmp 61) 30, type := 4, pos := "harmonic.go:364", after := #[{ on := 2, ground := Ground.data }, { on := 3, ground := Ground.data }], guard := none }) rfl (fun K hK => ?_) AllReadyIn.nil)
              go_simp
              refine hK _ _ ?_
              clear hK K
              try simp only [Act.put, List.setIfInBounds_toArray, List.set_cons_zero, List.set_cons_succ]
              refine wpAnyIn_done (by kernel_rfl) ?_ _
              gi_wp2_with (refine wpListIn_storeA rfl _ _ _ rfl w.heap.size zer12 zer12 rfl rfl j1' rfl Tryz.infoA12 ?_)
              exact ⟨(((keeps_of_below hbd).trans (keeps_setRow j1' _)).trans (KeepsOthers.setCell _ _ _)).from _, ⟨rfl, HS2⟩, ⟨(BlkI.setRowA j1' zer12).other (by omega) _, (Blk.setRow j2' (show w.heap.size + 1 ≠ w.heap.size by omega) (ia zer12)).set 0 _⟩, hB7.setCell (by simp) _⟩
        case done =>
          rintro D ys W hD hS ⟨⟨hsame, ⟨jG, jg⟩, j1, j2⟩, hBr⟩ hK
          obtain ⟨r1, r2⟩ := rec_same c hc0 (by rw [← HN.out]; exact HC.out) HL0.out HGA.out (fun q hq => by rw [← HRL.out, ← HLL.out]; exact hsame.out q (by rw [hS]; exact hq))
          have HR1 := Lib.hid r1
          have HR2 := Lib.hid (show recP xs = l by rw [r2, ← HRL.out]; exact HLL.out.symm)
          clear r1 r2 hsame hS
          have hld := load12 hll jG
          have x0 := j2.cell (j := 0) (v := .int .i64 0) rfl
          have f0 := j2.frozen 0
          have hx0 := (Blk.setRow j2 (show w.heap.size + 1 ≠ w.heap.size by omega) (ia l)).cell (j := 0) (v := .int .i64 0) rfl
          have hf0 := (Blk.setRow j2 (show w.heap.size + 1 ≠ w.heap.size by omega) (ia l)).frozen 0
          go_wp2_with (first | (refine wpList_load rfl _ _ rfl hld ?_) | (refine wpList_storeA rfl _ _ _ rfl w.heap.size l (List.replicate 12 0) rfl rfl j1 (by rw [hll]; rfl) (by rw [hll]; exact Tryz.infoA12) ?_))
          have hDs : w.heap.size + 2 ≤ D := by have := Blk.lt iW4; omega
          have hB6 := bthen hB4 hBr
          have m1 := Blk.setRow j2 (show w.heap.size + 1 ≠ w.heap.size by omega) (ia l)
          have m0 := BlkI.setRowA j1 l
          have hB7 := below_rowA hB6 (Nat.le_refl w.heap.size) (ia l)
          have hK1 : (W.setRow w.heap.size (ia l)).heap[D]? = some (.deferred (some [])) := (setRow_other W w.heap.size D (ia l) (by omega)).trans hK
          obtain ⟨V, hV⟩ : ∃ v, v = W.setRow w.heap.size (ia l) := ⟨_, rfl⟩
          rw [← hV] at m0 m1 hB7 hK1 ⊢
          clear hV hK hB6 hx0 hf0 x0 f0 hld
          have hK2 := (KeepsOthers.setCell V ⟨w.heap.size + 1, 0, none⟩ (.int .i64 0)).same D _ hK1 rfl
          have r1 := Blk.kept (m1.set 0 (.int .i64 0)) (grownBy_putObj' _ D (.deferred none)) (by simp; omega)
          have r0 := Blk.kept (m0.other (by omega : w.heap.size ≠ w.heap.size + 1) (j := 0) (.int .i64 0)) (grownBy_putObj' _ D (.deferred none)) (by simp; omega)
          refine postR_mark (v := .tuple #[.agg (ia l), .int .i64 0]) hK2 rfl (results_cell2 (p := 2) (q := 3) rfl _ _ w.heap.size (w.heap.size + 1) _ _ rfl rfl (load12 hll r0) (loadE r1)) ⟨by rw [HR1.out, HR2.out], (hB7.setCell (by simp) _).trans (belowK_b (w := w) (Nat.le_refl _) _ D _ _ (by omega) hK2 rfl rfl)⟩
        case stop =>
          rintro D co pre W hD hSp ⟨⟨rfl, hex⟩, ⟨j1, j2⟩, hB⟩ hK
          obtain ⟨q, hq, hne⟩ := hex.out
          obtain ⟨r1, r2⟩ := rec_conf c (by rw [← HN.out]; exact HC.out) HL0.out HGA.out q hq (by rw [← HRL.out, ← HLL.out]; exact hne)
          have HR1 := Lib.hid r1
          have HR2 := Lib.hid r2
          clear r1 r2 hex hne
          have hDs : w.heap.size + 2 ≤ D := by have := Blk.lt iW4; omega
          have s1 := Blk.kept j2 (grownBy_putObj' _ D (.deferred none)) (by simp; omega)
          have s0 := Blk.kept j1 (grownBy_putObj' _ D (.deferred none)) (by simp; omega)
          go_wp2
          refine postR_mark (v := .tuple #[.agg (ia zer12), .int .i64 24]) hK rfl (results_cell2 (p := 2) (q := 3) rfl _ _ w.heap.size (w.heap.size + 1) _ _ rfl rfl (load12 hz12 s0) (loadE s1)) ⟨by rw [HR1.out, HR2.out], hB.trans (belowK_b (w := w) (Nat.le_refl _) _ D _ _ (by omega) hK rfl rfl)⟩
  · obtain ⟨r1, r2⟩ := rec_len h0
    have HR1 := Lib.hid r1
    have HR2 := Lib.hid r2
    obtain ⟨E, hE⟩ : ∃ E, E = lenE xs.length := ⟨_, rfl⟩
    rw [← hE] at h0 HR1 ⊢
    have hz : (E != 0) = true := by rw [bne_iff_ne]; exact h0
    clear r1 r2 hE h0
    have hx0 := (Blk.setRow iW2 (show w.heap.size + 1 ≠ w.heap.size by omega) (ia zer12)).cell (j := 0) (v := .int .i64 0) rfl
    have hf0 := (Blk.setRow iW2 (show w.heap.size + 1 ≠ w.heap.size by omega) (ia zer12)).frozen 0
    go_wp2_with (refine wpList_storeA rfl _ _ _ rfl w.heap.size zer12 zer12 rfl rfl iW1 rfl Tryz.infoA12 ?_)
    have m1 := Blk.setRow iW2 (show w.heap.size + 1 ≠ w.heap.size by omega) (ia zer12)
    have m0 := BlkI.setRowA iW1 zer12
    have hB7 := below_rowA hB2 (Nat.le_refl w.heap.size) (ia zer12)
    refine postR_ret (v := .tuple #[.agg (ia zer12), .int .i64 E]) (results_cell2 (p := 2) (q := 3) rfl _ _ w.heap.size (w.heap.size + 1) _ _ rfl rfl (load12 hz12 (m0.other (by omega : w.heap.size ≠ w.heap.size + 1) (j := 0) (.int .i64 E))) (loadE (m1.set 0 (.int .i64 E)))) rfl ⟨by rw [HR1.out, HR2.out], hB7.setCell (by simp) _⟩
end

section
set_option linter.unusedSimpArgs false
set_option linter.unusedVariables false
open Go.RowKit

theorem reps_add (a b : Nat) (xs : List Value) : reps (a + b) xs = reps a xs ++ reps b xs := by
  unfold reps
  rw [← List.replicate_append_replicate, List.flatten_append]
theorem reps_mem (m : Nat) (xs : List Value) : ∀ v ∈ reps m xs, v ∈ xs := by
  intro v hv
  unfold reps at hv
  rw [List.mem_flatten] at hv
  obtain ⟨l, hl, hv⟩ := hv
  rw [List.eq_of_mem_replicate hl] at hv
  exact hv
theorem reps_head2 (c k m : Nat) (xs : List Value) (h : xs.length = 12) (hm : m ≤ k) (j : Nat) (v : Value) (hj : (reps m xs)[j]? = some v) : (rowR c k xs)[j]? = some v := by
  have hlt : j < (reps m xs).length := (List.getElem?_eq_some_iff.1 hj).1
  unfold rowR
  rw [show k = m + (k - m) by omega, reps_add, List.append_assoc, List.getElem?_append_left hlt]
  exact hj
theorem rowR_step2 (c k m : Nat) (xs : List Value) (h : xs.length = 12) (hk : k + m ≤ c) : (rowR c k xs).take (12 * k) ++ reps m xs ++ (rowR c k xs).drop (12 * k + 12 * m) = rowR c (k + m) xs := by
  have hl := reps_len k xs h
  unfold rowR
  rw [List.take_append_of_le_length (by omega), List.take_of_length_le (by omega), List.drop_append, List.drop_of_length_le (by omega), List.nil_append, List.drop_replicate, reps_add, hl, show 12 * (c - k) - (12 * k + 12 * m - 12 * k) = 12 * (c - (k + m)) by omega]
set_option maxRecDepth 100000 in
set_option maxHeartbeats 4000000 in
theorem Repeat_w (b off cp : Nat) (xs : List Value) (c : Nat) (w : World) (hx : xs.length = 12) (hc1 : 1 ≤ c) (hc3 : c ≤ 16) (h1 : ∀ v ∈ xs, v.oneCell' = true) (hcs : ∀ j v, xs[j]? = some v → w.cell? ⟨b, off + j, none⟩ = some v) :
    Calls Tryz.prog 57 #[.slice (some ⟨b, off, none⟩) 12 cp, .int .i64 (c : Int)] w fun r w' => (∃ g, r = .returned (.slice (some ⟨g, 0, none⟩) (12 * c) (12 * c)) ∧ Blk w' g 99 (reps c xs)) ∧ Below w.heap.size w w' := by
  obtain ⟨i0, hi, hz0, hz1, hz2⟩ := info_parts Tryz.infoF32
  have HMUL := Lib.hid (fun W => Tryz.bits_Mul 12 c (by omega) (by omega) W)
  have d1 : ¬ (c : Int) < 0 := by omega
  have v1 : IntKind.u64.wrap (c : Int) = (c : Int) := by rw [IntKind.wrap_u64]; omega
  have m1 : 12 * c / 18446744073709551616 = 0 := by omega
  have m2 : 12 * c % 18446744073709551616 = 12 * c := by omega
  rw [m1, m2] at HMUL
  have HX := Lib.hid hx
  have HCS := Lib.hid hcs
  have H1 := Lib.hid h1
  clear m1 m2 hx hcs h1
  go_enter Tryz.func57, Tryz.ntmps57
  go_wp2_with fail
  refine (HMUL.out w).mono ?_
  rintro e w' ⟨rfl, rfl⟩
  have d2 : ¬ 9223372036854775807 < 12 * (c : Int) := by omega
  have v2 : IntKind.i64.wrap (12 * (c : Int)) = 12 * (c : Int) := IntWalk.i64_in _ (by omega)
  have hz4 : i0.bytes * (12 * c) ≤ 281474976710656 := by rw [hz2]; omega
  have hL : 12 * (c : Int) = ((12 * c : Nat) : Int) := by omega
  have HLL := Lib.hid hL
  clear hL
  go_upto_region 7 with (refine wpList_make_full _ rfl _ _ _ rfl w'.heap.size 99 i0 (.float .f32 0) 1 Tryz.underlying27 hi hz0 hz1 .i64 .i64 (12 * (c : Int)) (12 * (c : Int)) (12 * c) rfl rfl HLL.out HLL.out hz4 (by unfold maxLen; omega) (Nat.le_refl _) ?_; intro W1 hown hg1)
  obtain ⟨G, hG⟩ : ∃ G, G = w'.heap.size := ⟨_, rfl⟩
  have hBase : Below w'.heap.size w' W1 := ⟨hg1.1, hg1.2, hg1.3, hg1.size, fun k hk => hg1.block k hk (fun e => by cases e)⟩
  have b0 : Blk W1 G 99 (rowR c 0 xs) := by
    rcases hown.2 with ⟨h', _⟩ | ⟨g', cap', cur, h', _, hg', _, _, hsz, htake⟩
    · simp at h'
    · simp only [Value.slice.injEq, Option.some.injEq, Addr.mk.injEq, and_true, true_and] at h'
      obtain ⟨rfl, rfl⟩ := h'
      have hcur : cur.toList = List.replicate (12 * c) (.float .f32 0) := by
        rw [List.take_of_length_le (by rw [Array.length_toList]; omega)] at htake
        rw [htake, Nat.mul_one]
        exact toList_madeCells_one _ _
      rw [hG]
      refine hg'.trans ?_
      rw [show rowR c 0 xs = List.replicate (12 * c) (.float .f32 0) by unfold rowR reps; simp, ← hcur]
  have hGs : w'.heap.size ≤ G := by omega
  have hGne : ∀ j v, xs[j]? = some v → b ≠ G := fun j v hj e => by
    have h9 := HCS.out j v hj
    have h10 : b < w'.heap.size := lt_of_cellSome h9
    omega
  rw [← hG] at hown ⊢
  clear hown hg1 hG
  have hsr1 : ∀ j v, xs[j]? = some v → W1.cell? ((⟨b, off, none⟩ : Addr).add j) = some v := fun j v hj => by
    rw [addr_add]; exact cellb (HCS.out j v hj) hBase
  have HS1 := Lib.hid hsr1
  clear hsr1
  have HMN := Lib.hid (show xs.length = Nat.min 12 (12 * c) by rw [HX.out]; exact (Nat.min_eq_left (by omega)).symm)
  have HFT := Lib.hid (show 0 + xs.length ≤ (rowR c 0 xs).length by rw [HX.out, rowR_len c 0 xs HX.out (by omega)]; omega)
  go_upto_region 8 with (refine wpList_copyR rfl _ _ _ _ rfl 99 Tryz.underlying27 Tryz.sizeF32 G 0 (12 * c) (12 * c) ⟨b, off, none⟩ 12 cp rfl rfl (rowR c 0 xs) 99 b0 xs HMN.out HFT.out HS1.out H1.out ?_)
  obtain ⟨W2, hW2⟩ : ∃ v, v = W1.setRow G (xs ++ List.drop xs.length (rowR c 0 xs)).toArray := ⟨_, rfl⟩
  have b1 : Blk W2 G 99 (rowR c 1 xs) := by
    have h := rowR_step c 0 xs HX.out (by omega)
    rw [← h, hW2, HX.out]
    have h9 := Blk.setRowV b0 (xs ++ List.drop 12 (rowR c 0 xs))
    simpa using h9
  have hB2 : Below w'.heap.size w' W2 := by rw [hW2]; exact below_rowA hBase hGs _
  rw [← hW2, HX.out]
  clear hW2 b0 hBase HS1 HMN HFT
  have H12 : ((12 : Nat) : Int) = 12 := rfl
  rw [H12]
  go_loopw [8] (fun v wr => ∃ k : Nat, 1 ≤ k ∧ k ≤ c ∧ v = .int .i64 (12 * (k : Int)) ∧ Blk wr G 99 (rowR c k xs) ∧ Below w'.heap.size w' wr) (fun v _ => match v with | .int _ n => (192 - n).toNat | _ => 0)
  case atStart => exact ⟨1, by omega, hc1, rfl, b1, hB2⟩
  case round =>
    obtain ⟨k, hk1, hkc, rfl, hb, hB⟩ := hrel
    by_cases hkc' : k = c
    · subst hkc'
      have hn : ¬ 12 * (k : Int) < ((12 * k : Nat) : Int) := by omega
      have hr : rowR k k xs = reps k xs := by unfold rowR; simp
      rw [hr] at hb
      go_wp2
      go_ret
      exact ⟨⟨_, rfl, hb⟩, hB⟩
    · have hlt : 12 * (k : Int) < ((12 * c : Nat) : Int) := by omega
      obtain ⟨m, hm⟩ : ∃ m, m = min k (c - k) := ⟨_, rfl⟩
      have hm1 : 1 ≤ m ∧ m ≤ k ∧ k + m ≤ c := by omega
      have hrl : (reps m xs).length = 12 * m := reps_len m xs HX.out
      have HRL := Lib.hid hrl
      have HMN := Lib.hid (show (reps m xs).length = Nat.min (12 * k) (12 * c - 12 * k) by rw [hrl]; show 12 * m = min (12 * k) (12 * c - 12 * k); omega)
      have HFT := Lib.hid (show 12 * k + (reps m xs).length ≤ (rowR c k xs).length by rw [hrl, rowR_len c k xs HX.out (by omega)]; omega)
      have HSR := Lib.hid (show ∀ j v, (reps m xs)[j]? = some v → (rowR c k xs)[j]? = some v from fun j v hj => reps_head2 c k m xs HX.out hm1.2.1 j v hj)
      have HR1 := Lib.hid (show ∀ v ∈ reps m xs, v.oneCell' = true from fun v hv => H1.out v (reps_mem m xs v hv))
      have HST := Lib.hid (show (rowR c k xs).take (12 * k) ++ reps m xs ++ (rowR c k xs).drop (12 * k + 12 * m) = rowR c (k + m) xs from rowR_step2 c k m xs HX.out hm1.2.2)
      have hs1 : 12 * (k : Int) + ((12 * m : Nat) : Int) = 12 * ((k + m : Nat) : Int) := by omega
      have hw1 : IntKind.i64.wrap (12 * (k : Int) + ((12 * m : Nat) : Int)) = 12 * ((k + m : Nat) : Int) := by rw [hs1]; exact IntWalk.i64_in _ (by omega)
      have hkm : 1 ≤ k + m ∧ k + m ≤ c := by omega
      have hms : (192 - 12 * ((k + m : Nat) : Int)).toNat < (192 - 12 * (k : Int)).toNat := by omega
      have ht1 : (12 * (k : Int)).toNat = 12 * k := by omega
      have hp1 : 0 ≤ 12 * (k : Int) := by omega
      have hp2 : k ≤ c := hkc
      have hp4 : ¬ c = k := by omega
      have hp5 : ¬ 12 * c = 12 * k := by omega
      have hp3 : 12 * k ≤ 12 * c := by omega
      have HH := Lib.hid (And.intro hms (And.intro hw1 hkm))
      have hG2 : Blk wr G 99 (rowR c k xs) := hb
      clear hms hw1 hkm hs1 hrl hm hm1
      go_upto_region 9 with fail
      refine wp_region_held_drew (S := (fun _ => True)) (by kernel_rfl) trivial (fun hHeld0 => ?_)
      obtain ⟨wzd, hwz⟩ : ∃ v, v = wr.drew := ⟨_, rfl⟩
      rw [← hwz]
      have hbzd : Below w'.heap.size w' wzd := by rw [hwz]; exact hB.drew
      have hlzd : Below wr.heap.size wr wzd := by rw [hwz]; exact (Below.refl _ _).drew
      have hb := hb.carry hlzd
      clear hwz hlzd
      refine wpAnyH_take (i := 0) (oi := { dst := some 38, op := Op.move (Operand.tmp 8), type := 3, pos := "slices.go:528", after := #[], guard := none }) (v := ?_) rfl (by kernel_rfl) (by kernel_rfl) (by kernel_rfl) (fun _ _ _ h => h) (Or.inl ⟨by rfl, ?_⟩) (by assumption) ?_
      rotate_left
      · (intro w hSw; (try dsimp only at hSw); go_simp); (try with_reducible rfl)
      try simp only [Act.put, List.setIfInBounds_toArray, List.set_cons_zero, List.set_cons_succ]
      refine wpAnyH_take (i := 1) (oi := { dst := some 39, op := Op.move (Operand.tmp 7), type := 27, pos := "slices.go:528", after := #[], guard := none }) (v := ?_) rfl (by kernel_rfl) (by kernel_rfl) (by kernel_rfl) (fun _ _ _ h => h) (Or.inl ⟨by rfl, ?_⟩) (by assumption) ?_
      rotate_left
      · (intro w hSw; (try dsimp only at hSw); go_simp); (try with_reducible rfl)
      try simp only [Act.put, List.setIfInBounds_toArray, List.set_cons_zero, List.set_cons_succ]
      refine wpAnyH_take (i := 2) (oi := { dst := some 40, op := Op.move (Operand.tmp 8), type := 3, pos := "slices.go:528", after := #[], guard := none }) (v := ?_) rfl (by kernel_rfl) (by kernel_rfl) (by kernel_rfl) (fun _ _ _ h => h) (Or.inl ⟨by rfl, ?_⟩) (by assumption) ?_
      rotate_left
      · (intro w hSw; (try dsimp only at hSw); go_simp); (try with_reducible rfl)
      try simp only [Act.put, List.setIfInBounds_toArray, List.set_cons_zero, List.set_cons_succ]
      refine wpAnyH_take (i := 3) (oi := { dst := some 41, op := Op.slice 27 (Operand.tmp 39) (some (Operand.tmp 40)) none none, type := 27, pos := "slices.go:528", after := #[{ on := 1, ground := Ground.data }, { on := 2, ground := Ground.data }], guard := none }) (v := ?_) rfl (by kernel_rfl) (by kernel_rfl) (by kernel_rfl) (fun _ _ _ h => h) (Or.inl ⟨by rfl, ?_⟩) (by assumption) ?_
      rotate_left
      · (intro w hSw; (try dsimp only at hSw); go_simp); (try with_reducible rfl)
      try simp only [Act.put, List.setIfInBounds_toArray, List.set_cons_zero, List.set_cons_succ]
      refine wpAnyH_take (i := 4) (oi := { dst := some 42, op := Op.move (Operand.tmp 7), type := 27, pos := "slices.go:528", after := #[], guard := none }) (v := ?_) rfl (by kernel_rfl) (by kernel_rfl) (by kernel_rfl) (fun _ _ _ h => h) (Or.inl ⟨by rfl, ?_⟩) (by assumption) ?_
      rotate_left
      · (intro w hSw; (try dsimp only at hSw); go_simp); (try with_reducible rfl)
      try simp only [Act.put, List.setIfInBounds_toArray, List.set_cons_zero, List.set_cons_succ]
      refine wpAnyH_take (i := 5) (oi := { dst := some 43, op := Op.move (Operand.tmp 8), type := 3, pos := "slices.go:528", after := #[], guard := none }) (v := ?_) rfl (by kernel_rfl) (by kernel_rfl) (by kernel_rfl) (fun _ _ _ h => h) (Or.inl ⟨by rfl, ?_⟩) (by assumption) ?_
      rotate_left
      · (intro w hSw; (try dsimp only at hSw); go_simp); (try with_reducible rfl)
      try simp only [Act.put, List.setIfInBounds_toArray, List.set_cons_zero, List.set_cons_succ]
      refine wpAnyH_take (i := 6) (oi := { dst := some 44, op := Op.slice 27 (Operand.tmp 42) none (some (Operand.tmp 43)) none, type := 27, pos := "slices.go:528", after := #[{ on := 4, ground := Ground.data }, { on := 5, ground := Ground.data }], guard := none }) (v := ?_) rfl (by kernel_rfl) (by kernel_rfl) (by kernel_rfl) (fun _ _ _ h => h) (Or.inl ⟨by rfl, ?_⟩) (by assumption) ?_
      rotate_left
      · (intro w hSw; (try dsimp only at hSw); go_simp); (try with_reducible rfl)
      try simp only [Act.put, List.setIfInBounds_toArray, List.set_cons_zero, List.set_cons_succ]
      refine wpAnyH_ready (rs := [7]) (by kernel_rfl) (by simp) ?_
      refine (AllReadyH.cons (o := { dst := some 45, op := Op.call { callee := Callee.builtin Builtin.copy, args := #[Operand.tmp 41, Operand.tmp 44], argTypes := #[27, 27] }, type := 3, pos := "slices.go:528", after := #[{ on := 3, ground := Ground.data }, { on := 6, ground := Ground.data }], guard := none }) rfl (fun K hK => ?_) AllReadyH.nil)
      rw [if_pos (by rfl)]
      refine wp_copyR _ _ _ _ rfl 99 Tryz.underlying27 Tryz.sizeF32 G (12 * k) (12 * c - 12 * k) (12 * c - 12 * k) ⟨G, 0, none⟩ (12 * k) (12 * c) rfl rfl (rowR c k xs) 99 hb (reps m xs) HMN.out HFT.out (fun j v hj => by rw [addr_add]; show World.cell? _ ⟨G, 0 + j, none⟩ = _; rw [Nat.zero_add]; exact Blk.cell hb (HSR.out j v hj)) HR1.out ?_
      obtain ⟨wz7, hwz⟩ : ∃ v, v = World.setRow wzd G (List.take (12 * k) (rowR c k xs) ++ reps m xs ++ List.drop (12 * k + (reps m xs).length) (rowR c k xs)).toArray := ⟨_, rfl⟩
      rw [← hwz]
      have hbz7 : Below w'.heap.size w' wz7 := by rw [hwz]; exact below_rowA hbzd hGs _
      have b2 : Blk wz7 G 99 (rowR c (k + m) xs) := by rw [hwz, HRL.out, ← HST.out]; exact Blk.setRowV hb _
      clear hwz hb
      refine hK.out _ _ trivial (fun hHeld1 => ?_)
      clear hK K hHeld0
      try simp only [Act.put, List.setIfInBounds_toArray, List.set_cons_zero, List.set_cons_succ]
      refine wpAnyH_take (i := 8) (oi := { dst := some 46, op := Op.binOp BinOp.add 3 (Operand.tmp 38) (Operand.tmp 45) 3, type := 3, pos := "slices.go:528", after := #[{ on := 0, ground := Ground.data }, { on := 7, ground := Ground.data }], guard := none }) (v := ?_) rfl (by kernel_rfl) (by kernel_rfl) (by kernel_rfl) (fun _ _ _ h => h) (Or.inl ⟨by rfl, ?_⟩) (by assumption) ?_
      rotate_left
      · (intro w hSw; (try dsimp only at hSw); go_simp); (try with_reducible rfl)
      try simp only [Act.put, List.setIfInBounds_toArray, List.set_cons_zero, List.set_cons_succ]
      refine wpAnyH_take (i := 9) (oi := { dst := some 8, op := Op.assign (Operand.tmp 46), type := 3, pos := "slices.go:528", after := #[{ on := 8, ground := Ground.data }, { on := 7, ground := Ground.chain }, { on := 0, ground := Ground.phase }, { on := 1, ground := Ground.phase }, { on := 2, ground := Ground.phase }, { on := 3, ground := Ground.phase }, { on := 4, ground := Ground.phase }, { on := 5, ground := Ground.phase }, { on := 6, ground := Ground.phase }, { on := 7, ground := Ground.phase }, { on := 8, ground := Ground.phase }], guard := none }) (v := ?_) rfl (by kernel_rfl) (by kernel_rfl) (by kernel_rfl) (fun _ _ _ h => h) (Or.inl ⟨by rfl, ?_⟩) (by assumption) ?_
      rotate_left
      · (intro w hSw; (try dsimp only at hSw); go_simp); (try with_reducible rfl)
      try simp only [Act.put, List.setIfInBounds_toArray, List.set_cons_zero, List.set_cons_succ]
      refine wpAnyH_done (by kernel_rfl) ?_ _
      clear hHeld1
      have hB9 := hbz7
      rw [HRL.out, HH.out.2.1]
      (try go_wp2_with fail)
      go_roundw
      · exact ⟨k + m, HH.out.2.2.1, HH.out.2.2.2, rfl, b2, hB9⟩
      · exact HH.out.1
set_option maxRecDepth 100000 in
set_option maxHeartbeats 1000000 in
theorem Record_ok (l : List Int) (c : Nat) (w : World) (hl : l.length = 12) (hp : patE l = 0) (hc1 : 1 ≤ c) (hc3 : c ≤ 16) :
    Calls Tryz.prog 13 #[.agg (ia l), .int .i64 (c : Int)] w fun r w' => (∃ g, r = .returned (.tuple #[.slice (some ⟨g, 0, none⟩) (12 * c) (12 * c), .int .i64 0]) ∧ Blk w' g 99 (reps c (l.map flV))) ∧ Below w.heap.size w w' := by
  have TP := Lib.hid (fun W => checkPattern_any l W hl)
  rw [hp] at TP
  have TW := Lib.hid (withinH_any (c : Int) 1 16)
  have hwe : withinE (c : Int) 1 16 = 0 := by unfold withinE; rw [if_neg (by omega)]
  rw [hwe] at TW
  have T2 := Lib.hid (first2H 0 0 31)
  clear hwe hp
  go_enter Tryz.func13, Tryz.ntmps13
  go_upto_region 1 with fail
  obtain ⟨W1, hW1⟩ : ∃ W, W = w.alloc (.cells (ia l) 30) := ⟨_, rfl⟩
  have kW1 : Below w.heap.size w W1 := by rw [hW1]; exact below_new _ _
  have iW1 : BlkI W1 w.heap.size 30 l := by rw [hW1]; exact BlkI.new _ _ _
  rw [← hW1]
  clear hW1
  have hld := load12 hl iW1
  go_wp2_with (refine wpList_load rfl _ _ rfl hld ?_)
  refine (TP.out W1).mono ?_
  rintro e w2 ⟨rfl, hb2⟩
  clear hld
  replace iW1 := iW1.carry hb2
  replace kW1 := bthen kW1 hb2
  clear hb2
  have TM := Lib.hid (mappedF_any (.slice (some ⟨w.heap.size, 0, none⟩) 12 12) l)
  go_wp2_with fail
  refine (TW.out w2).mono ?_
  rintro e w' ⟨rfl, rfl⟩
  go_wp2_with fail
  obtain ⟨W3, hW3⟩ : ∃ v, v = World.alloc w2 (Obj.cells #[.int .i64 0, .int .i64 0] 31) := ⟨_, rfl⟩
  have hb3 : Below w2.heap.size w2 W3 := by rw [hW3]; exact below_new _ _
  refine (T2.out w2).mono ?_
  rintro e w9 ⟨rfl, hw9⟩
  obtain rfl : W3 = w9 := hW3.trans hw9
  clear hW3 hw9
  replace iW1 := iW1.carry hb3
  replace kW1 := bthen kW1 hb3
  clear hb3
  rw [show firstE [0, 0] = 0 from rfl]
  go_wp2_with fail
  refine (TM.out W3 (by omega) (by omega) (BlkI.ints iW1 hl.symm)).mono ?_
  rintro e w4 ⟨⟨u, rfl, hown⟩, hb4⟩
  replace kW1 := bthen kW1 hb4
  obtain ⟨g, cp, hu, hcs⟩ : ∃ g cp, u = .slice (some ⟨g, 0, none⟩) 12 cp ∧ ∀ j v, (l.map flV)[j]? = some v → w4.cell? ⟨g, 0 + j, none⟩ = some v := by
    rw [hl] at hown
    have hv := Vals.of_own (us := l.map flV) (by rw [List.length_map, hl]; exact hown)
    obtain ⟨a, cp, hu, _, h⟩ := hv
    obtain ⟨b, off, ha, h⟩ := h (by rw [List.length_map]; omega)
    rw [List.length_map, hl] at hu
    rcases hown.2 with ⟨_, h0⟩ | ⟨g, cap, cur, hu', _⟩
    · omega
    · rw [hu'] at hu
      simp only [Value.slice.injEq, true_and] at hu
      rw [ha] at hu
      simp only [Option.some.injEq, Addr.mk.injEq, and_true] at hu
      obtain ⟨⟨rfl, rfl⟩, rfl⟩ := hu
      exact ⟨_, _, hu', h⟩
  subst hu
  clear hown TM hb4 iW1 TP TW T2
  have TR := Lib.hid (Repeat_w g 0 cp (l.map flV) c w4 (by rw [List.length_map, hl]) hc1 hc3 (flV_one l) hcs)
  clear hcs
  go_wp2_with fail
  refine TR.out.mono ?_
  rintro e w5 ⟨⟨G, rfl, hG⟩, hb5⟩
  replace kW1 := bthen kW1 hb5
  clear hb5 TR
  go_wp2_with fail
  go_ret2
  exact ⟨⟨_, rfl, hG⟩, kW1⟩
end

section
set_option linter.unusedSimpArgs false
set_option linter.unusedVariables false
open Go.RowKit Flp

theorem isNaN_ord (y : Nat) (w : World) (o1 : FloatKind.f64.format.order y y = some .eq) : Calls Tryz.prog 136 #[.float .f64 y] w fun e w' => e = .returned (.bool false) ∧ w = w' := by
  go_enter Tryz.func136, Tryz.ntmps136
  go_wp2
  go_ret
  exact ⟨rfl, rfl⟩
theorem absBits (b : Nat) : (BitVec.ofInt 64 (b : Int) &&& ~~~ BitVec.ofInt 64 9223372036854775808).toNat = b % 9223372036854775808 := by
  have h1 : BitVec.ofInt 64 (b : Int) = BitVec.ofNat 64 b := rfl
  have h2 : ~~~ BitVec.ofInt 64 9223372036854775808 = BitVec.ofNat 64 (2 ^ 63 - 1) := by decide
  rw [h1, h2, BitVec.toNat_and, BitVec.toNat_ofNat, BitVec.toNat_ofNat, Nat.mod_eq_of_lt (a := 2 ^ 63 - 1) (by decide), Nat.and_two_pow_sub_one_eq_mod]
  omega
theorem bits_abs (b : Nat) : bits .andNot .u64 (b : Int) 9223372036854775808 = ((b % 9223372036854775808 : Nat) : Int) := by
  have h := absBits b
  show IntKind.u64.wrap ((BitVec.ofInt 64 (b : Int) &&& ~~~ BitVec.ofInt 64 9223372036854775808).toNat : Nat) = _
  rw [h, IntKind.wrap_u64]
  omega
theorem bits_run (b : Nat) (W : World) : Sem.run Tryz.prog (callFunc 175 #[.float .f64 b]) W = .ok (.value (.int .u64 (b : Int))) W := by
  rw [run_callFunc_extern Tryz.func175 (by kernel_rfl) (by kernel_rfl) (by kernel_rfl) (e := Extern.MathFloatBits.float64bits) (by kernel_rfl)]
  rfl
theorem frombits_run (b : Nat) (W : World) : Sem.run Tryz.prog (callFunc 174 #[.int .u64 (b : Int)]) W = .ok (.value (.float .f64 b)) W := by
  rw [run_callFunc_extern Tryz.func174 (by kernel_rfl) (by kernel_rfl) (by kernel_rfl) (e := Extern.MathFloatBits.float64frombits) (by kernel_rfl)]
  rfl
set_option maxRecDepth 100000 in
theorem Abs_any (b : Nat) (w : World) : Calls Tryz.prog 160 #[.float .f64 b] w fun e w' => e = .returned (.float .f64 (b % 9223372036854775808)) ∧ w = w' := by
  have g1 := bits_run b
  have g2 := bits_abs b
  have g3 := frombits_run (b % 9223372036854775808)
  generalize b % 9223372036854775808 = c at g2 g3 ⊢
  go_enter Tryz.func160, Tryz.ntmps160
  go_wp2
  go_ret
  exact ⟨rfl, rfl⟩
theorem IsInf_any (b : Nat) (w : World) : Calls Tryz.prog 137 #[.float .f64 b, .int .i64 0] w fun e w' => e = .returned (.bool (FloatKind.f64.format.order (b % 9223372036854775808) 9218868437227405311 == some .gt)) ∧ w = w' := by
  have HA := Lib.hid (Abs_any b)
  generalize b % 9223372036854775808 = c at HA ⊢
  go_enter Tryz.func137, Tryz.ntmps137
  go_wp2_with fail
  refine (HA.out w).mono ?_
  rintro e w1 ⟨rfl, rfl⟩
  go_wp2
  go_ret
  exact ⟨rfl, rfl⟩

theorem V64_abs {y : Nat} {v : Int} (h : V64 y = some v) : V64 (y % 9223372036854775808) = some (if v < 0 then -v else v) := by
  unfold V64 at h ⊢
  have hs : Ieee.double.signWeight = 9223372036854775808 := by decide +kernel
  have hr : Ieee.double.read (y % 9223372036854775808) = match Ieee.double.read y with
      | .number _ m e => .number false m e
      | .infinity _ => .infinity false
      | .nan _ u => .nan false u := by
    unfold Ieee.Format.read
    simp only [hs]
    have e1 : y % 9223372036854775808 / 9223372036854775808 % 2 = 0 := by omega
    have e2 : y % 9223372036854775808 % 9223372036854775808 = y % 9223372036854775808 := by omega
    rw [e1, e2]
    have e3 : ((0 : Nat) == 1) = false := rfl
    rw [e3]
    by_cases h1 : y % 9223372036854775808 < Ieee.double.binade
    · rw [if_pos h1, if_pos h1]
    · rw [if_neg h1, if_neg h1]
      by_cases h2 : y % 9223372036854775808 < Ieee.double.infRung
      · rw [if_pos h2, if_pos h2]
      · rw [if_neg h2, if_neg h2]
        by_cases h3 : y % 9223372036854775808 = Ieee.double.infRung
        · rw [if_pos h3, if_pos h3]
        · rw [if_neg h3, if_neg h3]
  rw [hr]
  cases hy : Ieee.double.read y with
  | infinity s => rw [hy] at h; cases h
  | nan s u => rw [hy] at h; cases h
  | number s m e =>
    rw [hy] at h
    simp only [Option.some.injEq] at h ⊢
    unfold valU at h ⊢
    rw [signed_eq] at h ⊢
    have hp : (0 : Int) ≤ (m : Int) * 2 ^ (e + 2000).toNat := Int.mul_nonneg (by omega) (Int.le_of_lt (pow_pos2 _))
    generalize (m : Int) * 2 ^ (e + 2000).toNat = k at h hp ⊢
    cases s
    · simp only [Bool.false_eq_true, if_false, Int.one_mul] at h ⊢
      subst h
      rw [if_neg (by omega)]
    · simp only [Bool.false_eq_true, if_true, if_false, Int.one_mul] at h ⊢
      by_cases hk : k = 0
      · subst hk
        simp at h
        subst h
        rfl
      · rw [if_pos (by omega)]
        omega
theorem V64_max : ∃ M, V64 9218868437227405311 = some M ∧ 2 ^ 200 * U ≤ M := by
  have h : Ieee.double.read 9218868437227405311 = .number false 9007199254740991 971 := by decide +kernel
  unfold V64
  rw [h]
  refine ⟨_, rfl, ?_⟩
  unfold valU
  rw [signed_eq]
  simp only [Bool.false_eq_true, if_false, Int.one_mul]
  rw [U_def, show ((971 : Int) + 2000).toNat = 200 + (uk + 771) by decide, Int.pow_add, Int.pow_add]
  have hu : (0 : Int) < 2 ^ uk := pow_pos2 uk
  have h7 : (1 : Int) ≤ 2 ^ 771 := by have := pow_pos2 771; omega
  have h2 : (0 : Int) < 2 ^ 200 := pow_pos2 200
  generalize (2 : Int) ^ uk = u at hu
  generalize (2 : Int) ^ 771 = p at h7
  generalize (2 : Int) ^ 200 = q at h2
  have a1 : 0 ≤ q * u := Int.le_of_lt (Int.mul_pos h2 hu)
  have a2 : q * (u * p) = q * u * p := by rw [Int.mul_assoc]
  rw [a2]
  generalize q * u = z at a1
  have a3 : z * 1 ≤ z * p := Int.mul_le_mul_of_nonneg_left h7 a1
  have a4 : 0 ≤ z * p := by omega
  show z ≤ ((9007199254740991 : Nat) : Int) * (z * p)
  generalize z * p = m at a3 a4
  show z ≤ (9007199254740991 : Int) * m
  omega
theorem inf_not {y : Nat} {v : Int} (h : V64 y = some v) (hb : -(2 ^ 200 * U) < v ∧ v < 2 ^ 200 * U) : (FloatKind.f64.format.order (y % 9223372036854775808) 9218868437227405311 == some .gt) = false := by
  obtain ⟨M, hM, hM2⟩ := V64_max
  have o := order64 (V64_abs h) hM
  have o' : FloatKind.f64.format.order (y % 9223372036854775808) 9218868437227405311 = _ := o
  rw [o', beq_eq_false_iff_ne]
  intro e
  have := Int.compare_eq_gt.1 (Option.some.inj e)
  generalize 2 ^ 200 * U = B at *
  split at this <;> omega

theorem V32_bound {x : Nat} {v : Int} (h : V32 x = some v) : -(2 ^ 200 * U) < v ∧ v < 2 ^ 200 * U := by
  unfold V32 at h
  cases hx : Ieee.single.read x with
  | infinity s => rw [hx] at h; cases h
  | nan s u => rw [hx] at h; cases h
  | number s m e =>
    rw [hx] at h
    simp only [Option.some.injEq] at h
    obtain ⟨h1, h2, h3⟩ := read_single hx
    unfold valU at h
    rw [signed_eq] at h
    have hk : (e + 2000).toNat ≤ 2105 := by omega
    obtain ⟨d, hd⟩ : ∃ d, 2105 = (e + 2000).toNat + d := ⟨2105 - (e + 2000).toNat, by omega⟩
    have hp : (2 : Int) ^ (e + 2000).toNat ≤ 2 ^ 2105 := by
      rw [hd, Int.pow_add]
      have h1 : (1 : Int) ≤ 2 ^ d := by have := pow_pos2 d; omega
      have h0 : (0 : Int) ≤ 2 ^ (e + 2000).toNat := Int.le_of_lt (pow_pos2 _)
      have := Int.mul_le_mul_of_nonneg_left h1 h0
      omega
    have h0 : (0 : Int) < 2 ^ (e + 2000).toNat := pow_pos2 _
    generalize (2 : Int) ^ (e + 2000).toNat = q at h hp h0
    have hB : (2 : Int) ^ 200 * U = 2 ^ 95 * 2 ^ 2105 := by
      rw [U_def, show uk = 2000 from rfl, ← Int.pow_add, ← Int.pow_add]
    rw [hB]
    generalize (2 : Int) ^ 2105 = P at hp ⊢
    have e95 : (2 : Int) ^ 95 = 39614081257132168796771975168 := by decide
    rw [e95]
    have hm : (0 : Int) ≤ (m : Int) ∧ (m : Int) ≤ 16777216 := by omega
    have m1 : (m : Int) * q ≤ 16777216 * q := Int.mul_le_mul_of_nonneg_right hm.2 (Int.le_of_lt h0)
    have m0 : 0 ≤ (m : Int) * q := Int.mul_nonneg hm.1 (Int.le_of_lt h0)
    generalize (m : Int) * q = k at h m1 m0
    cases s
    · simp only [Bool.false_eq_true, if_false, Int.one_mul] at h
      omega
    · simp only [if_true] at h
      omega
theorem V64_1024 : V64 4652218415073722368 = some (1024 * U) := by
  have h : Ieee.double.read 4652218415073722368 = .number false 4503599627370496 (-42) := by decide +kernel
  unfold V64
  rw [h]
  show some (valU false 4503599627370496 (-42)) = _
  unfold valU
  rw [signed_eq]
  simp only [Bool.false_eq_true, if_false, Int.one_mul]
  rw [U_def, show ((-42 : Int) + 2000).toNat = 1958 by decide, show uk = 1958 + 42 by rfl, Int.pow_add]
  have e1 : (2 : Int) ^ 42 = 4398046511104 := by decide
  rw [e1]
  generalize (2 : Int) ^ 1958 = p
  congr 1
  rw [show ((4503599627370496 : Nat) : Int) = 4503599627370496 from rfl]
  omega
theorem V64_n1024 : V64 13875590451928498176 = some (-(1024 * U)) := by
  have h : Ieee.double.read 13875590451928498176 = .number true 4503599627370496 (-42) := by decide +kernel
  unfold V64
  rw [h]
  show some (valU true 4503599627370496 (-42)) = _
  unfold valU
  rw [signed_eq]
  simp only [if_true, Int.neg_one_mul]
  rw [U_def, show ((-42 : Int) + 2000).toNat = 1958 by decide, show uk = 1958 + 42 by rfl, Int.pow_add]
  have e1 : (2 : Int) ^ 42 = 4398046511104 := by decide
  rw [e1]
  generalize (2 : Int) ^ 1958 = p
  congr 1
  rw [show ((4503599627370496 : Nat) : Int) = 4503599627370496 from rfl]
  omega
theorem fl64p : floatOfInt .f64 1024 = 4652218415073722368 := by kernel_rfl
theorem fl64n : floatOfInt .f64 (-1024) = 13875590451928498176 := by kernel_rfl
theorem floor_run (y s m e) (h : Ieee.double.read y = .number s m e) (W : World) : Sem.run Tryz.prog (callFunc 161 #[.float .f64 y]) W = .ok (.value (.float .f64 (FloatKind.f64.encode ((Ieee.Datum.number s m e).integral .down)))) W := by
  rw [run_callFunc_extern Tryz.func161 (by kernel_rfl) (by kernel_rfl) (by kernel_rfl) (e := Extern.MathFloor.toIntegral "math.archFloor" .down) (by kernel_rfl)]
  have h' : FloatKind.f64.decode y = .number s m e := h
  have e1 : Extern.MathFloor.toIntegral "math.archFloor" .down #[.float .f64 y] = (match FloatKind.f64.decode y with
    | .nan s t =>
      if FloatKind.f64.format.quiet t = t then pure (.float .f64 y) else do
      let kept ← choose (.extern "math.Floor,Ceil,Trunc,RoundToEven.signallingNaN kept" 2)
      pure (.float .f64 (if kept == 1 then y else FloatKind.f64.encode (.nan s (FloatKind.f64.format.quiet t))))
    | d => pure (.float .f64 (FloatKind.f64.encode (d.integral .down)))) := rfl
  rw [e1, h']
  rfl
theorem Floor_any (y z : Nat) (w : World) (h : ∀ W, Sem.run Tryz.prog (callFunc 161 #[.float .f64 y]) W = .ok (.value (.float .f64 z)) W) : Calls Tryz.prog 138 #[.float .f64 y] w fun e w' => e = .returned (.float .f64 z) ∧ w = w' := by
  go_enter Tryz.func138, Tryz.ntmps138
  go_wp2
  go_ret
  exact ⟨rfl, rfl⟩
set_option maxRecDepth 100000 in
set_option maxHeartbeats 2000000 in
/-- a sample's error, as the reference tells it, at every word. -/
theorem CheckPartR_w (x : Nat) (w : World) : Calls Tryz.prog 103 #[.float .f32 x, .int .i64 1024] w fun e w' => e = .returned (.int .i64 (smpE x)) ∧ Below w.heap.size w w' := by
  cases hv : V32 x with
  | none =>
    have HE := Lib.hid (show smpE x = 1 by unfold smpE; rw [hv])
    cases hx : Ieee.single.read x with
    | number s m e => unfold V32 at hv; rw [hx] at hv; cases hv
    | nan s u =>
      obtain ⟨r, hr, hrun⟩ := run_widen_nan (P := Tryz.prog) w 99 199 x (by kernel_rfl) Tryz.underlying199 ⟨s, u, hx⟩
      have TN := Lib.hid (fun W => isNaN_nan r W hr)
      clear hr hx hv
      go_enter Tryz.func103, Tryz.ntmps103
      go_wp2_with fail
      refine (TN.out _).mono ?_
      rintro e w1 ⟨rfl, rfl⟩
      go_wp2
      go_ret
      exact ⟨by rw [HE.out]; rfl, (Below.refl _ _).drew⟩
    | infinity s =>
      have hw := widen_inf hx
      have g1 := fun W => run_convert_float_float (P := Tryz.prog) W 99 199 .f32 .f64 x _ (by kernel_rfl) Tryz.underlying199 hw
      obtain ⟨y, hy⟩ : ∃ y, y = Ieee.double.word s Ieee.double.infRung := ⟨_, rfl⟩
      rw [← hy] at g1
      have o1 : FloatKind.f64.format.order y y = some .eq := by rw [hy]; cases s <;> decide +kernel
      have o2 : (FloatKind.f64.format.order (y % 9223372036854775808) 9218868437227405311 == some .gt) = true := by rw [hy]; cases s <;> decide +kernel
      have TI := Lib.hid (fun W => by
        have := IsInf_any y W
        rw [o2] at this
        exact this)
      have TN := Lib.hid (fun W => isNaN_ord y W o1)
      clear hx hv hw hy o1 o2
      go_enter Tryz.func103, Tryz.ntmps103
      go_wp2_with fail
      refine (TN.out _).mono ?_
      rintro e w1 ⟨rfl, rfl⟩
      go_wp2_with fail
      refine (TI.out _).mono ?_
      rintro e w1 ⟨rfl, rfl⟩
      go_wp2
      go_ret
      exact ⟨by rw [HE.out]; rfl, Below.refl _ _⟩
  | some v =>
    obtain ⟨y, hy, hyv⟩ := widen hv
    have g1 := fun W => run_convert_float_float (P := Tryz.prog) W 99 199 .f32 .f64 x y (by kernel_rfl) Tryz.underlying199 hy
    have o2 := inf_not hyv (V32_bound hv)
    have TI := Lib.hid (fun W => by
      have := IsInf_any y W
      rw [o2] at this
      exact this)
    have TN := Lib.hid (fun W => isNaN_num y v W hyv)
    have TW := Lib.hid (fun (c : Bool) (W : World) => WhenR_any c 3 W)
    have c1 := fl64p
    have c2 := fl64n
    have p2 : FloatKind.f64.format.order y 4652218415073722368 = some (compare v (1024 * U)) := order64 hyv V64_1024
    have p1 : FloatKind.f64.format.order y 13875590451928498176 = some (compare v (-(1024 * U))) := order64 hyv V64_n1024
    have HS := Lib.hid (show smpE x = if v < -(1024 * U) ∨ 1024 * U < v then 3 else if 16 * v / U * U = 16 * v then 0 else 3 by unfold smpE; rw [hv])
    by_cases hhi : 1024 * U < v
    · rw [cmp_gt hhi] at p2
      rw [if_pos (.inr hhi)] at HS
      clear p1 hv hhi hy hyv o2
      go_enter Tryz.func103, Tryz.ntmps103
      go_wp2_with fail
      refine (TN.out _).mono ?_
      rintro e w1 ⟨rfl, rfl⟩
      go_wp2_with fail
      refine (TI.out _).mono ?_
      rintro e w1 ⟨rfl, rfl⟩
      go_wp2_with fail
      refine (TW.out _ w).mono ?_
      rintro e w1 ⟨rfl, rfl⟩
      go_wp2
      go_ret
      exact ⟨by rw [HS.out]; rfl, Below.refl _ _⟩
    · have p2' : ¬ FloatKind.f64.format.order y 4652218415073722368 = some .gt := by
        rw [p2]; intro e; exact hhi (Int.compare_eq_gt.1 (Option.some.inj e))
      have p2b : (FloatKind.f64.format.order y 4652218415073722368 == some .gt) = false := by rw [beq_eq_false_iff_ne]; exact p2'
      by_cases hlo : v < -(1024 * U)
      · rw [cmp_lt hlo] at p1
        rw [if_pos (.inl hlo)] at HS
        clear p2 hv hhi hlo hy hyv o2
        go_enter Tryz.func103, Tryz.ntmps103
        go_wp2_with fail
        refine (TN.out _).mono ?_
        rintro e w1 ⟨rfl, rfl⟩
        go_wp2_with fail
        refine (TI.out _).mono ?_
        rintro e w1 ⟨rfl, rfl⟩
        go_wp2_with fail
        refine (TW.out _ w).mono ?_
        rintro e w1 ⟨rfl, rfl⟩
        go_wp2
        go_ret
        exact ⟨by rw [HS.out]; rfl, Below.refl _ _⟩
      · have p1' : ¬ FloatKind.f64.format.order y 13875590451928498176 = some .lt := by
          rw [p1]; intro e; exact hlo (Int.compare_eq_lt.1 (Option.some.inj e))
        have p1b : (FloatKind.f64.format.order y 13875590451928498176 == some .lt) = false := by rw [beq_eq_false_iff_ne]; exact p1'
        have e10 : (2 : Int) ^ 10 = 1024 := by decide
        obtain ⟨z, hz, hzv⟩ := mul_16d hyv (by rw [e10]; omega)
        have hU := U_pos
        obtain ⟨s, m, e, hr, hf⟩ := floor64 hzv (by omega)
        have g5 := fun W => run_float_arith (P := Tryz.prog) W .mul 199 .f64 4625196817309499392 y z hz
        obtain ⟨k, hk⟩ : ∃ k, k = FloatKind.f64.encode ((Ieee.Datum.number s m e).integral .down) := ⟨_, rfl⟩
        have TF := Lib.hid (fun W => Floor_any z k W (fun W => by rw [hk]; exact floor_run z s m e hr W))
        rw [← hk] at hf
        have p3 : FloatKind.f64.format.order z k = some (compare (16 * v) (16 * v / U * U)) := order64 hzv hf
        rw [if_neg (by omega)] at HS
        by_cases hc : 16 * v / U * U = 16 * v
        · rw [hc, cmp_eq] at p3
          rw [if_pos hc] at HS
          clear hc hv hlo hhi p1 p2 p1' p2' hy hyv hU e10 o2 hr hf hk hz hzv
          go_enter Tryz.func103, Tryz.ntmps103
          go_wp2_with fail
          refine (TN.out _).mono ?_
          rintro e w1 ⟨rfl, rfl⟩
          go_wp2_with fail
          refine (TI.out _).mono ?_
          rintro e w1 ⟨rfl, rfl⟩
          go_wp2_with fail
          refine (TF.out w).mono ?_
          rintro e w1 ⟨rfl, rfl⟩
          go_wp2_with fail
          refine (TW.out _ w).mono ?_
          rintro e w1 ⟨rfl, rfl⟩
          go_wp2
          go_ret
          exact ⟨by rw [HS.out]; rfl, Below.refl _ _⟩
        · have p3' : ¬ FloatKind.f64.format.order z k = some .eq := by
            rw [p3]; intro e; exact hc (Int.compare_eq_eq.1 (Option.some.inj e)).symm
          have p3b : (FloatKind.f64.format.order z k == some .eq) = false := by rw [beq_eq_false_iff_ne]; exact p3'
          have p3c : (FloatKind.f64.format.order z k != some .eq) = true := by unfold bne; rw [p3b]; rfl
          rw [if_neg hc] at HS
          clear hc hv hlo hhi p1 p2 p3 p1' p2' hy hyv hU e10 o2 hr hf hk hz hzv
          go_enter Tryz.func103, Tryz.ntmps103
          go_wp2_with fail
          refine (TN.out _).mono ?_
          rintro e w1 ⟨rfl, rfl⟩
          go_wp2_with fail
          refine (TI.out _).mono ?_
          rintro e w1 ⟨rfl, rfl⟩
          go_wp2_with fail
          refine (TF.out w).mono ?_
          rintro e w1 ⟨rfl, rfl⟩
          go_wp2_with fail
          refine (TW.out _ w).mono ?_
          rintro e w1 ⟨rfl, rfl⟩
          go_wp2
          go_ret
          exact ⟨by rw [HS.out]; rfl, Below.refl _ _⟩
theorem CheckSampleR_w (x : Nat) (w : World) : Calls Tryz.prog 52 #[.float .f32 x] w fun e w' => e = .returned (.int .i64 (smpE x)) ∧ Below w.heap.size w w' := by
  have T := Lib.hid (fun W => CheckPartR_w x W)
  go_enter Tryz.func52, Tryz.ntmps52
  go_wp2_with fail
  refine (T.out w).mono ?_
  rintro e w' ⟨rfl, hb⟩
  go_wp2_with fail
  go_ret
  exact ⟨rfl, hb⟩
theorem Sixteenths_w (x : Nat) (h : smpE x = 0) (w : World) : Calls Tryz.prog 53 #[.float .f32 x] w fun e w' => e = .returned (.int .i64 (sxN x)) ∧ w = w' := by
  obtain ⟨v, hv, hb, h16⟩ := smp_some h
  have e10 : (2 : Int) ^ 10 = 1024 := by decide
  obtain ⟨y, hy, hyv⟩ := mul_16 hv (by rw [e10]; omega)
  have g5 := fun W => run_float_arith (P := Tryz.prog) W .mul 99 .f32 1098907648 x y hy
  have hU := U_pos
  have hyb : -(16384 * U) ≤ 16 * v ∧ 16 * v ≤ 16384 * U := by omega
  have ht := toInt32 hyv 16384 (by omega) hyb
  have g6 := fun W => run_convert_float_int (P := Tryz.prog) W 99 3 .f32 .i64 y _ (by kernel_rfl) Tryz.underlying3 ht
  have hs : sxN x = Int.tdiv (16 * v) U := by unfold sxN; rw [hv]
  rw [← hs] at g6
  generalize sxN x = n at g6 ⊢
  clear hv hb h16 hy hyv hyb ht hs h hU e10
  go_enter Tryz.func53, Tryz.ntmps53
  go_wp2
  go_ret
  exact ⟨rfl, rfl⟩
end

section
set_option linter.unusedSimpArgs false
set_option linter.unusedVariables false
open Go.RowKit Flp

/-- the levels of the first samples, zeros behind them. -/
def firF (xs : List Nat) (k j : Nat) : Int := if j < k then lvN (xs[j]?.getD 0) else 0
theorem firF_zero (xs : List Nat) : List.replicate 12 (0 : Int) = upto (firF xs 0) 12 := by
  rw [zeros_upto]
  exact upto_congr fun j _ => by unfold firF; rw [if_neg (by omega)]
theorem firF_set (xs : List Nat) (k : Nat) (hk : k < 12) : (upto (firF xs k) 12).set k (lvN (xs[k]?.getD 0)) = upto (firF xs (k + 1)) 12 := upto_set1 _ _ 12 k hk _ fun j => by
  unfold firF
  by_cases c : j = k
  · subst c; rw [if_pos (by omega), if_pos rfl]
  · rw [if_neg c]
    by_cases d : j < k
    · rw [if_pos (by omega), if_pos d]
    · rw [if_neg (by omega), if_neg d]
theorem firF_more (xs : List Nat) (k : Nat) (hk : 12 ≤ k) : upto (firF xs k) 12 = upto (firF xs 12) 12 := upto_congr fun j hj => by
  unfold firF
  rw [if_pos (by omega), if_pos hj]
theorem firF_all {xs : List Nat} (h : 12 ≤ xs.length) : upto (firF xs 12) 12 = chL (lvL xs) 0 := by
  apply List.ext_getElem?
  intro j
  rw [upto_get]
  by_cases c : j < 12
  · rw [if_pos c, firF, if_pos c, ← lvL_at xs j (by omega)]
    simp [chL, c]
  · rw [if_neg c, List.getElem?_eq_none (by rw [chL_len]; omega)]
theorem tmod_dvd16 (n : Int) : Int.tmod (16 * n) 16 = 0 := by rw [Int.mul_tmod_right]
set_option maxRecDepth 100000 in
set_option maxHeartbeats 8000000 in
theorem LevelsR_w (v : Value) (xs : List Nat) (w : World) (hn9 : xs.length ≤ 1000000) (hv : Vals w v (xsV xs)) :
    Calls Tryz.prog 12 #[v] w fun e w' => e = .returned (.tuple #[.agg (ia (recP xs)), .int .i64 (recE xs)]) ∧ Below w.heap.size w w' := by
  obtain ⟨sa, scp, rfl, hcp, hcs0⟩ := hv
  have hxl : (xsV xs).length = xs.length := by unfold xsV; rw [List.length_map]
  rw [hxl] at hcs0 hcp ⊢
  have HCS := Lib.hid hcs0
  clear hcs0 hcp
  obtain ⟨n, hn⟩ : ∃ n, n = xs.length := ⟨_, rfl⟩
  have HLE : lenE xs.length = firstE [whenE (decide ((n : Int) < 12)) 16, whenE (decide (192 < (n : Int))) 5, whenE ((n : Int) % 12 != 0) 2] := by
    rw [← hn]
    have e3 : ((n : Int) % 12 != 0) = decide (n % 12 ≠ 0) := by
      rw [Bool.eq_iff_iff]; simp; omega
    rw [e3]
    unfold lenE
    by_cases h1 : n < 12
    · rw [if_pos h1, decide_eq_true (by omega)]; rfl
    · rw [if_neg h1, decide_eq_false (by omega : ¬ (n : Int) < 12)]
      by_cases h2 : 192 < n
      · rw [if_pos h2, decide_eq_true (by omega)]; rfl
      · rw [if_neg h2, decide_eq_false (by omega : ¬ 192 < (n : Int))]
        by_cases h3 : n % 12 = 0
        · rw [decide_eq_false (fun e => e h3), if_neg (fun e => e h3)]; rfl
        · rw [decide_eq_true h3, if_pos h3]; rfl
  have HN := Lib.hid hn
  rw [← hn] at hn9 ⊢
  clear hn hxl
  go_enter Tryz.func12, Tryz.ntmps12
  go_upto_region 2 with fail
  obtain ⟨W1, hW1⟩ : ∃ v, v = World.alloc w (Obj.cells #[.int .i64 0, .int .i64 0, .int .i64 0, .int .i64 0, .int .i64 0, .int .i64 0, .int .i64 0, .int .i64 0, .int .i64 0, .int .i64 0, .int .i64 0, .int .i64 0] 30) := ⟨_, rfl⟩
  have kW1 : Below w.heap.size w W1 := by rw [hW1]; exact below_new _ _
  have iW1 : BlkI W1 (w.heap.size) 30 (List.replicate 12 0) := by rw [hW1]; exact BlkI.new w 30 (List.replicate 12 0)
  have sW1 : W1.heap.size = w.heap.size + 1 := by rw [hW1]; simp
  rw [← hW1]
  clear hW1
  obtain ⟨W2, hW2⟩ : ∃ v, v = World.alloc W1 (Obj.cells #[.int .i64 0, .int .i64 0, .int .i64 0, .int .i64 0, .int .i64 0, .int .i64 0, .int .i64 0, .int .i64 0, .int .i64 0, .int .i64 0, .int .i64 0, .int .i64 0] 30) := ⟨_, rfl⟩
  have kW2 : Below W1.heap.size W1 W2 := by rw [hW2]; exact below_new _ _
  have iW2 : BlkI W2 (w.heap.size + 1) 30 (List.replicate 12 0) := by rw [hW2, ← sW1]; exact BlkI.new W1 30 (List.replicate 12 0)
  have sW2 : W2.heap.size = w.heap.size + 1 + 1 := by rw [hW2]; simp [sW1]
  rw [← hW2]
  clear hW2
  replace iW1 := Blk.carry iW1 kW2
  have hB2 := bthen kW1 kW2
  clear kW1 kW2
  go_wp2_with fail
  refine (WhenR_any _ _ _).mono ?_
  rintro e w' ⟨rfl, rfl⟩
  go_wp2_with fail
  refine (WhenR_any _ _ _).mono ?_
  rintro e w' ⟨rfl, rfl⟩
  go_wp2_with fail
  refine (WhenR_any _ _ _).mono ?_
  rintro e w' ⟨rfl, rfl⟩
  go_wp2_with fail
  have t3 := fun a b c => FirstR_any (.slice (some ⟨W2.heap.size, 0, none⟩) 3 3) [a, b, c] (W2.alloc (Obj.cells #[Value.int IntKind.i64 a, Value.int IntKind.i64 b, Value.int IntKind.i64 c] 3)) (by simp) (Ints.lit W2 3 [a, b, c] 3 rfl)
  rw [sW2] at t3
  refine (t3 _ _ _).mono ?_
  rintro e w9 ⟨rfl, hw9⟩
  have kW3 : Below W2.heap.size W2 w9 := by rw [← hw9]; exact below_new _ _
  clear hw9 t3
  replace iW1 := Blk.carry iW1 kW3
  replace iW2 := Blk.carry iW2 kW3
  replace hB2 := bthen hB2 kW3
  rw [← HLE]
  clear kW3
  obtain ⟨Y, hY⟩ : ∃ v, v = w9 := ⟨_, rfl⟩
  rw [← hY] at iW1 iW2 hB2 ⊢
  have hYs : w.heap.size + 2 ≤ Y.heap.size := by have h9 := Blk.lt iW2; omega
  clear hY sW1 sW2 HLE
  have hz12 : zer12.length = 12 := rfl
  by_cases h0 : lenE xs.length = 0
  · rw [h0]
    have HL0 := Lib.hid h0
    obtain ⟨q1, q2, q3⟩ := lenE_zero h0
    rw [← HN.out] at q1 q2 q3
    obtain ⟨sb, so, rfl, hcs⟩ := HCS.out (by rw [← HN.out]; omega)
    have hcs' : ∀ j, j < n → w.cell? ⟨sb, so + j, none⟩ = some (.float .f32 (xs[j]?.getD 0)) := fun j hj => by
      refine hcs j _ ?_
      unfold xsV
      rw [List.getElem?_map, List.getElem?_eq_getElem (by rw [← HN.out]; exact hj)]
      rfl
    have HCE := Lib.hid hcs'
    clear hcs hcs' h0
    rw [firF_zero xs] at iW2
    have i1 : BlkI Y w.heap.size 30 zer12 := iW1
    have i2 : BlkI Y (w.heap.size + 1) 30 (upto (firF xs 0) 12) := iW2
    clear iW1 iW2
    go_wp2_with fail
    go_loopw [6] (fun i wr => ∃ k : Nat, k ≤ n ∧ i = .int .i64 k ∧ Hid (∀ j, j < k → lvE (xs[j]?.getD 0) = 0) ∧ BlkI wr w.heap.size 30 zer12 ∧ BlkI wr (w.heap.size + 1) 30 (upto (firF xs k) 12) ∧ Below w.heap.size w wr) (fun i _ => n - (intOf i).toNat)
    case atStart => exact ⟨0, by omega, rfl, Lib.hid (fun j hj => by omega), i1, i2, hB2⟩
    case round =>
      clear i1 i2 hB2
      obtain ⟨k, hk, rfl, hgood, i1, i2, hB⟩ := hrel
      by_cases hlt : k < n
      · have c0 := cellb (HCE.out k hlt) hB
        by_cases hs : smpE (xs[k]?.getD 0) = 0
        · have T1 := Lib.hid (fun W => CheckSampleR_w (xs[k]?.getD 0) W)
          rw [hs] at T1
          have T2 := Lib.hid (fun W => Sixteenths_w (xs[k]?.getD 0) hs W)
          have EE : firstE [whenE (Int.tmod (sxN (xs[k]?.getD 0)) 16 != 0) 1, withinE (sxN (xs[k]?.getD 0)) (-1600) 1600] = lvE (xs[k]?.getD 0) := by
            rw [lvE_eq]
            unfold lrE
            rw [if_neg (fun e => e hs)]
            by_cases h1 : Int.tmod (sxN (xs[k]?.getD 0)) 16 = 0
            · rw [h1, if_neg (fun e => e rfl)]; unfold withinE
              by_cases h2 : sxN (xs[k]?.getD 0) < -1600 ∨ 1600 < sxN (xs[k]?.getD 0)
              · rw [if_pos h2]; rfl
              · rw [if_neg h2]; rfl
            · rw [if_pos h1, bne_iff_ne.2 h1]; rfl
          have HEE := Lib.hid EE
          by_cases hx : lvE (xs[k]?.getD 0) = 0
          · have HG := Lib.hid (show ∀ j, j < k + 1 → lvE (xs[j]?.getD 0) = 0 from fun j hj => by
              by_cases e : j = k
              · rw [e]; exact hx
              · exact hgood.out j (by omega))
            obtain ⟨_, _, hlb, hsx⟩ := lv_ok hx
            rw [hx] at HEE
            have HSET := Lib.hid (fun hk => firF_set xs k hk)
            have HMORE := Lib.hid (fun hk : 12 ≤ k => (firF_more xs k hk).trans (firF_more xs (k + 1) (by omega)).symm)
            generalize lvN (xs[k]?.getD 0) = y at hlb hsx HSET
            generalize sxN (xs[k]?.getD 0) = sx at hsx T2 HEE
            generalize xs[k]?.getD 0 = x at c0 T1 T2
            have hq : IntKind.i64.wrap (sx.tdiv 16) = y := by rw [hsx, Int.mul_tdiv_cancel_left _ (by decide)]; exact IntWalk.i64_in _ (by omega)
            have HQ := Lib.hid hq
            clear hx hs hsx hlb EE hgood hq
            go_wp2_with fail
            refine (T1.out wr).mono ?_
            rintro e w5 ⟨rfl, hb5⟩
            replace i1 := i1.carry hb5
            replace i2 := i2.carry hb5
            replace c0 := cellb c0 hb5
            replace hB := bthen hB hb5
            clear hb5
            go_wp2_with fail
            refine (T2.out w5).mono ?_
            rintro e w6 ⟨rfl, rfl⟩
            go_wp2_with fail
            refine (WhenR_any _ _ _).mono ?_
            rintro e w' ⟨rfl, rfl⟩
            go_wp2_with fail
            refine (CheckRange_any _ _ _ _).mono ?_
            rintro e w' ⟨rfl, rfl⟩
            go_wp2_with fail
            have t2 := fun a b => FirstR_any (.slice (some ⟨w5.heap.size, 0, none⟩) 2 2) [a, b] (w5.alloc (Obj.cells #[Value.int IntKind.i64 a, Value.int IntKind.i64 b] 3)) (by simp) (Ints.lit w5 3 [a, b] 2 rfl)
            refine (t2 _ _).mono ?_
            rintro e w9 ⟨rfl, hw9⟩
            have kW3 : Below w5.heap.size w5 w9 := by rw [← hw9]; exact below_new _ _
            clear hw9 t2 T1 T2
            replace i1 := i1.carry kW3
            replace i2 := i2.carry kW3
            replace hB := bthen hB kW3
            clear kW3 c0
            rw [HEE.out]
            by_cases hk12 : k < 12
            · have d12 : (k : Int) < 12 := by omega
              have c5 := BlkI.cell i2 (j := k) (by rw [upto_length]; exact hk12)
              have f5 := Blk.frozen i2 k
              generalize (upto (firF xs k) 12)[k]?.getD 0 = old at c5
              have hq := HQ.out
              go_wp2_with fail
              have i2' := BlkI.set i2 k y
              rw [HSET.out hk12] at i2'
              go_roundw
              case rel => exact ⟨k + 1, by omega, by go_num, HG, i1.other (B' := w.heap.size + 1) (j := k) (by omega) _, i2', hB.setCell (by simp) _⟩
              case measure => simp [intOf]; omega
            · have d12 : ¬ (k : Int) < 12 := by omega
              go_wp2_with fail
              rw [HMORE.out (by omega)] at i2
              go_roundw
              case rel => exact ⟨k + 1, by omega, by go_num, HG, i1, i2, hB⟩
              case measure => simp [intOf]; omega
          · obtain ⟨r1, r2⟩ := rec_bad HL0.out k (by rw [← HN.out]; exact hlt) hgood.out hx
            have HR1 := Lib.hid r1
            have HR2 := Lib.hid r2
            obtain ⟨E, hE⟩ : ∃ E, E = lvE (xs[k]?.getD 0) := ⟨_, rfl⟩
            rw [← hE] at hx HEE HR1
            have hz : (E != 0) = true := by rw [bne_iff_ne]; exact hx
            clear r1 r2 hE hx EE hgood hs
            generalize sxN (xs[k]?.getD 0) = sx at T2 HEE
            generalize xs[k]?.getD 0 = x at c0 T1 T2
            go_wp2_with fail
            refine (T1.out wr).mono ?_
            rintro e w5 ⟨rfl, hb5⟩
            replace i1 := i1.carry hb5
            replace c0 := cellb c0 hb5
            replace hB := bthen hB hb5
            clear hb5 i2
            go_wp2_with fail
            refine (T2.out w5).mono ?_
            rintro e w6 ⟨rfl, rfl⟩
            go_wp2_with fail
            refine (WhenR_any _ _ _).mono ?_
            rintro e w' ⟨rfl, rfl⟩
            go_wp2_with fail
            refine (CheckRange_any _ _ _ _).mono ?_
            rintro e w' ⟨rfl, rfl⟩
            go_wp2_with fail
            have t2 := fun a b => FirstR_any (.slice (some ⟨w5.heap.size, 0, none⟩) 2 2) [a, b] (w5.alloc (Obj.cells #[Value.int IntKind.i64 a, Value.int IntKind.i64 b] 3)) (by simp) (Ints.lit w5 3 [a, b] 2 rfl)
            refine (t2 _ _).mono ?_
            rintro e w9 ⟨rfl, hw9⟩
            have kW3 : Below w5.heap.size w5 w9 := by rw [← hw9]; exact below_new _ _
            clear hw9 t2 T1 T2
            replace i1 := i1.carry kW3
            replace hB := bthen hB kW3
            clear kW3 c0
            rw [HEE.out]
            go_wp2_with (refine wpList_storeA rfl _ _ _ rfl w.heap.size zer12 zer12 rfl rfl i1 rfl Tryz.infoA12 ?_)
            have m0 := BlkI.setRowA i1 zer12
            have hld9 := Tryz.loadVar12 hz12 m0
            exact bodyPost_ret (v := .tuple #[.agg (ia zer12), .int .i64 E]) (results_cell_tmp (p := 2) (q := 3) rfl _ _ w.heap.size _ rfl _ rfl hld9) rfl ⟨by rw [HR1.out, HR2.out], below_rowA hB (Nat.le_refl _) _⟩
        · obtain ⟨r1, r2⟩ := rec_bad HL0.out k (by rw [← HN.out]; exact hlt) hgood.out (by unfold lvE; rw [if_pos hs]; exact hs)
          have hle : lvE (xs[k]?.getD 0) = smpE (xs[k]?.getD 0) := by unfold lvE; rw [if_pos hs]
          rw [hle] at r1
          have HR1 := Lib.hid r1
          have HR2 := Lib.hid r2
          have T1 := Lib.hid (fun W => CheckSampleR_w (xs[k]?.getD 0) W)
          obtain ⟨E, hE⟩ : ∃ E, E = smpE (xs[k]?.getD 0) := ⟨_, rfl⟩
          rw [← hE] at hs T1 HR1
          have hz : (E != 0) = true := by rw [bne_iff_ne]; exact hs
          clear r1 r2 hE hs hle hgood
          generalize xs[k]?.getD 0 = x at c0 T1
          go_wp2_with fail
          refine (T1.out wr).mono ?_
          rintro e w5 ⟨rfl, hb5⟩
          replace i1 := i1.carry hb5
          replace hB := bthen hB hb5
          clear hb5 c0 i2
          go_wp2_with (refine wpList_storeA rfl _ _ _ rfl w.heap.size zer12 zer12 rfl rfl i1 rfl Tryz.infoA12 ?_)
          have m0 := BlkI.setRowA i1 zer12
          have hld9 := Tryz.loadVar12 hz12 m0
          exact bodyPost_ret (v := .tuple #[.agg (ia zer12), .int .i64 E]) (results_cell_tmp (p := 2) (q := 3) rfl _ _ w.heap.size _ rfl _ rfl hld9) rfl ⟨by rw [HR1.out, HR2.out], below_rowA hB (Nat.le_refl _) _⟩
      · obtain rfl : k = n := by omega
        have HGA := Lib.hid (show ∀ j, j < xs.length → lvE (xs[j]?.getD 0) = 0 by rw [← HN.out]; exact hgood.out)
        obtain ⟨c, hc⟩ : ∃ c, k = 12 * c := ⟨k / 12, by omega⟩
        have HC := Lib.hid hc
        have hc0 : 0 < c := by omega
        rw [firF_more xs k q1, firF_all (by rw [← HN.out]; exact q1)] at i2
        clear hgood hc
        go_wp2_with fail
        go_loopw [10] (fun i wr => ∃ k2 : Nat, k2 ≤ k ∧ i = .int .i64 k2 ∧ Hid (∀ j, j < k2 → lvN (xs[j]?.getD 0) = lvN (xs[j % 12]?.getD 0)) ∧ BlkI wr w.heap.size 30 zer12 ∧ BlkI wr (w.heap.size + 1) 30 (chL (lvL xs) 0) ∧ Below w.heap.size w wr) (fun i _ => k - (intOf i).toNat)
        case atStart => exact ⟨0, by omega, rfl, Lib.hid (fun j hj => by omega), i1, i2, hB⟩
        case round =>
          clear i1 i2 hB
          obtain ⟨k2, hk2, rfl, hsame, i1, i2, hB⟩ := hrel
          by_cases hlt2 : k2 < k
          · have c0 := cellb (HCE.out k2 hlt2) hB
            have hx := HGA.out k2 (by rw [← HN.out]; exact hlt2)
            obtain ⟨hs, _, hlb, hsx⟩ := lv_ok hx
            have hx2 := HGA.out (k2 % 12) (by rw [← HN.out]; omega)
            obtain ⟨_, _, hlb2, _⟩ := lv_ok hx2
            have T2 := Lib.hid (fun W => Sixteenths_w (xs[k2]?.getD 0) hs W)
            have c1 : wr.cell? ⟨w.heap.size + 1, k2 % 12, none⟩ = some (.int .i64 (lvN (xs[k2 % 12]?.getD 0))) := by
              have h9 := BlkI.cell i2 (j := k2 % 12) (by rw [chL_len]; omega)
              rw [chL_at _ _ _ (by omega), lvL_at xs _ (by rw [← HN.out]; omega)] at h9
              rw [Nat.mul_zero, Nat.zero_add] at h9
              exact h9
            have htm : Int.tmod (k2 : Int) 12 = ((k2 % 12 : Nat) : Int) := by rw [Int.tmod_eq_emod_of_nonneg (by omega)]; omega
            have hm12 : ((k2 % 12 : Nat) : Int) < 12 := by omega
            rw [hsx] at T2
            by_cases he : lvN (xs[k2]?.getD 0) = lvN (xs[k2 % 12]?.getD 0)
            · have HS2 := Lib.hid (show ∀ j, j < k2 + 1 → lvN (xs[j]?.getD 0) = lvN (xs[j % 12]?.getD 0) from fun j hj => by
                by_cases e : j = k2
                · rw [e]; exact he
                · exact hsame.out j (by omega))
              rw [he] at T2
              generalize lvN (xs[k2 % 12]?.getD 0) = y2 at c1 T2 hlb2
              have hw2 : IntKind.i64.wrap (16 * y2) = 16 * y2 := IntWalk.i64_in _ (by omega)
              generalize xs[k2]?.getD 0 = x at c0 T2
              clear hx hs hlb hsx hx2 hlb2 he hsame
              generalize k2 % 12 = m at c1 htm hm12
              go_upto_region 20 with fail
              refine wp_region_E 99 (by kernel_rfl) ?_
              obtain ⟨wz, hwz⟩ : ∃ v, v = wr.drew := ⟨_, rfl⟩
              rw [← hwz]
              have hlz : Below wr.heap.size wr wz := by rw [hwz]; exact (Below.refl _ _).drew
              have hbz := bthen hB hlz
              have c0 := cellb c0 hlz
              have c1 := cellb c1 hlz
              have i1 := i1.carry hlz
              have i2 := i2.carry hlz
              clear hwz hlz
              refine wpAnyE_take (i := 0) (oi := { dst := some 74, op := Op.move (Operand.tmp 0), type := 27, pos := "ref.go:470", after := #[], guard := none }) (v := ?_) rfl (by kernel_rfl) (by kernel_rfl) (by kernel_rfl) (by kernel_rfl) (fun _ _ _ h => h) (Or.inl ⟨by rfl, ?_⟩) ?_
              rotate_left
              · (intro w hE; have c0 := cellb c0 hE; have c1 := cellb c1 hE; (try dsimp only); go_simp); (try with_reducible rfl)
              try simp only [Act.put, List.setIfInBounds_toArray, List.set_cons_zero, List.set_cons_succ]
              refine wpAnyE_take (i := 1) (oi := { dst := some 75, op := Op.move (Operand.tmp 10), type := 3, pos := "ref.go:470", after := #[], guard := none }) (v := ?_) rfl (by kernel_rfl) (by kernel_rfl) (by kernel_rfl) (by kernel_rfl) (fun _ _ _ h => h) (Or.inl ⟨by rfl, ?_⟩) ?_
              rotate_left
              · (intro w hE; have c0 := cellb c0 hE; have c1 := cellb c1 hE; (try dsimp only); go_simp); (try with_reducible rfl)
              try simp only [Act.put, List.setIfInBounds_toArray, List.set_cons_zero, List.set_cons_succ]
              refine wpAnyE_take (i := 2) (oi := { dst := some 76, op := Op.indexAddr 27 (Operand.tmp 74) (Operand.tmp 75), type := 0, pos := "ref.go:470", after := #[{ on := 0, ground := Ground.data }, { on := 1, ground := Ground.data }], guard := none }) (v := ?_) rfl (by kernel_rfl) (by kernel_rfl) (by kernel_rfl) (by kernel_rfl) (fun _ _ _ h => h) (Or.inl ⟨by rfl, ?_⟩) ?_
              rotate_left
              · (intro w hE; have c0 := cellb c0 hE; have c1 := cellb c1 hE; (try dsimp only); go_simp); (try with_reducible rfl)
              try simp only [Act.put, List.setIfInBounds_toArray, List.set_cons_zero, List.set_cons_succ]
              refine wpAnyE_take (i := 3) (oi := { dst := some 77, op := Op.load 99 (Operand.tmp 76), type := 99, pos := "ref.go:470", after := #[{ on := 2, ground := Ground.data }], guard := none }) (v := ?_) rfl (by kernel_rfl) (by kernel_rfl) (by kernel_rfl) (by kernel_rfl) (fun _ _ _ h => h) (Or.inl ⟨by rfl, ?_⟩) ?_
              rotate_left
              · (intro w hE; have c0 := cellb c0 hE; have c1 := cellb c1 hE; (try dsimp only); go_simp); (try with_reducible rfl)
              try simp only [Act.put, List.setIfInBounds_toArray, List.set_cons_zero, List.set_cons_succ]
              refine wpAnyE_take (i := 5) (oi := { dst := some 79, op := Op.move (Operand.tmp 10), type := 3, pos := "ref.go:470", after := #[], guard := none }) (v := ?_) rfl (by kernel_rfl) (by kernel_rfl) (by kernel_rfl) (by kernel_rfl) (fun _ _ _ h => h) (Or.inl ⟨by rfl, ?_⟩) ?_
              rotate_left
              · (intro w hE; have c0 := cellb c0 hE; have c1 := cellb c1 hE; (try dsimp only); go_simp); (try with_reducible rfl)
              try simp only [Act.put, List.setIfInBounds_toArray, List.set_cons_zero, List.set_cons_succ]
              refine wpAnyE_take (i := 6) (oi := { dst := some 80, op := Op.binOp BinOp.rem 3 (Operand.tmp 79) (Operand.const (Value.int IntKind.i64 12)) 3, type := 3, pos := "ref.go:470", after := #[{ on := 5, ground := Ground.data }], guard := none }) (v := ?_) rfl (by kernel_rfl) (by kernel_rfl) (by kernel_rfl) (by kernel_rfl) (fun _ _ _ h => h) (Or.inl ⟨by rfl, ?_⟩) ?_
              rotate_left
              · (intro w hE; have c0 := cellb c0 hE; have c1 := cellb c1 hE; (try dsimp only); go_simp); (try with_reducible rfl)
              try simp only [Act.put, List.setIfInBounds_toArray, List.set_cons_zero, List.set_cons_succ]
              refine wpAnyE_take (i := 7) (oi := { dst := some 81, op := Op.indexAddr 30 (Operand.tmp 4) (Operand.tmp 80), type := 0, pos := "ref.go:470", after := #[{ on := 6, ground := Ground.data }], guard := none }) (v := ?_) rfl (by kernel_rfl) (by kernel_rfl) (by kernel_rfl) (by kernel_rfl) (fun _ _ _ h => h) (Or.inl ⟨by rfl, ?_⟩) ?_
              rotate_left
              · (intro w hE; have c0 := cellb c0 hE; have c1 := cellb c1 hE; (try dsimp only); go_simp); (try with_reducible rfl)
              try simp only [Act.put, List.setIfInBounds_toArray, List.set_cons_zero, List.set_cons_succ]
              refine wpAnyE_take (i := 8) (oi := { dst := some 82, op := Op.load 3 (Operand.tmp 81), type := 3, pos := "ref.go:470", after := #[{ on := 7, ground := Ground.data }], guard := none }) (v := ?_) rfl (by kernel_rfl) (by kernel_rfl) (by kernel_rfl) (by kernel_rfl) (fun _ _ _ h => h) (Or.inl ⟨by rfl, ?_⟩) ?_
              rotate_left
              · (intro w hE; have c0 := cellb c0 hE; have c1 := cellb c1 hE; (try dsimp only); go_simp); (try with_reducible rfl)
              try simp only [Act.put, List.setIfInBounds_toArray, List.set_cons_zero, List.set_cons_succ]
              refine wpAnyE_take (i := 9) (oi := { dst := some 83, op := Op.binOp BinOp.mul 3 (Operand.const (Value.int IntKind.i64 16)) (Operand.tmp 82) 3, type := 3, pos := "ref.go:470", after := #[{ on := 8, ground := Ground.data }], guard := none }) (v := ?_) rfl (by kernel_rfl) (by kernel_rfl) (by kernel_rfl) (by kernel_rfl) (fun _ _ _ h => h) (Or.inl ⟨by rfl, ?_⟩) ?_
              rotate_left
              · (intro w hE; have c0 := cellb c0 hE; have c1 := cellb c1 hE; (try dsimp only); go_simp); (try with_reducible rfl)
              try simp only [Act.put, List.setIfInBounds_toArray, List.set_cons_zero, List.set_cons_succ]
              refine wpAnyE_call (i := 4) (oi := { dst := some 78, op := Op.call { callee := Callee.value (Operand.func 53), args := #[Operand.tmp 77], argTypes := #[99] }, type := 3, pos := "ref.go:470", after := #[{ on := 3, ground := Ground.data }], guard := none }) (fun w hE => ofPure (T2.out w)) rfl (by kernel_rfl) (by kernel_rfl) (by kernel_rfl) (by kernel_rfl) (fun _ _ _ h => h) (by rfl) (fun w hE => by (try dsimp only); go_simp) ?_
              try simp only [Act.put, List.setIfInBounds_toArray, List.set_cons_zero, List.set_cons_succ]
              refine wpAnyE_take (i := 10) (oi := { dst := some 84, op := Op.binOp BinOp.neq 3 (Operand.tmp 78) (Operand.tmp 83) 3, type := 4, pos := "ref.go:470", after := #[{ on := 4, ground := Ground.data }, { on := 9, ground := Ground.data }], guard := none }) (v := ?_) rfl (by kernel_rfl) (by kernel_rfl) (by kernel_rfl) (by kernel_rfl) (fun _ _ _ h => h) (Or.inl ⟨by rfl, ?_⟩) ?_
              rotate_left
              · (intro w hE; have c0 := cellb c0 hE; have c1 := cellb c1 hE; (try dsimp only); go_simp); (try with_reducible rfl)
              try simp only [Act.put, List.setIfInBounds_toArray, List.set_cons_zero, List.set_cons_succ]
              refine wpAnyE_done (by kernel_rfl) (fun wy1 hE => ?_) _
              have hbz1 := bthen hbz hE
              have c0 := cellb c0 hE
              have c1 := cellb c1 hE
              have i1 := i1.carry hE
              have i2 := i2.carry hE
              clear hE
              have hB := hbz1
              go_wp2_with fail
              go_roundw
              · exact ⟨k2 + 1, by omega, by go_num, HS2, i1, i2, hB⟩
              · simp [intOf]; omega
            · obtain ⟨r1, r2⟩ := rec_conf c (by rw [← HN.out]; exact HC.out) HL0.out HGA.out (k2 / 12) (by have := HC.out; omega) (fun e => he (by
                have h2 := congrArg (fun l : List Int => l[k2 % 12]?.getD 0) e
                rw [chL_at _ _ _ (by omega), chL_at _ _ _ (by omega), show 12 * (k2 / 12) + k2 % 12 = k2 by omega, show 12 * 0 + k2 % 12 = k2 % 12 by omega, lvL_at xs _ (by rw [← HN.out]; omega), lvL_at xs _ (by rw [← HN.out]; omega)] at h2
                exact h2))
              have HR1 := Lib.hid r1
              have HR2 := Lib.hid r2
              generalize lvN (xs[k2 % 12]?.getD 0) = y2 at c1 T2 hlb2 he
              generalize lvN (xs[k2]?.getD 0) = y at T2 hlb he
              have hz : (16 * y != 16 * y2) = true := by rw [bne_iff_ne]; omega
              generalize xs[k2]?.getD 0 = x at c0 T2
              obtain ⟨M, hM⟩ : ∃ M, M = 16 * y := ⟨_, rfl⟩
              obtain ⟨M2, hM2⟩ : ∃ M, M = 16 * y2 := ⟨_, rfl⟩
              have hw2 : IntKind.i64.wrap (16 * y2) = M2 := by rw [hM2]; exact IntWalk.i64_in _ (by omega)
              rw [← hM] at T2
              rw [← hM, ← hM2] at hz
              clear hx hs hlb hsx hx2 hlb2 he hsame r1 r2 hM hM2
              generalize k2 % 12 = m at c1 htm hm12
              go_upto_region 20 with fail
              refine wp_region_E 99 (by kernel_rfl) ?_
              obtain ⟨wz, hwz⟩ : ∃ v, v = wr.drew := ⟨_, rfl⟩
              rw [← hwz]
              have hlz : Below wr.heap.size wr wz := by rw [hwz]; exact (Below.refl _ _).drew
              have hbz := bthen hB hlz
              have c0 := cellb c0 hlz
              have c1 := cellb c1 hlz
              have i1 := i1.carry hlz
              have i2 := i2.carry hlz
              clear hwz hlz
              refine wpAnyE_take (i := 0) (oi := { dst := some 74, op := Op.move (Operand.tmp 0), type := 27, pos := "ref.go:470", after := #[], guard := none }) (v := ?_) rfl (by kernel_rfl) (by kernel_rfl) (by kernel_rfl) (by kernel_rfl) (fun _ _ _ h => h) (Or.inl ⟨by rfl, ?_⟩) ?_
              rotate_left
              · (intro w hE; have c0 := cellb c0 hE; have c1 := cellb c1 hE; (try dsimp only); go_simp); (try with_reducible rfl)
              try simp only [Act.put, List.setIfInBounds_toArray, List.set_cons_zero, List.set_cons_succ]
              refine wpAnyE_take (i := 1) (oi := { dst := some 75, op := Op.move (Operand.tmp 10), type := 3, pos := "ref.go:470", after := #[], guard := none }) (v := ?_) rfl (by kernel_rfl) (by kernel_rfl) (by kernel_rfl) (by kernel_rfl) (fun _ _ _ h => h) (Or.inl ⟨by rfl, ?_⟩) ?_
              rotate_left
              · (intro w hE; have c0 := cellb c0 hE; have c1 := cellb c1 hE; (try dsimp only); go_simp); (try with_reducible rfl)
              try simp only [Act.put, List.setIfInBounds_toArray, List.set_cons_zero, List.set_cons_succ]
              refine wpAnyE_take (i := 2) (oi := { dst := some 76, op := Op.indexAddr 27 (Operand.tmp 74) (Operand.tmp 75), type := 0, pos := "ref.go:470", after := #[{ on := 0, ground := Ground.data }, { on := 1, ground := Ground.data }], guard := none }) (v := ?_) rfl (by kernel_rfl) (by kernel_rfl) (by kernel_rfl) (by kernel_rfl) (fun _ _ _ h => h) (Or.inl ⟨by rfl, ?_⟩) ?_
              rotate_left
              · (intro w hE; have c0 := cellb c0 hE; have c1 := cellb c1 hE; (try dsimp only); go_simp); (try with_reducible rfl)
              try simp only [Act.put, List.setIfInBounds_toArray, List.set_cons_zero, List.set_cons_succ]
              refine wpAnyE_take (i := 3) (oi := { dst := some 77, op := Op.load 99 (Operand.tmp 76), type := 99, pos := "ref.go:470", after := #[{ on := 2, ground := Ground.data }], guard := none }) (v := ?_) rfl (by kernel_rfl) (by kernel_rfl) (by kernel_rfl) (by kernel_rfl) (fun _ _ _ h => h) (Or.inl ⟨by rfl, ?_⟩) ?_
              rotate_left
              · (intro w hE; have c0 := cellb c0 hE; have c1 := cellb c1 hE; (try dsimp only); go_simp); (try with_reducible rfl)
              try simp only [Act.put, List.setIfInBounds_toArray, List.set_cons_zero, List.set_cons_succ]
              refine wpAnyE_take (i := 5) (oi := { dst := some 79, op := Op.move (Operand.tmp 10), type := 3, pos := "ref.go:470", after := #[], guard := none }) (v := ?_) rfl (by kernel_rfl) (by kernel_rfl) (by kernel_rfl) (by kernel_rfl) (fun _ _ _ h => h) (Or.inl ⟨by rfl, ?_⟩) ?_
              rotate_left
              · (intro w hE; have c0 := cellb c0 hE; have c1 := cellb c1 hE; (try dsimp only); go_simp); (try with_reducible rfl)
              try simp only [Act.put, List.setIfInBounds_toArray, List.set_cons_zero, List.set_cons_succ]
              refine wpAnyE_take (i := 6) (oi := { dst := some 80, op := Op.binOp BinOp.rem 3 (Operand.tmp 79) (Operand.const (Value.int IntKind.i64 12)) 3, type := 3, pos := "ref.go:470", after := #[{ on := 5, ground := Ground.data }], guard := none }) (v := ?_) rfl (by kernel_rfl) (by kernel_rfl) (by kernel_rfl) (by kernel_rfl) (fun _ _ _ h => h) (Or.inl ⟨by rfl, ?_⟩) ?_
              rotate_left
              · (intro w hE; have c0 := cellb c0 hE; have c1 := cellb c1 hE; (try dsimp only); go_simp); (try with_reducible rfl)
              try simp only [Act.put, List.setIfInBounds_toArray, List.set_cons_zero, List.set_cons_succ]
              refine wpAnyE_take (i := 7) (oi := { dst := some 81, op := Op.indexAddr 30 (Operand.tmp 4) (Operand.tmp 80), type := 0, pos := "ref.go:470", after := #[{ on := 6, ground := Ground.data }], guard := none }) (v := ?_) rfl (by kernel_rfl) (by kernel_rfl) (by kernel_rfl) (by kernel_rfl) (fun _ _ _ h => h) (Or.inl ⟨by rfl, ?_⟩) ?_
              rotate_left
              · (intro w hE; have c0 := cellb c0 hE; have c1 := cellb c1 hE; (try dsimp only); go_simp); (try with_reducible rfl)
              try simp only [Act.put, List.setIfInBounds_toArray, List.set_cons_zero, List.set_cons_succ]
              refine wpAnyE_take (i := 8) (oi := { dst := some 82, op := Op.load 3 (Operand.tmp 81), type := 3, pos := "ref.go:470", after := #[{ on := 7, ground := Ground.data }], guard := none }) (v := ?_) rfl (by kernel_rfl) (by kernel_rfl) (by kernel_rfl) (by kernel_rfl) (fun _ _ _ h => h) (Or.inl ⟨by rfl, ?_⟩) ?_
              rotate_left
              · (intro w hE; have c0 := cellb c0 hE; have c1 := cellb c1 hE; (try dsimp only); go_simp); (try with_reducible rfl)
              try simp only [Act.put, List.setIfInBounds_toArray, List.set_cons_zero, List.set_cons_succ]
              refine wpAnyE_take (i := 9) (oi := { dst := some 83, op := Op.binOp BinOp.mul 3 (Operand.const (Value.int IntKind.i64 16)) (Operand.tmp 82) 3, type := 3, pos := "ref.go:470", after := #[{ on := 8, ground := Ground.data }], guard := none }) (v := ?_) rfl (by kernel_rfl) (by kernel_rfl) (by kernel_rfl) (by kernel_rfl) (fun _ _ _ h => h) (Or.inl ⟨by rfl, ?_⟩) ?_
              rotate_left
              · (intro w hE; have c0 := cellb c0 hE; have c1 := cellb c1 hE; (try dsimp only); go_simp); (try with_reducible rfl)
              try simp only [Act.put, List.setIfInBounds_toArray, List.set_cons_zero, List.set_cons_succ]
              refine wpAnyE_call (i := 4) (oi := { dst := some 78, op := Op.call { callee := Callee.value (Operand.func 53), args := #[Operand.tmp 77], argTypes := #[99] }, type := 3, pos := "ref.go:470", after := #[{ on := 3, ground := Ground.data }], guard := none }) (fun w hE => ofPure (T2.out w)) rfl (by kernel_rfl) (by kernel_rfl) (by kernel_rfl) (by kernel_rfl) (fun _ _ _ h => h) (by rfl) (fun w hE => by (try dsimp only); go_simp) ?_
              try simp only [Act.put, List.setIfInBounds_toArray, List.set_cons_zero, List.set_cons_succ]
              refine wpAnyE_take (i := 10) (oi := { dst := some 84, op := Op.binOp BinOp.neq 3 (Operand.tmp 78) (Operand.tmp 83) 3, type := 4, pos := "ref.go:470", after := #[{ on := 4, ground := Ground.data }, { on := 9, ground := Ground.data }], guard := none }) (v := ?_) rfl (by kernel_rfl) (by kernel_rfl) (by kernel_rfl) (by kernel_rfl) (fun _ _ _ h => h) (Or.inl ⟨by rfl, ?_⟩) ?_
              rotate_left
              · (intro w hE; have c0 := cellb c0 hE; have c1 := cellb c1 hE; (try dsimp only); go_simp); (try with_reducible rfl)
              try simp only [Act.put, List.setIfInBounds_toArray, List.set_cons_zero, List.set_cons_succ]
              refine wpAnyE_done (by kernel_rfl) (fun wy1 hE => ?_) _
              have hbz1 := bthen hbz hE
              have c0 := cellb c0 hE
              have c1 := cellb c1 hE
              have i1 := i1.carry hE
              have i2 := i2.carry hE
              clear hE
              have hB := hbz1
              obtain ⟨W9, hW9⟩ : ∃ v, v = wy1 := ⟨_, rfl⟩
              rw [← hW9] at hB i1 ⊢
              clear hW9 i2 c0 c1
              go_wp2_with (refine wpList_storeA rfl _ _ _ rfl w.heap.size zer12 zer12 rfl rfl i1 rfl Tryz.infoA12 ?_)
              have m0 := BlkI.setRowA i1 zer12
              have hld9 := Tryz.loadVar12 hz12 m0
              exact bodyPost_ret (v := .tuple #[.agg (ia zer12), .int .i64 24]) (results_cell_tmp (p := 2) (q := 3) rfl _ _ w.heap.size _ rfl _ rfl hld9) rfl ⟨by rw [HR1.out, HR2.out], below_rowA hB (Nat.le_refl _) _⟩
          · obtain rfl : k2 = k := by omega
            obtain ⟨r1, r2⟩ := rec_same c hc0 (by rw [← HN.out]; exact HC.out) HL0.out HGA.out (fun q hq => List.ext_getElem? fun j => by
              by_cases hj : j < 12
              · have h2 := hsame.out (12 * q + j) (by have := HC.out; omega)
                rw [show (12 * q + j) % 12 = j by omega, ← lvL_at xs _ (by have := HC.out; rw [← HN.out]; omega), ← lvL_at xs _ (by rw [← HN.out]; omega)] at h2
                simp [chL, hj, h2]
              · rw [List.getElem?_eq_none (by rw [chL_len]; omega), List.getElem?_eq_none (by rw [chL_len]; omega)])
            have HR1 := Lib.hid r1
            have HR2 := Lib.hid r2
            have hll := chL_len (lvL xs) 0
            generalize chL (lvL xs) 0 = l at i2 HR2 hll
            clear r1 r2 hsame
            have hld := load12 hll i2
            go_wp2_with (first | (refine wpList_load rfl _ _ rfl hld ?_) | (refine wpList_storeA rfl _ _ _ rfl w.heap.size l zer12 rfl rfl i1 (by rw [hll]; rfl) (by rw [hll]; exact Tryz.infoA12) ?_))
            have m0 := BlkI.setRowA i1 l
            have hld9 := Tryz.loadVar12 hll m0
            exact bodyPost_ret (v := .tuple #[.agg (ia l), .int .i64 0]) (results_cell_tmp (p := 2) (q := 3) rfl _ _ w.heap.size _ rfl _ rfl hld9) rfl ⟨by rw [HR1.out, HR2.out], below_rowA hB (Nat.le_refl _) _⟩
  · obtain ⟨r1, r2⟩ := rec_len h0
    have HR1 := Lib.hid r1
    have HR2 := Lib.hid r2
    obtain ⟨E, hE⟩ : ∃ E, E = lenE xs.length := ⟨_, rfl⟩
    rw [← hE] at h0 HR1 ⊢
    have hz : (E != 0) = true := by rw [bne_iff_ne]; exact h0
    clear r1 r2 hE h0
    have hld := load12 (l := zer12) hz12 iW2
    go_wp2_with (first | (refine wpList_load rfl _ _ rfl hld ?_) | (refine wpList_storeA rfl _ _ _ rfl w.heap.size zer12 zer12 rfl rfl iW1 rfl Tryz.infoA12 ?_))
    have m0 := BlkI.setRowA iW1 zer12
    have hld9 := Tryz.loadVar12 hz12 m0
    exact bodyPost_ret (v := .tuple #[.agg (ia zer12), .int .i64 E]) (results_cell_tmp (p := 2) (q := 3) rfl _ _ w.heap.size _ rfl _ rfl hld9) rfl ⟨by rw [HR1.out, HR2.out], below_rowA hB2 (Nat.le_refl _) _⟩

set_option maxRecDepth 100000 in
set_option maxHeartbeats 1000000 in
/-- the record of a valid pattern, at any number of periods. -/
theorem Record_w (l : List Int) (c : Int) (w : World) (hl : l.length = 12) (hp : patE l = 0) :
    Calls Tryz.prog 13 #[.agg (ia l), .int .i64 c] w fun r w' => (∃ u, r = .returned (.tuple #[u, .int .i64 (withinE c 1 16)]) ∧ Vals w' u (if withinE c 1 16 = 0 then reps c.toNat (l.map flV) else [])) ∧ Below w.heap.size w w' := by
  by_cases h0 : withinE c 1 16 = 0
  · have hc : 1 ≤ c ∧ c ≤ 16 := by
      unfold withinE at h0
      by_cases h : c < 1 ∨ 16 < c
      · rw [if_pos h] at h0; cases h0
      · omega
    obtain ⟨k, rfl⟩ : ∃ k : Nat, c = k := ⟨c.toNat, by omega⟩
    refine (Record_ok l k w hl hp (by omega) (by omega)).mono ?_
    rintro r w' ⟨⟨g, rfl, hg⟩, hb⟩
    refine ⟨⟨_, by rw [h0], ?_⟩, hb⟩
    rw [if_pos h0]
    have hn := reps_len k (l.map flV) (by rw [List.length_map, hl])
    have e1 : ((k : Int)).toNat = k := by omega
    rw [e1]
    refine ⟨some ⟨g, 0, none⟩, 12 * k, by rw [hn], by omega, fun _ => ⟨g, 0, rfl, fun j u hj => by rw [Nat.zero_add]; exact Blk.cell hg hj⟩⟩
  · have TP := Lib.hid (fun W => checkPattern_any l W hl)
    rw [hp] at TP
    have TW := Lib.hid (withinH_any c 1 16)
    have HV := Lib.hid (show (if withinE c 1 16 = 0 then reps c.toNat (l.map flV) else []) = [] by rw [if_neg h0])
    obtain ⟨E, hE⟩ : ∃ E, E = withinE c 1 16 := ⟨_, rfl⟩
    rw [HV.out]
    rw [← hE] at TW h0 ⊢
    have T2 := Lib.hid (first2H 0 E 31)
    have hz : (E != 0) = true := by rw [bne_iff_ne]; exact h0
    have hF := Lib.hid (show firstE [0, E] = E by show (if (0 : Int) = 0 then (if E = 0 then 0 else E) else 0) = E; rw [if_pos rfl, if_neg h0])
    clear hE hp h0 HV
    go_enter Tryz.func13, Tryz.ntmps13
    go_upto_region 1 with fail
    obtain ⟨W1, hW1⟩ : ∃ W, W = w.alloc (.cells (ia l) 30) := ⟨_, rfl⟩
    have kW1 : Below w.heap.size w W1 := by rw [hW1]; exact below_new _ _
    have iW1 : BlkI W1 w.heap.size 30 l := by rw [hW1]; exact BlkI.new _ _ _
    rw [← hW1]
    clear hW1
    have hld := load12 hl iW1
    go_wp2_with (refine wpList_load rfl _ _ rfl hld ?_)
    refine (TP.out W1).mono ?_
    rintro e w2 ⟨rfl, hb2⟩
    clear hld iW1
    replace kW1 := bthen kW1 hb2
    clear hb2
    go_wp2_with fail
    refine (TW.out w2).mono ?_
    rintro e w' ⟨rfl, rfl⟩
    go_wp2_with fail
    obtain ⟨W3, hW3⟩ : ∃ v, v = World.alloc w2 (Obj.cells #[.int .i64 0, .int .i64 E] 31) := ⟨_, rfl⟩
    have hb3 : Below w2.heap.size w2 W3 := by rw [hW3]; exact below_new _ _
    refine (T2.out w2).mono ?_
    rintro e w9 ⟨rfl, hw9⟩
    obtain rfl : W3 = w9 := hW3.trans hw9
    clear hW3 hw9
    replace kW1 := bthen kW1 hb3
    clear hb3
    rw [hF.out]
    go_wp2
    go_ret2
    exact ⟨⟨_, rfl, none, 0, rfl, Nat.le_refl _, fun h => by simp at h⟩, kW1⟩
end

section
set_option linter.unusedSimpArgs false
set_option linter.unusedVariables false
open Go.RowKit Flp

set_option maxRecDepth 100000 in
set_option maxHeartbeats 2000000 in
theorem RecordR_w (l : List Int) (c : Nat) (w : World) (hl : l.length = 12) (hc : c ≤ 16) :
    Calls Tryz.prog 15 #[.agg (ia l), .int .i64 (c : Int)] w fun r w' => (∃ u, r = .returned u ∧ Vals w' u (reps c (l.map flV))) ∧ Below w.heap.size w w' := by
  obtain ⟨i0, hi, hz0, hz1, hz2⟩ := info_parts Tryz.infoF32
  have HI := Lib.hid hi
  clear hi
  have hxl : (l.map flV).length = 12 := by rw [List.length_map, hl]
  have HXL := Lib.hid hxl
  have HRL := Lib.hid (fun k => reps_len k (l.map flV) hxl)
  have HL := Lib.hid hl
  clear hxl
  go_enter Tryz.func15, Tryz.ntmps15
  go_upto_region 2 with fail
  obtain ⟨W1, hW1⟩ : ∃ W, W = w.alloc (.cells (ia l) 30) := ⟨_, rfl⟩
  have kW1 : Below w.heap.size w W1 := by rw [hW1]; exact below_new _ _
  have iW1 : BlkI W1 w.heap.size 30 l := by rw [hW1]; exact BlkI.new _ _ _
  have sW1 : W1.heap.size = w.heap.size + 1 := by rw [hW1]; simp
  rw [← hW1]
  clear hW1 hl
  go_wp2_with fail
  go_loopw [5, 6] (fun v i wr => ∃ m : Nat, m ≤ c ∧ i = .int .i64 m ∧ wr.ownsRow W1.heap.size 99 1 v (12 * m) (reps m (l.map flV)) ∧ Below W1.heap.size W1 wr) (fun _ i _ => c - (intOf i).toNat)
  case atStart => exact ⟨0, by omega, rfl, World.ownsRow_nil _ _ _ _, Below.refl _ _⟩
  case round =>
    obtain ⟨m, hm, rfl, hown, hbel⟩ := hrel
    by_cases hlt : m < c
    · have d1 : (m : Int) < (c : Int) := by omega
      go_wp2_with fail
      go_loopw [5, 7] (fun v i wr2 => ∃ k : Nat, k ≤ 12 ∧ i = .int .i64 k ∧ wr2.ownsRow W1.heap.size 99 1 v (12 * m + k) (reps m (l.map flV) ++ (l.map flV).take k) ∧ Below W1.heap.size W1 wr2) (fun _ i _ => 12 - (intOf i).toNat)
      case atStart => exact ⟨0, by omega, rfl, by rw [List.take_zero, List.append_nil]; exact hown, hbel⟩
      case round =>
        clear hown hbel
        obtain ⟨k, hk, rfl, hown, hbel⟩ := hrel
        by_cases hlk : k < 12
        · have d2 : (k : Int) < 12 := by omega
          have c0 := cellb (BlkI.cell iW1 (j := k) (by rw [HL.out]; exact hlk)) hbel
          have HT := Lib.hid (show (l.map flV).take (k + 1) = (l.map flV).take k ++ [flV (l[k]?.getD 0)] by rw [List.take_add_one, List.getElem?_map, List.getElem?_eq_getElem (by rw [HL.out]; exact hlk)]; rfl)
          generalize l[k]?.getD 0 = x at c0 HT
          have k1 : floatOfInt .f32 x = fl x := rfl
          go_wp2_with (at_builtin; refine wpList_append_own _ rfl _ _ 27 rfl W1.heap.size 99 i0 (.float .f32 0) 1 4 Tryz.underlying27 HI.out hz0 hz1 hz2 rfl (by decide) _ _ _ rfl (hown.alloc _) ⟨_, 0, none⟩ 1 1 [.float .f32 (fl x)] rfl rfl (cell_one_new _ _ _) (by simp [Value.oneCell']) (by unfold maxLen; omega) (by omega) (by have := hbel.size; simp; omega) ?_; intro v' w1 hown' hgrow _)
          have hbel' := below_own hbel hown hgrow
          have hown2 : w1.ownsRow W1.heap.size 99 1 v' (12 * m + (k + 1)) (reps m (l.map flV) ++ (l.map flV).take (k + 1)) := by
            rw [HT.out, ← List.append_assoc, ← Nat.add_assoc]; exact hown'
          clear hown hbel hown' hgrow
          go_wp2
          go_roundw
          case rel => exact ⟨k + 1, by omega, by go_num, hown2, hbel'⟩
          case measure => simp [intOf]; omega
        · obtain rfl : k = 12 := by omega
          have hr : reps m (l.map flV) ++ (l.map flV).take 12 = reps (m + 1) (l.map flV) := by rw [reps_succ, List.take_of_length_le (by rw [HXL.out]; omega)]
          rw [hr, show 12 * m + 12 = 12 * (m + 1) by omega] at hown
          clear hr
          go_wp2
          go_roundw
          case rel => exact ⟨m + 1, by omega, by go_num, hown, hbel⟩
          case measure => simp [intOf]; omega
    · obtain rfl : m = c := by omega
      have hv := Vals.of_own (us := reps m (l.map flV)) (by rw [HRL.out m]; exact hown)
      go_wp2
      go_ret
      exact ⟨⟨_, rfl, hv⟩, bthen kW1 hbel⟩

set_option maxRecDepth 100000 in
set_option maxHeartbeats 2000000 in
theorem SameSamples_w (a b : Value) (us : List Nat) (w : World) (hn : us.length ≤ 1000000) (ha : Vals w a (xsV us)) (hb : Vals w b (xsV us)) (ho : ∀ x ∈ us, FloatKind.f32.format.order x x = some .eq) :
    Calls Tryz.prog 16 #[a, b] w fun r w' => r = .returned (.bool true) ∧ Below w.heap.size w w' := by
  have hxl : (xsV us).length = us.length := by unfold xsV; rw [List.length_map]
  obtain ⟨pa, ca, rfl, _, hca⟩ := ha
  obtain ⟨pb, cb, rfl, _, hcb⟩ := hb
  rw [hxl] at hca hcb ⊢
  have HCA := Lib.hid hca
  have HCB := Lib.hid hcb
  have HO := Lib.hid ho
  obtain ⟨n, hN⟩ : ∃ n, n = us.length := ⟨_, rfl⟩
  have HN := Lib.hid hN
  rw [← hN] at hn ⊢
  clear hca hcb ho hxl hN
  go_enter Tryz.func16, Tryz.ntmps16
  go_wp2_with fail
  go_loopw [5] (fun i wr => ∃ k : Nat, k ≤ n ∧ i = .int .i64 k ∧ Below w.heap.size w wr) (fun i _ => n - (intOf i).toNat)
  case atStart => exact ⟨0, by omega, rfl, Below.refl _ _⟩
  case round =>
    obtain ⟨k, hk, rfl, hB⟩ := hrel
    by_cases hlt : k < n
    · have hku : k < us.length := by rw [← HN.out]; exact hlt
      obtain ⟨xb, xo, rfl, ga⟩ := HCA.out (by omega)
      obtain ⟨yb, yo, rfl, gb⟩ := HCB.out (by omega)
      have hx : (xsV us)[k]? = some (.float .f32 (us[k]?.getD 0)) := by unfold xsV; rw [List.getElem?_map, List.getElem?_eq_getElem hku]; rfl
      have c0 := cellb (ga k _ hx) hB
      have c1 := cellb (gb k _ hx) hB
      have o1 := HO.out (us[k]?.getD 0) (by rw [List.getElem?_eq_getElem hku]; exact List.getElem_mem _)
      generalize us[k]?.getD 0 = x at c0 c1 o1
      have o2 : (FloatKind.f32.format.order x x != some .eq) = false := by rw [o1]; rfl
      have d1 : (k : Int) < (n : Int) := by omega
      clear hx ga gb o1
      go_upto_region 6 with fail
      refine wp_region_E 99 (by kernel_rfl) ?_
      obtain ⟨wz, hwz⟩ : ∃ v, v = wr.drew := ⟨_, rfl⟩
      rw [← hwz]
      have hlz : Below wr.heap.size wr wz := by rw [hwz]; exact (Below.refl _ _).drew
      have hbz := bthen hB hlz
      have c0 := cellb c0 hlz
      have c1 := cellb c1 hlz
      clear hwz hlz
      refine wpAnyE_take (i := 0) (oi := { dst := some 17, op := Op.move (Operand.tmp 0), type := 27, pos := "ref.go:214", after := #[], guard := none }) (v := ?_) rfl (by kernel_rfl) (by kernel_rfl) (by kernel_rfl) (by kernel_rfl) (fun _ _ _ h => h) (Or.inl ⟨by rfl, ?_⟩) ?_
      rotate_left
      · (intro w hE; have c0 := cellb c0 hE; have c1 := cellb c1 hE; (try dsimp only); go_simp); (try with_reducible rfl)
      try simp only [Act.put, List.setIfInBounds_toArray, List.set_cons_zero, List.set_cons_succ]
      refine wpAnyE_take (i := 1) (oi := { dst := some 18, op := Op.move (Operand.tmp 5), type := 3, pos := "ref.go:214", after := #[], guard := none }) (v := ?_) rfl (by kernel_rfl) (by kernel_rfl) (by kernel_rfl) (by kernel_rfl) (fun _ _ _ h => h) (Or.inl ⟨by rfl, ?_⟩) ?_
      rotate_left
      · (intro w hE; have c0 := cellb c0 hE; have c1 := cellb c1 hE; (try dsimp only); go_simp); (try with_reducible rfl)
      try simp only [Act.put, List.setIfInBounds_toArray, List.set_cons_zero, List.set_cons_succ]
      refine wpAnyE_take (i := 2) (oi := { dst := some 19, op := Op.indexAddr 27 (Operand.tmp 17) (Operand.tmp 18), type := 0, pos := "ref.go:214", after := #[{ on := 0, ground := Ground.data }, { on := 1, ground := Ground.data }], guard := none }) (v := ?_) rfl (by kernel_rfl) (by kernel_rfl) (by kernel_rfl) (by kernel_rfl) (fun _ _ _ h => h) (Or.inl ⟨by rfl, ?_⟩) ?_
      rotate_left
      · (intro w hE; have c0 := cellb c0 hE; have c1 := cellb c1 hE; (try dsimp only); go_simp); (try with_reducible rfl)
      try simp only [Act.put, List.setIfInBounds_toArray, List.set_cons_zero, List.set_cons_succ]
      refine wpAnyE_take (i := 3) (oi := { dst := some 20, op := Op.load 99 (Operand.tmp 19), type := 99, pos := "ref.go:214", after := #[{ on := 2, ground := Ground.data }], guard := none }) (v := ?_) rfl (by kernel_rfl) (by kernel_rfl) (by kernel_rfl) (by kernel_rfl) (fun _ _ _ h => h) (Or.inl ⟨by rfl, ?_⟩) ?_
      rotate_left
      · (intro w hE; have c0 := cellb c0 hE; have c1 := cellb c1 hE; (try dsimp only); go_simp); (try with_reducible rfl)
      try simp only [Act.put, List.setIfInBounds_toArray, List.set_cons_zero, List.set_cons_succ]
      refine wpAnyE_take (i := 4) (oi := { dst := some 21, op := Op.move (Operand.tmp 1), type := 27, pos := "ref.go:214", after := #[], guard := none }) (v := ?_) rfl (by kernel_rfl) (by kernel_rfl) (by kernel_rfl) (by kernel_rfl) (fun _ _ _ h => h) (Or.inl ⟨by rfl, ?_⟩) ?_
      rotate_left
      · (intro w hE; have c0 := cellb c0 hE; have c1 := cellb c1 hE; (try dsimp only); go_simp); (try with_reducible rfl)
      try simp only [Act.put, List.setIfInBounds_toArray, List.set_cons_zero, List.set_cons_succ]
      refine wpAnyE_take (i := 5) (oi := { dst := some 22, op := Op.move (Operand.tmp 5), type := 3, pos := "ref.go:214", after := #[], guard := none }) (v := ?_) rfl (by kernel_rfl) (by kernel_rfl) (by kernel_rfl) (by kernel_rfl) (fun _ _ _ h => h) (Or.inl ⟨by rfl, ?_⟩) ?_
      rotate_left
      · (intro w hE; have c0 := cellb c0 hE; have c1 := cellb c1 hE; (try dsimp only); go_simp); (try with_reducible rfl)
      try simp only [Act.put, List.setIfInBounds_toArray, List.set_cons_zero, List.set_cons_succ]
      refine wpAnyE_take (i := 6) (oi := { dst := some 23, op := Op.indexAddr 27 (Operand.tmp 21) (Operand.tmp 22), type := 0, pos := "ref.go:214", after := #[{ on := 4, ground := Ground.data }, { on := 5, ground := Ground.data }], guard := none }) (v := ?_) rfl (by kernel_rfl) (by kernel_rfl) (by kernel_rfl) (by kernel_rfl) (fun _ _ _ h => h) (Or.inl ⟨by rfl, ?_⟩) ?_
      rotate_left
      · (intro w hE; have c0 := cellb c0 hE; have c1 := cellb c1 hE; (try dsimp only); go_simp); (try with_reducible rfl)
      try simp only [Act.put, List.setIfInBounds_toArray, List.set_cons_zero, List.set_cons_succ]
      refine wpAnyE_take (i := 7) (oi := { dst := some 24, op := Op.load 99 (Operand.tmp 23), type := 99, pos := "ref.go:214", after := #[{ on := 6, ground := Ground.data }], guard := none }) (v := ?_) rfl (by kernel_rfl) (by kernel_rfl) (by kernel_rfl) (by kernel_rfl) (fun _ _ _ h => h) (Or.inl ⟨by rfl, ?_⟩) ?_
      rotate_left
      · (intro w hE; have c0 := cellb c0 hE; have c1 := cellb c1 hE; (try dsimp only); go_simp); (try with_reducible rfl)
      try simp only [Act.put, List.setIfInBounds_toArray, List.set_cons_zero, List.set_cons_succ]
      refine wpAnyE_take (i := 8) (oi := { dst := some 25, op := Op.binOp BinOp.neq 99 (Operand.tmp 20) (Operand.tmp 24) 99, type := 4, pos := "ref.go:214", after := #[{ on := 3, ground := Ground.data }, { on := 7, ground := Ground.data }], guard := none }) (v := ?_) rfl (by kernel_rfl) (by kernel_rfl) (by kernel_rfl) (by kernel_rfl) (fun _ _ _ h => h) (Or.inl ⟨by rfl, ?_⟩) ?_
      rotate_left
      · (intro w hE; have c0 := cellb c0 hE; have c1 := cellb c1 hE; (try dsimp only); go_simp); (try with_reducible rfl)
      try simp only [Act.put, List.setIfInBounds_toArray, List.set_cons_zero, List.set_cons_succ]
      refine wpAnyE_done (by kernel_rfl) (fun wy1 hE => ?_) _
      have hbz1 := bthen hbz hE
      have c0 := cellb c0 hE
      have c1 := cellb c1 hE
      clear hE
      have hB := hbz1
      go_wp2_with fail
      go_roundw
      · exact ⟨k + 1, by omega, by go_num, hB⟩
      · simp [intOf]; omega
    · obtain rfl : k = n := by omega
      go_wp2
      go_ret
      exact ⟨rfl, hB⟩
end

end Go.Proofs.YtfeajpkjjlddlaaGreatDoor

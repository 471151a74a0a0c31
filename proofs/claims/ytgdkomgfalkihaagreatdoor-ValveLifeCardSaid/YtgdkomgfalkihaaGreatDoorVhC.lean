/- The reference's CheckPart, CheckSample, Sixteenths at every word (as in chapter 4's records). -/
import Derived.Test.YtgdkomgfalkihaaGreatDoorVcN
import Derived.Test.YtgdkomgfalkihaaGreatDoorVeE
import Derived.Test.YtgdkomgfalkihaaGreatDoorVdE
namespace Go.Proofs.YtgdkomgfalkihaaGreatDoor
section
set_option linter.unusedSimpArgs false
set_option linter.unusedVariables false
open Go.RowKit Flp
theorem isNaN_num (y : Nat) (v : Int) (w : World) (hy : V64 y = some v) : Calls Tryz.prog 199 #[.float .f64 y] w fun e w' => e = .returned (.bool false) ∧ w = w' := by
 have o := order64 hy hy
 have o1 : FloatKind.f64.format.order y y = some .eq := by
  show Ieee.double.order y y = _
  rw [o, cmp_eq]
 go_enter Tryz.func199, Tryz.ntmps199
 go_wp2
 go_ret
 exact ⟨rfl, rfl⟩
theorem isNaN_nan (y : Nat) (w : World) (hy : ∃ a b, Ieee.double.read y = .nan a b) : Calls Tryz.prog 199 #[.float .f64 y] w fun e w' => e = .returned (.bool true) ∧ w = w' := by
 have o1 : FloatKind.f64.format.order y y = none := (order_nan hy y).1
 go_enter Tryz.func199, Tryz.ntmps199
 go_wp2
 go_ret
 exact ⟨rfl, rfl⟩
theorem isNaN_ord (y : Nat) (w : World) (o1 : FloatKind.f64.format.order y y = some .eq) : Calls Tryz.prog 199 #[.float .f64 y] w fun e w' => e = .returned (.bool false) ∧ w = w' := by
 go_enter Tryz.func199, Tryz.ntmps199
 go_wp2
 go_ret
 exact ⟨rfl, rfl⟩
theorem absBits (b : Nat) : (BitVec.ofInt 64 (b : Int) &&& ~~~ BitVec.ofInt 64 9223372036854775808).toNat = b % 9223372036854775808 := by
 have h1 : BitVec.ofInt 64 (b : Int) = BitVec.ofNat 64 b := rfl
 have h2 : ~~~ BitVec.ofInt 64 9223372036854775808 = BitVec.ofNat 64 (2 ^ 63 - 1) := by decide
 rw [h1, h2, BitVec.toNat_and, BitVec.toNat_ofNat, BitVec.toNat_ofNat, Nat.mod_eq_of_lt (a := 2 ^ 63 - 1) (by decide), Nat.and_two_pow_sub_one_eq_mod]
 omega
theorem bits_abs (b : Nat) : bits .andNot .u64 (b : Int) 9223372036854775808 = ((b % 9223372036854775808 : Nat) : Int) := by
 have h := absBits b
 show IntKind.u64.wrap ((BitVec.ofInt 64 (b : Int) &&& ~~~ BitVec.ofInt 64 9223372036854775808).toNat : Nat) = _
 rw [h, IntKind.wrap_u64]
 omega
theorem bits_run (b : Nat) (W : World) : Sem.run Tryz.prog (callFunc 245 #[.float .f64 b]) W = .ok (.value (.int .u64 (b : Int))) W := by
 rw [run_callFunc_extern Tryz.func245 (by kernel_rfl) (by kernel_rfl) (by kernel_rfl) (e := Extern.MathFloatBits.float64bits) (by kernel_rfl)]
 rfl
theorem frombits_run (b : Nat) (W : World) : Sem.run Tryz.prog (callFunc 244 #[.int .u64 (b : Int)]) W = .ok (.value (.float .f64 b)) W := by
 rw [run_callFunc_extern Tryz.func244 (by kernel_rfl) (by kernel_rfl) (by kernel_rfl) (e := Extern.MathFloatBits.float64frombits) (by kernel_rfl)]
 rfl
set_option maxRecDepth 100000 in
theorem Abs_any (b : Nat) (w : World) : Calls Tryz.prog 227 #[.float .f64 b] w fun e w' => e = .returned (.float .f64 (b % 9223372036854775808)) ∧ w = w' := by
 have g1 := bits_run b
 have g2 := bits_abs b
 have g3 := frombits_run (b % 9223372036854775808)
 generalize b % 9223372036854775808 = c at g2 g3 ⊢
 go_enter Tryz.func227, Tryz.ntmps227
 go_wp2
 go_ret
 exact ⟨rfl, rfl⟩
theorem IsInf_any (b : Nat) (w : World) : Calls Tryz.prog 200 #[.float .f64 b, .int .i64 0] w fun e w' => e = .returned (.bool (FloatKind.f64.format.order (b % 9223372036854775808) 9218868437227405311 == some .gt)) ∧ w = w' := by
 have HA := Lib.hid (Abs_any b)
 generalize b % 9223372036854775808 = c at HA ⊢
 go_enter Tryz.func200, Tryz.ntmps200
 go_wp2_with fail
 refine (HA.out w).mono ?_
 rintro e w1 ⟨rfl, rfl⟩
 go_wp2
 go_ret
 exact ⟨rfl, rfl⟩
theorem V64_abs {y : Nat} {v : Int} (h : V64 y = some v) : V64 (y % 9223372036854775808) = some (if v < 0 then -v else v) := by
 unfold V64 at h ⊢
 have hs : Ieee.double.signWeight = 9223372036854775808 := by decide +kernel
 have hr : Ieee.double.read (y % 9223372036854775808) = match Ieee.double.read y with
  | .number _ m e => .number false m e
  | .infinity _ => .infinity false
  | .nan _ u => .nan false u := by
  unfold Ieee.Format.read
  simp only [hs]
  have e1 : y % 9223372036854775808 / 9223372036854775808 % 2 = 0 := by omega
  have e2 : y % 9223372036854775808 % 9223372036854775808 = y % 9223372036854775808 := by omega
  rw [e1, e2]
  have e3 : ((0 : Nat) == 1) = false := rfl
  rw [e3]
  by_cases h1 : y % 9223372036854775808 < Ieee.double.binade
  ·rw [if_pos h1, if_pos h1]
  ·rw [if_neg h1, if_neg h1]
   by_cases h2 : y % 9223372036854775808 < Ieee.double.infRung
   ·rw [if_pos h2, if_pos h2]
   ·rw [if_neg h2, if_neg h2]
    by_cases h3 : y % 9223372036854775808 = Ieee.double.infRung
    ·rw [if_pos h3, if_pos h3]
    ·rw [if_neg h3, if_neg h3]
 rw [hr]
 cases hy : Ieee.double.read y with
 | infinity s => rw [hy] at h; cases h
 | nan s u => rw [hy] at h; cases h
 | number s m e =>
   rw [hy] at h
   simp only [Option.some.injEq] at h ⊢
   unfold valU at h ⊢
   rw [signed_eq] at h ⊢
   have hp : (0 : Int) ≤ (m : Int) * 2 ^ (e + 2000).toNat := Int.mul_nonneg (by omega) (Int.le_of_lt (pow_pos2 _))
   generalize (m : Int) * 2 ^ (e + 2000).toNat = k at h hp ⊢
   cases s
   ·simp only [Bool.false_eq_true, if_false, Int.one_mul] at h ⊢
    subst h
    rw [if_neg (by omega)]
   ·simp only [Bool.false_eq_true, if_true, if_false, Int.one_mul] at h ⊢
    by_cases hk : k = 0
    ·subst hk
     simp at h
     subst h
     rfl
    ·rw [if_pos (by omega)]
     omega
theorem V64_max : ∃ M, V64 9218868437227405311 = some M ∧ 2 ^ 200 * U ≤ M := by
 have h : Ieee.double.read 9218868437227405311 = .number false 9007199254740991 971 := by decide +kernel
 unfold V64
 rw [h]
 refine ⟨_, rfl, ?_⟩
 unfold valU
 rw [signed_eq]
 simp only [Bool.false_eq_true, if_false, Int.one_mul]
 rw [U_def, show ((971 : Int) + 2000).toNat = 200 + (uk + 771) by decide, Int.pow_add, Int.pow_add]
 have hu : (0 : Int) < 2 ^ uk := pow_pos2 uk
 have h7 : (1 : Int) ≤ 2 ^ 771 := by have := pow_pos2 771; omega
 have h2 : (0 : Int) < 2 ^ 200 := pow_pos2 200
 generalize (2 : Int) ^ uk = u at hu
 generalize (2 : Int) ^ 771 = p at h7
 generalize (2 : Int) ^ 200 = q at h2
 have a1 : 0 ≤ q * u := Int.le_of_lt (Int.mul_pos h2 hu)
 have a2 : q * (u * p) = q * u * p := by rw [Int.mul_assoc]
 rw [a2]
 generalize q * u = z at a1
 have a3 : z * 1 ≤ z * p := Int.mul_le_mul_of_nonneg_left h7 a1
 have a4 : 0 ≤ z * p := by omega
 show z ≤ ((9007199254740991 : Nat) : Int) * (z * p)
 generalize z * p = m at a3 a4
 show z ≤ (9007199254740991 : Int) * m
 omega
theorem inf_not {y : Nat} {v : Int} (h : V64 y = some v) (hb : -(2 ^ 200 * U) < v ∧ v < 2 ^ 200 * U) : (FloatKind.f64.format.order (y % 9223372036854775808) 9218868437227405311 == some .gt) = false := by
 obtain ⟨M, hM, hM2⟩ := V64_max
 have o := order64 (V64_abs h) hM
 have o' : FloatKind.f64.format.order (y % 9223372036854775808) 9218868437227405311 = _ := o
 rw [o', beq_eq_false_iff_ne]
 intro e
 have := Int.compare_eq_gt.1 (Option.some.inj e)
 generalize 2 ^ 200 * U = B at *
 split at this <;> omega
theorem V32_bound {x : Nat} {v : Int} (h : V32 x = some v) : -(2 ^ 200 * U) < v ∧ v < 2 ^ 200 * U := by
 unfold V32 at h
 cases hx : Ieee.single.read x with
 | infinity s => rw [hx] at h; cases h
 | nan s u => rw [hx] at h; cases h
 | number s m e =>
   rw [hx] at h
   simp only [Option.some.injEq] at h
   obtain ⟨h1, h2, h3⟩ := read_single hx
   unfold valU at h
   rw [signed_eq] at h
   have hk : (e + 2000).toNat ≤ 2105 := by omega
   obtain ⟨d, hd⟩ : ∃ d, 2105 = (e + 2000).toNat + d := ⟨2105 - (e + 2000).toNat, by omega⟩
   have hp : (2 : Int) ^ (e + 2000).toNat ≤ 2 ^ 2105 := by
    rw [hd, Int.pow_add]
    have h1 : (1 : Int) ≤ 2 ^ d := by have := pow_pos2 d; omega
    have h0 : (0 : Int) ≤ 2 ^ (e + 2000).toNat := Int.le_of_lt (pow_pos2 _)
    have := Int.mul_le_mul_of_nonneg_left h1 h0
    omega
   have h0 : (0 : Int) < 2 ^ (e + 2000).toNat := pow_pos2 _
   generalize (2 : Int) ^ (e + 2000).toNat = q at h hp h0
   have hB : (2 : Int) ^ 200 * U = 2 ^ 95 * 2 ^ 2105 := by
    rw [U_def, show uk = 2000 from rfl, ← Int.pow_add, ← Int.pow_add]
   rw [hB]
   generalize (2 : Int) ^ 2105 = P at hp ⊢
   have e95 : (2 : Int) ^ 95 = 39614081257132168796771975168 := by decide
   rw [e95]
   have hm : (0 : Int) ≤ (m : Int) ∧ (m : Int) ≤ 16777216 := by omega
   have m1 : (m : Int) * q ≤ 16777216 * q := Int.mul_le_mul_of_nonneg_right hm.2 (Int.le_of_lt h0)
   have m0 : 0 ≤ (m : Int) * q := Int.mul_nonneg hm.1 (Int.le_of_lt h0)
   generalize (m : Int) * q = k at h m1 m0
   cases s
   ·simp only [Bool.false_eq_true, if_false, Int.one_mul] at h
    omega
   ·simp only [if_true] at h
    omega
theorem V64_1024 : V64 4652218415073722368 = some (1024 * U) := by
 have h : Ieee.double.read 4652218415073722368 = .number false 4503599627370496 (-42) := by decide +kernel
 unfold V64
 rw [h]
 show some (valU false 4503599627370496 (-42)) = _
 unfold valU
 rw [signed_eq]
 simp only [Bool.false_eq_true, if_false, Int.one_mul]
 rw [U_def, show ((-42 : Int) + 2000).toNat = 1958 by decide, show uk = 1958 + 42 by rfl, Int.pow_add]
 have e1 : (2 : Int) ^ 42 = 4398046511104 := by decide
 rw [e1]
 generalize (2 : Int) ^ 1958 = p
 congr 1
 rw [show ((4503599627370496 : Nat) : Int) = 4503599627370496 from rfl]
 omega
theorem V64_n1024 : V64 13875590451928498176 = some (-(1024 * U)) := by
 have h : Ieee.double.read 13875590451928498176 = .number true 4503599627370496 (-42) := by decide +kernel
 unfold V64
 rw [h]
 show some (valU true 4503599627370496 (-42)) = _
 unfold valU
 rw [signed_eq]
 simp only [if_true, Int.neg_one_mul]
 rw [U_def, show ((-42 : Int) + 2000).toNat = 1958 by decide, show uk = 1958 + 42 by rfl, Int.pow_add]
 have e1 : (2 : Int) ^ 42 = 4398046511104 := by decide
 rw [e1]
 generalize (2 : Int) ^ 1958 = p
 congr 1
 rw [show ((4503599627370496 : Nat) : Int) = 4503599627370496 from rfl]
 omega
theorem fl64p : floatOfInt .f64 1024 = 4652218415073722368 := by kernel_rfl
theorem fl64n : floatOfInt .f64 (-1024) = 13875590451928498176 := by kernel_rfl
theorem floor_run (y s m e) (h : Ieee.double.read y = .number s m e) (W : World) : Sem.run Tryz.prog (callFunc 228 #[.float .f64 y]) W = .ok (.value (.float .f64 (FloatKind.f64.encode ((Ieee.Datum.number s m e).integral .down)))) W := by
 rw [run_callFunc_extern Tryz.func228 (by kernel_rfl) (by kernel_rfl) (by kernel_rfl) (e := Extern.MathFloor.toIntegral "math.archFloor" .down) (by kernel_rfl)]
 have h' : FloatKind.f64.decode y = .number s m e := h
 have e1 : Extern.MathFloor.toIntegral "math.archFloor" .down #[.float .f64 y] = (match FloatKind.f64.decode y with
  | .nan s t =>
    if FloatKind.f64.format.quiet t = t then pure (.float .f64 y) else do
    let kept ← choose (.extern "math.Floor,Ceil,Trunc,RoundToEven.signallingNaN kept" 2)
    pure (.float .f64 (if kept == 1 then y else FloatKind.f64.encode (.nan s (FloatKind.f64.format.quiet t))))
  | d => pure (.float .f64 (FloatKind.f64.encode (d.integral .down)))) := rfl
 rw [e1, h']
 rfl
theorem Floor_any (y z : Nat) (w : World) (h : ∀ W, Sem.run Tryz.prog (callFunc 228 #[.float .f64 y]) W = .ok (.value (.float .f64 z)) W) : Calls Tryz.prog 201 #[.float .f64 y] w fun e w' => e = .returned (.float .f64 z) ∧ w = w' := by
 go_enter Tryz.func201, Tryz.ntmps201
 go_wp2
 go_ret
 exact ⟨rfl, rfl⟩
set_option maxRecDepth 100000 in
set_option maxHeartbeats 2000000 in
/-- a sample's error, as the reference tells it, at every word. -/
theorem CheckPartR_w (x : Nat) (w : World) : Calls Tryz.prog 161 #[.float .f32 x, .int .i64 1024] w fun e w' => e = .returned (.int .i64 (smpE x)) ∧ Below w.heap.size w w' := by
 cases hv : V32 x with
 | none =>
   have HE := Lib.hid (show smpE x = 1 by unfold smpE; rw [hv])
   cases hx : Ieee.single.read x with
   | number s m e => unfold V32 at hv; rw [hx] at hv; cases hv
   | nan s u =>
     obtain ⟨r, hr, hrun⟩ := run_widen_nan (P := Tryz.prog) w 84 278 x (by kernel_rfl) Tryz.underlying278 ⟨s, u, hx⟩
     have TN := Lib.hid (fun W => isNaN_nan r W hr)
     clear hr hx hv
     go_enter Tryz.func161, Tryz.ntmps161
     go_wp2_with fail
     refine (TN.out _).mono ?_
     rintro e w1 ⟨rfl, rfl⟩
     go_wp2
     go_ret
     exact ⟨by rw [HE.out]; rfl, (Below.refl _ _).drew⟩
   | infinity s =>
     have hw := widen_inf hx
     have g1 := fun W => run_convert_float_float (P := Tryz.prog) W 84 278 .f32 .f64 x _ (by kernel_rfl) Tryz.underlying278 hw
     obtain ⟨y, hy⟩ : ∃ y, y = Ieee.double.word s Ieee.double.infRung := ⟨_, rfl⟩
     rw [← hy] at g1
     have o1 : FloatKind.f64.format.order y y = some .eq := by rw [hy]; cases s <;> decide +kernel
     have o2 : (FloatKind.f64.format.order (y % 9223372036854775808) 9218868437227405311 == some .gt) = true := by rw [hy]; cases s <;> decide +kernel
     have TI := Lib.hid (fun W => by
      have := IsInf_any y W
      rw [o2] at this
      exact this)
     have TN := Lib.hid (fun W => isNaN_ord y W o1)
     clear hx hv hw hy o1 o2
     go_enter Tryz.func161, Tryz.ntmps161
     go_wp2_with fail
     refine (TN.out _).mono ?_
     rintro e w1 ⟨rfl, rfl⟩
     go_wp2_with fail
     refine (TI.out _).mono ?_
     rintro e w1 ⟨rfl, rfl⟩
     go_wp2
     go_ret
     exact ⟨by rw [HE.out]; rfl, Below.refl _ _⟩
 | some v =>
   obtain ⟨y, hy, hyv⟩ := widen hv
   have g1 := fun W => run_convert_float_float (P := Tryz.prog) W 84 278 .f32 .f64 x y (by kernel_rfl) Tryz.underlying278 hy
   have o2 := inf_not hyv (V32_bound hv)
   have TI := Lib.hid (fun W => by
    have := IsInf_any y W
    rw [o2] at this
    exact this)
   have TN := Lib.hid (fun W => isNaN_num y v W hyv)
   have TW := Lib.hid (fun (c : Bool) (W : World) => WhenR_any c 3 W)
   have c1 := fl64p
   have c2 := fl64n
   have p2 : FloatKind.f64.format.order y 4652218415073722368 = some (compare v (1024 * U)) := order64 hyv V64_1024
   have p1 : FloatKind.f64.format.order y 13875590451928498176 = some (compare v (-(1024 * U))) := order64 hyv V64_n1024
   have HS := Lib.hid (show smpE x = if v < -(1024 * U) ∨ 1024 * U < v then 3 else if 16 * v / U * U = 16 * v then 0 else 3 by unfold smpE; rw [hv])
   by_cases hhi : 1024 * U < v
   ·rw [cmp_gt hhi] at p2
    rw [if_pos (.inr hhi)] at HS
    clear p1 hv hhi hy hyv o2
    go_enter Tryz.func161, Tryz.ntmps161
    go_wp2_with fail
    refine (TN.out _).mono ?_
    rintro e w1 ⟨rfl, rfl⟩
    go_wp2_with fail
    refine (TI.out _).mono ?_
    rintro e w1 ⟨rfl, rfl⟩
    go_wp2_with fail
    refine (TW.out _ w).mono ?_
    rintro e w1 ⟨rfl, rfl⟩
    go_wp2
    go_ret
    exact ⟨by rw [HS.out]; rfl, Below.refl _ _⟩
   ·have p2' : ¬ FloatKind.f64.format.order y 4652218415073722368 = some .gt := by
     rw [p2]; intro e; exact hhi (Int.compare_eq_gt.1 (Option.some.inj e))
    have p2b : (FloatKind.f64.format.order y 4652218415073722368 == some .gt) = false := by rw [beq_eq_false_iff_ne]; exact p2'
    by_cases hlo : v < -(1024 * U)
    ·rw [cmp_lt hlo] at p1
     rw [if_pos (.inl hlo)] at HS
     clear p2 hv hhi hlo hy hyv o2
     go_enter Tryz.func161, Tryz.ntmps161
     go_wp2_with fail
     refine (TN.out _).mono ?_
     rintro e w1 ⟨rfl, rfl⟩
     go_wp2_with fail
     refine (TI.out _).mono ?_
     rintro e w1 ⟨rfl, rfl⟩
     go_wp2_with fail
     refine (TW.out _ w).mono ?_
     rintro e w1 ⟨rfl, rfl⟩
     go_wp2
     go_ret
     exact ⟨by rw [HS.out]; rfl, Below.refl _ _⟩
    ·have p1' : ¬ FloatKind.f64.format.order y 13875590451928498176 = some .lt := by
      rw [p1]; intro e; exact hlo (Int.compare_eq_lt.1 (Option.some.inj e))
     have p1b : (FloatKind.f64.format.order y 13875590451928498176 == some .lt) = false := by rw [beq_eq_false_iff_ne]; exact p1'
     have e10 : (2 : Int) ^ 10 = 1024 := by decide
     obtain ⟨z, hz, hzv⟩ := mul_16d hyv (by rw [e10]; omega)
     have hU := U_pos
     obtain ⟨s, m, e, hr, hf⟩ := floor64 hzv (by omega)
     have g5 := fun W => run_float_arith (P := Tryz.prog) W .mul 278 .f64 4625196817309499392 y z hz
     obtain ⟨k, hk⟩ : ∃ k, k = FloatKind.f64.encode ((Ieee.Datum.number s m e).integral .down) := ⟨_, rfl⟩
     have TF := Lib.hid (fun W => Floor_any z k W (fun W => by rw [hk]; exact floor_run z s m e hr W))
     rw [← hk] at hf
     have p3 : FloatKind.f64.format.order z k = some (compare (16 * v) (16 * v / U * U)) := order64 hzv hf
     rw [if_neg (by omega)] at HS
     by_cases hc : 16 * v / U * U = 16 * v
     ·rw [hc, cmp_eq] at p3
      rw [if_pos hc] at HS
      clear hc hv hlo hhi p1 p2 p1' p2' hy hyv hU e10 o2 hr hf hk hz hzv
      go_enter Tryz.func161, Tryz.ntmps161
      go_wp2_with fail
      refine (TN.out _).mono ?_
      rintro e w1 ⟨rfl, rfl⟩
      go_wp2_with fail
      refine (TI.out _).mono ?_
      rintro e w1 ⟨rfl, rfl⟩
      go_wp2_with fail
      refine (TF.out w).mono ?_
      rintro e w1 ⟨rfl, rfl⟩
      go_wp2_with fail
      refine (TW.out _ w).mono ?_
      rintro e w1 ⟨rfl, rfl⟩
      go_wp2
      go_ret
      exact ⟨by rw [HS.out]; rfl, Below.refl _ _⟩
     ·have p3' : ¬ FloatKind.f64.format.order z k = some .eq := by
       rw [p3]; intro e; exact hc (Int.compare_eq_eq.1 (Option.some.inj e)).symm
      have p3b : (FloatKind.f64.format.order z k == some .eq) = false := by rw [beq_eq_false_iff_ne]; exact p3'
      have p3c : (FloatKind.f64.format.order z k != some .eq) = true := by unfold bne; rw [p3b]; rfl
      rw [if_neg hc] at HS
      clear hc hv hlo hhi p1 p2 p3 p1' p2' hy hyv hU e10 o2 hr hf hk hz hzv
      go_enter Tryz.func161, Tryz.ntmps161
      go_wp2_with fail
      refine (TN.out _).mono ?_
      rintro e w1 ⟨rfl, rfl⟩
      go_wp2_with fail
      refine (TI.out _).mono ?_
      rintro e w1 ⟨rfl, rfl⟩
      go_wp2_with fail
      refine (TF.out w).mono ?_
      rintro e w1 ⟨rfl, rfl⟩
      go_wp2_with fail
      refine (TW.out _ w).mono ?_
      rintro e w1 ⟨rfl, rfl⟩
      go_wp2
      go_ret
      exact ⟨by rw [HS.out]; rfl, Below.refl _ _⟩
theorem CheckSampleR_w (x : Nat) (w : World) : Calls Tryz.prog 112 #[.float .f32 x] w fun e w' => e = .returned (.int .i64 (smpE x)) ∧ Below w.heap.size w w' := by
 have T := Lib.hid (fun W => CheckPartR_w x W)
 go_enter Tryz.func112, Tryz.ntmps112
 go_wp2_with fail
 refine (T.out w).mono ?_
 rintro e w' ⟨rfl, hb⟩
 go_wp2_with fail
 go_ret
 exact ⟨rfl, hb⟩
theorem Sixteenths_w (x : Nat) (h : smpE x = 0) (w : World) : Calls Tryz.prog 115 #[.float .f32 x] w fun e w' => e = .returned (.int .i64 (sxN x)) ∧ w = w' := by
 obtain ⟨v, hv, hb, h16⟩ := smp_some h
 have e10 : (2 : Int) ^ 10 = 1024 := by decide
 obtain ⟨y, hy, hyv⟩ := mul_16 hv (by rw [e10]; omega)
 have g5 := fun W => run_float_arith (P := Tryz.prog) W .mul 84 .f32 1098907648 x y hy
 have hU := U_pos
 have hyb : -(16384 * U) ≤ 16 * v ∧ 16 * v ≤ 16384 * U := by omega
 have ht := toInt32 hyv 16384 (by omega) hyb
 have g6 := fun W => run_convert_float_int (P := Tryz.prog) W 84 3 .f32 .i64 y _ (by kernel_rfl) Tryz.underlying3 ht
 have hs : sxN x = Int.tdiv (16 * v) U := by unfold sxN; rw [hv]
 rw [← hs] at g6
 generalize sxN x = n at g6 ⊢
 clear hv hb h16 hy hyv hyb ht hs h hU e10
 go_enter Tryz.func115, Tryz.ntmps115
 go_wp2
 go_ret
 exact ⟨rfl, rfl⟩
end
section
set_option linter.unusedSimpArgs false
set_option linter.unusedVariables false
open Go.RowKit
theorem Tryz.infZvalveAck : (Tryz.prog.info? 114).map (fun i => (i.zero, i.size, i.bytes)) = some (some (.agg #[.int .i64 0, .int .i64 0]), 2, 16) := by kernel_rfl
theorem Tryz.undZvalveAck : Tryz.prog.underlying 90 = some (.slice 114) := by kernel_rfl
set_option maxRecDepth 100000 in
set_option maxHeartbeats 2000000 in
theorem acksL_any (v : Value) (l : List P2) (w : World) (hl : l.length ≤ 1000000) (hv : Rw 2 pV w v l) :
 Calls Tryz.prog 43 #[v] w fun r w' => (∃ u, r = .returned u ∧ OwR w' w.heap.size 114 2 pV u l) ∧ Below w.heap.size w w' := by
 obtain ⟨i0, hi, hz0, hz1, hz2⟩ := info_parts Tryz.infZvalveAck
 have HV := Lib.hid hv
 obtain ⟨va, vc, rfl, hvc⟩ := hv.slice
 obtain ⟨N, hN⟩ : ∃ N, N = l.length := ⟨_, rfl⟩
 rw [← hN] at HV hl ⊢
 have HN := Lib.hid hN
 clear hv hN hvc
 go_enter Tryz.func43, Tryz.ntmps43
 go_wp2_with fail
 go_loopw [3, 8] (fun u i wr => ∃ k : Nat, k ≤ N ∧ i = .int .i64 k ∧ wr.ownsRow w.heap.size 114 2 u k ((l.take k).flatMap pV) ∧ Below w.heap.size w wr) (fun _ i _ => N - (intOf i).toNat)
 case atStart => exact ⟨0, by omega, rfl, World.ownsRow_nil _ _ _ _, Below.refl _ _⟩
 case round =>
  obtain ⟨k, hk, rfl, hown, hbel⟩ := hrel
  by_cases hlt : k < N
  ·obtain ⟨x, hx⟩ : ∃ x, l[k]? = some x := ⟨_, List.getElem?_eq_getElem (by rw [← HN.out]; exact hlt)⟩
   obtain ⟨b, off, cp, he, hcs⟩ := (HV.out.carry hbel).head (by rw [← HN.out]; omega)
   simp only [Value.slice.injEq] at he
   obtain ⟨rfl, -, rfl⟩ := he
   obtain ⟨c0, c1⟩ := rw2 (hcs k x hx) (show pV x = [.int .i64 x.1, .int .i64 x.2] from rfl)
   have hts : (l.take (k + 1)).flatMap pV = (l.take k).flatMap pV ++ [.int .i64 x.1, .int .i64 x.2] := by rw [List.take_add_one, hx, List.flatMap_append]; simp [pV]
   obtain ⟨y0, hy0⟩ : ∃ y, y = x.1 := ⟨_, rfl⟩
   obtain ⟨y1, hy1⟩ : ∃ y, y = x.2 := ⟨_, rfl⟩
   rw [← hy0] at c0
   rw [← hy1] at c1
   rw [← hy0, ← hy1] at hts
   have HTS := Lib.hid hts
   have hdk : (k : Int) < (N : Int) := by omega
   have hsz := hbel.size
   have kb := below_new wr (.cells #[.int .i64 y0, .int .i64 y1] 170)
   have kn := bthen kb (below_new (wr.alloc (.cells #[.int .i64 y0, .int .i64 y1] 170)) (.cells #[.int .i64 y0, .int .i64 y1] 114))
   obtain ⟨oa, oc, rfl⟩ := own_slice hown
   clear hcs hx hts hy0 hy1
   go_wp2_with (at_builtin; refine wpList_append_own _ rfl _ _ 90 rfl w.heap.size 114 i0 (.agg #[.int .i64 0, .int .i64 0]) 2 16 Tryz.undZvalveAck hi hz0 hz1 hz2 rfl (by decide) _ _ _ rfl (own_below hown kn) ⟨wr.heap.size + 1, 0, none⟩ 1 1 [.int .i64 y0, .int .i64 y1] rfl rfl (fun j u hj => by have h9 := (Blk.new (wr.alloc (.cells #[.int .i64 y0, .int .i64 y1] 170)) 114 [.int .i64 y0, .int .i64 y1]).news j u hj; rw [World.size_alloc] at h9; exact h9) (by simp [Value.oneCell']) (by unfold maxLen; omega) (by omega) (by have := kn.size; omega) ?_; intro v9 w1 hown9 hgrow9 _)
   have hbel9 := (bthen hbel kn).trans (below_grow (own_below hown kn) (by have := kn.size; omega) hgrow9)
   rw [← HTS.out] at hown9
   clear hown hgrow9 kn kb hbel c0 c1
   go_wp2
   go_roundw
   case rel => exact ⟨k + 1, by omega, by go_num, hown9, hbel9⟩
   case measure => simp [intOf]; omega
  ·obtain rfl : k = N := by omega
   have hout : OwR wr w.heap.size 114 2 pV u3 l := by
    unfold OwR
    rw [← HN.out]
    rw [List.take_of_length_le (by rw [HN.out]; exact Nat.le_refl _)] at hown
    exact hown
   have d0 : ¬ ((k : Int) < (k : Int)) := by omega
   clear hown
   go_wp2
   go_ret
   exact ⟨⟨_, rfl, hout⟩, hbel⟩
/-- whether acknowledgements are short. -/
def shortA (n : Nat) : Bool := decide (n ≤ 20) || decide (n = 257)
theorem shortA_le {n : Nat} (h : shortA n = true) : n ≤ 257 := by
 unfold shortA at h
 simp at h; omega
theorem ShortAcks_any (a : Option Addr) (n c : Nat) (w : World) : Calls Tryz.prog 41 #[.slice a n c] w fun r w' => r = .returned (.bool (shortA n)) ∧ w = w' := by
 by_cases h1 : n ≤ 20
 ·have e : shortA n = true := by unfold shortA; simp [h1]
  have d1 : (n : Int) ≤ 20 := by omega
  rw [e]
  clear e h1
  go_enter Tryz.func41, Tryz.ntmps41
  go_wp2
  go_ret
  exact ⟨rfl, rfl⟩
 ·have d1 : ¬ (n : Int) ≤ 20 := by omega
  by_cases h2 : n = 257
  ·subst h2
   go_enter Tryz.func41, Tryz.ntmps41
   go_wp2
   go_ret
   exact ⟨rfl, rfl⟩
  ·have e : shortA n = false := by unfold shortA; simp [h1, h2]
   have d2 : ((n : Int) == 257) = false := by rw [beq_eq_false_iff_ne]; omega
   rw [e]
   clear e h1 h2
   go_enter Tryz.func41, Tryz.ntmps41
   go_wp2
   go_ret
   exact ⟨rfl, rfl⟩
theorem CheckValveR_any (n : Int) (w : World) : Calls Tryz.prog 52 #[.int .i64 n] w fun r w' => r = .returned (.int .i64 (withinE n 0 11)) ∧ w = w' := by
 go_enter Tryz.func52, Tryz.ntmps52
 go_wp2_with fail
 refine (CheckRange_any n 0 11 w).mono ?_
 rintro e w2 ⟨rfl, rfl⟩
 go_wp2
 go_ret
 exact ⟨rfl, rfl⟩
def ackE (l : List P2) : Int := if 256 < l.length then 5 else eachE ackG l
theorem mis_ref (l : List P2) (t lim : Int) : firstE [ackE l, withinE t 0 100000, withinE lim 0 100000] = misE l t lim := by
 unfold misE misE1 ackE
 split
 ·rfl
 ·rfl
set_option maxRecDepth 100000 in
set_option maxHeartbeats 2000000 in
theorem CheckAcksR_any (v : Value) (l : List P2) (w : World) (hl : l.length ≤ 1000000) (hv : Prs w v l) :
 Calls Tryz.prog 48 #[v] w fun r w' => r = .returned (.int .i64 (ackE l)) ∧ Below w.heap.size w w' := by
 have HV := Lib.hid hv
 obtain ⟨a, cp, rfl, -⟩ := hv.slice
 obtain ⟨N, hN⟩ : ∃ N, N = l.length := ⟨_, rfl⟩
 rw [← hN] at HV hl ⊢
 have HN := Lib.hid hN
 by_cases hbig : 256 < N
 ·have he : ackE l = 5 := by unfold ackE; rw [if_pos (by omega)]
  have d1 : (256 : Int) < (N : Int) := by omega
  rw [he]
  clear he hN hbig hv
  go_enter Tryz.func48, Tryz.ntmps48
  go_wp2
  go_ret
  exact ⟨rfl, Below.refl _ _⟩
 ·have he : ackE l = eachE ackG l := by unfold ackE; rw [if_neg (by omega)]
  have d1 : ¬ (256 : Int) < (N : Int) := by omega
  rw [he]
  have HS := Lib.hid (fun (k : Nat) (x : P2) (hx : l[k]? = some x) (h : firstE ((l.mapIdx ackG).take k) = 0) => eachE_step hx h)
  have HT := Lib.hid (fun (k : Nat) (x : P2) (hx : l[k]? = some x) (h : firstE ((l.mapIdx ackG).take k) = 0) (hne : ackG k x ≠ 0) => eachE_stop hx h hne)
  have HE := Lib.hid (fun (h : firstE ((l.mapIdx ackG).take l.length) = 0) => eachE_end h)
  obtain ⟨E, hE⟩ : ∃ e, e = eachE ackG l := ⟨_, rfl⟩
  rw [← hE] at HT HE ⊢
  clear he hN hbig hv hE
  go_enter Tryz.func48, Tryz.ntmps48
  go_wp2_with fail
  go_loopw [3] (fun i wr => ∃ k : Nat, k ≤ N ∧ i = .int .i64 k ∧ firstE ((l.mapIdx ackG).take k) = 0 ∧ Below w.heap.size w wr) (fun i _ => N - (intOf i).toNat)
  case atStart => exact ⟨0, by omega, rfl, rfl, Below.refl _ _⟩
  case round =>
   obtain ⟨k, hk, rfl, hf, hbel⟩ := hrel
   have HF := Lib.hid hf
   clear hf
   by_cases hlt : k < N
   ·have hdk : (k : Int) < (N : Int) := by omega
    obtain ⟨x, hx⟩ : ∃ x, l[k]? = some x := ⟨_, List.getElem?_eq_getElem (by rw [← HN.out]; exact hlt)⟩
    obtain ⟨b, off, cp', he, hcs⟩ := (HV.out.carry hbel).head (by rw [← HN.out]; omega)
    simp only [Value.slice.injEq] at he
    obtain ⟨rfl, -, rfl⟩ := he
    obtain ⟨c0, c1⟩ := rw2 (hcs k x hx) (show pV x = [.int .i64 x.1, .int .i64 x.2] from rfl)
    have hs := HS.out k x hx HF.out
    have ht := HT.out k x hx HF.out
    have T0 := Lib.hid (fun W => CheckValveR_any x.1 W)
    have T1 := Lib.hid (fun W => CheckTickR_any x.2 W)
    have hgx : ackG k x = firstE [withinE x.1 0 11, withinE x.2 0 100000] := rfl
    obtain ⟨e0, he0⟩ : ∃ e, e = withinE x.1 0 11 := ⟨_, rfl⟩
    obtain ⟨e1, he1⟩ : ∃ e, e = withinE x.2 0 100000 := ⟨_, rfl⟩
    rw [← he0] at T0 hgx
    rw [← he1] at T1 hgx
    obtain ⟨R, hR⟩ : ∃ r, r = ackG k x := ⟨_, rfl⟩
    rw [← hR] at hs ht hgx
    have TF := Lib.hid (fun G W h => first2R e0 e1 G W h)
    rw [← hgx] at TF
    obtain ⟨x0, x1⟩ := x
    dsimp only at c0 c1 T0 T1
    have HS1 := Lib.hid hs
    have HT1 := Lib.hid ht
    clear hs ht hgx hR he0 he1 hcs hx hlt
    go_upto_region 6 with fail
    refine wp_region_E 99 (by kernel_rfl) ?_
    obtain ⟨wz, hwz⟩ : ∃ v, v = wr.drew := ⟨_, rfl⟩
    rw [← hwz]
    have hlz : Below wr.heap.size wr wz := by rw [hwz]; exact (Below.refl _ _).drew
    have hbz := bthen hbel hlz
    have c0 := cellb c0 hlz
    have c1 := cellb c1 hlz
    clear hwz hlz
    refine zT 0 ⟨some 14, .move (.tmp 0), 82, "ref.go:324", #[], none⟩ (v := ?_) rfl (Or.inl ⟨by rfl, ?_⟩) ?_
    rotate_left
    ·(intro w hE; have c0 := cellb c0 hE; have c1 := cellb c1 hE; (try dsimp only); go_simp); (try with_reducible rfl)
    try simp only [Act.put, zS]
    refine zT 1 ⟨some 15, .move (.tmp 3), 3, "ref.go:324", #[], none⟩ (v := ?_) rfl (Or.inl ⟨by rfl, ?_⟩) ?_
    rotate_left
    ·(intro w hE; have c0 := cellb c0 hE; have c1 := cellb c1 hE; (try dsimp only); go_simp); (try with_reducible rfl)
    try simp only [Act.put, zS]
    refine zT 2 ⟨some 16, .indexAddr 82 (.tmp 14) (.tmp 15), 0, "ref.go:324", #[⟨0, .data⟩, ⟨1, .data⟩], none⟩ (v := ?_) rfl (Or.inl ⟨by rfl, ?_⟩) ?_
    rotate_left
    ·(intro w hE; have c0 := cellb c0 hE; have c1 := cellb c1 hE; (try dsimp only); go_simp); (try with_reducible rfl)
    try simp only [Act.put, zS]
    refine zT 3 ⟨some 17, .fieldAddr 170 (.tmp 16) 0, 0, "ref.go:324", #[⟨2, .data⟩], none⟩ (v := ?_) rfl (Or.inl ⟨by rfl, ?_⟩) ?_
    rotate_left
    ·(intro w hE; have c0 := cellb c0 hE; have c1 := cellb c1 hE; (try dsimp only); go_simp); (try with_reducible rfl)
    try simp only [Act.put, zS]
    refine zT 4 ⟨some 18, .load 3 (.tmp 17), 3, "ref.go:324", #[⟨3, .data⟩], none⟩ (v := ?_) rfl (Or.inl ⟨by rfl, ?_⟩) ?_
    rotate_left
    ·(intro w hE; have c0 := cellb c0 hE; have c1 := cellb c1 hE; (try dsimp only); go_simp); (try with_reducible rfl)
    try simp only [Act.put, zS]
    refine zT 6 ⟨some 20, .move (.tmp 0), 82, "ref.go:324", #[], none⟩ (v := ?_) rfl (Or.inl ⟨by rfl, ?_⟩) ?_
    rotate_left
    ·(intro w hE; have c0 := cellb c0 hE; have c1 := cellb c1 hE; (try dsimp only); go_simp); (try with_reducible rfl)
    try simp only [Act.put, zS]
    refine zT 7 ⟨some 21, .move (.tmp 3), 3, "ref.go:324", #[], none⟩ (v := ?_) rfl (Or.inl ⟨by rfl, ?_⟩) ?_
    rotate_left
    ·(intro w hE; have c0 := cellb c0 hE; have c1 := cellb c1 hE; (try dsimp only); go_simp); (try with_reducible rfl)
    try simp only [Act.put, zS]
    refine zT 8 ⟨some 22, .indexAddr 82 (.tmp 20) (.tmp 21), 0, "ref.go:324", #[⟨6, .data⟩, ⟨7, .data⟩], none⟩ (v := ?_) rfl (Or.inl ⟨by rfl, ?_⟩) ?_
    rotate_left
    ·(intro w hE; have c0 := cellb c0 hE; have c1 := cellb c1 hE; (try dsimp only); go_simp); (try with_reducible rfl)
    try simp only [Act.put, zS]
    refine zT 9 ⟨some 23, .fieldAddr 170 (.tmp 22) 1, 0, "ref.go:324", #[⟨8, .data⟩], none⟩ (v := ?_) rfl (Or.inl ⟨by rfl, ?_⟩) ?_
    rotate_left
    ·(intro w hE; have c0 := cellb c0 hE; have c1 := cellb c1 hE; (try dsimp only); go_simp); (try with_reducible rfl)
    try simp only [Act.put, zS]
    refine zT 10 ⟨some 24, .load 3 (.tmp 23), 3, "ref.go:324", #[⟨9, .data⟩], none⟩ (v := ?_) rfl (Or.inl ⟨by rfl, ?_⟩) ?_
    rotate_left
    ·(intro w hE; have c0 := cellb c0 hE; have c1 := cellb c1 hE; (try dsimp only); go_simp); (try with_reducible rfl)
    try simp only [Act.put, zS]
    refine zC 5 ⟨some 19, .call ⟨.value (.func 52), #[.tmp 18], #[3]⟩, 3, "ref.go:324", #[⟨4, .data⟩], none⟩ (fun w hE => ofPure (T0.out w)) rfl (by rfl) (fun w hE => by (try dsimp only); go_simp) ?_
    try simp only [Act.put, zS]
    refine zC 11 ⟨some 25, .call ⟨.value (.func 15), #[.tmp 24], #[3]⟩, 3, "ref.go:324", #[⟨10, .data⟩, ⟨5, .chain⟩], none⟩ (fun w hE => ofPure (T1.out w)) rfl (by rfl) (fun w hE => by (try dsimp only); go_simp) ?_
    try simp only [Act.put, zS]
    refine wpAnyE_one (i := 12) (o := ⟨some 26, .buildSlice 70 2 #[(0, .tmp 19), (1, .tmp 25)], 70, "ref.go:324", #[⟨5, .data⟩, ⟨11, .data⟩], none⟩) (by kernel_rfl) rfl (fun wy1 hE K hK => ?_)
    have c0 := cellb c0 hE
    have c1 := cellb c1 hE
    have hbz1 := bthen hbz hE
    clear hE
    go_simp
    obtain ⟨wx1, hwz⟩ : ∃ v, v = wy1.alloc (Obj.cells #[.int .i64 e0, .int .i64 e1] 3) := ⟨_, rfl⟩
    rw [← hwz]
    have hl : Below wy1.heap.size wy1 wx1 := by rw [hwz]; exact below_new _ _
    have hcz1 := bthen hbz1 hl
    have iN : BlkI wx1 wy1.heap.size 3 [e0, e1] := by rw [hwz]; exact Blk.new _ _ _
    generalize wy1.heap.size = G at iN ⊢
    have c0 := cellb c0 hl
    have c1 := cellb c1 hl
    clear hwz
    refine hK _ _ (fun _ => hl) ?_
    clear hK K hl
    try simp only [Act.put, zS]
    refine zC 13 ⟨some 27, .call ⟨.value (.func 77), #[.tmp 26], #[70]⟩, 3, "ref.go:324", #[⟨12, .data⟩, ⟨11, .chain⟩], none⟩ (fun w hE => ofPure (TF.out _ w (Blk.carry iN hE))) rfl (by rfl) (fun w hE => by (try dsimp only); go_simp) ?_
    try simp only [Act.put, zS]
    refine zT 14 ⟨some 4, .assign (.tmp 27), 3, "ref.go:324", #[⟨13, .data⟩, ⟨13, .chain⟩, ⟨0, .phase⟩, ⟨1, .phase⟩, ⟨2, .phase⟩, ⟨3, .phase⟩, ⟨4, .phase⟩, ⟨5, .phase⟩, ⟨6, .phase⟩, ⟨7, .phase⟩, ⟨8, .phase⟩, ⟨9, .phase⟩, ⟨10, .phase⟩, ⟨11, .phase⟩, ⟨12, .phase⟩, ⟨13, .phase⟩], none⟩ (v := ?_) rfl (Or.inl ⟨by rfl, ?_⟩) ?_
    rotate_left
    ·(intro w hE; have c0 := cellb c0 hE; have c1 := cellb c1 hE; (try dsimp only); go_simp); (try with_reducible rfl)
    try simp only [Act.put, zS]
    refine wpAnyE_done (by kernel_rfl) (fun wy2 hE => ?_) _
    have hbz2 := bthen hcz1 hE
    have c0 := cellb c0 hE
    have c1 := cellb c1 hE
    have iN := iN.carry hE
    clear hE
    have hbel := hbz2
    obtain ⟨W9, hW9⟩ : ∃ v, v = wy2 := ⟨_, rfl⟩
    rw [← hW9] at hbel ⊢
    clear hW9 iN
    clear c0 c1 T0 T1 TF
    by_cases hz : R = 0
    ·have HS2 := Lib.hid (HS1.out.trans hz)
     have hb0 : (R != 0) = false := by rw [bne_eq_false_iff_eq]; exact hz
     clear hz
     go_wp2
     go_roundw
     case rel => exact ⟨k + 1, by omega, by go_num, HS2.out, hbel⟩
     case measure => simp [intOf]; omega
    ·obtain rfl := HT1.out hz
     have hb0 : (E != 0) = true := by rw [bne_iff_ne]; exact hz
     clear hz
     go_wp2
     go_ret
     exact ⟨rfl, hbel⟩
   ·obtain rfl : k = N := by omega
    have hdk : ¬ (k : Int) < (k : Int) := by omega
    have hz : E = 0 := HE.out (by rw [← HN.out]; exact HF.out)
    subst hz
    go_wp2
    go_ret
    exact ⟨rfl, hbel⟩
set_option maxRecDepth 100000 in
set_option maxHeartbeats 4000000 in
theorem MissingR_any (v : Value) (l : List P2) (t lim : Int) (w : World) (hl : l.length ≤ 1000000) (ht : 0 ≤ t ∧ t ≤ 100000) (hm : 0 ≤ lim ∧ lim ≤ 100000) (hv : Prs w v l) :
 Calls Tryz.prog 53 #[v, .int .i64 t, .int .i64 lim] w fun r w' => (∃ u, r = .returned u ∧ w'.ownsRow w.heap.size 3 1 u (misK l t lim 12).length ((misK l t lim 12).map (Value.int .i64))) ∧ Below w.heap.size w w' := by
 have HV := Lib.hid hv
 obtain ⟨a, cp, rfl, -⟩ := hv.slice
 obtain ⟨i0, hi, hz0, hz1, hz2⟩ := info_parts Tryz.infZint
 obtain ⟨N, hN⟩ : ∃ N, N = l.length := ⟨_, rfl⟩
 rw [← hN] at HV hl ⊢
 have HN := Lib.hid hN
 have w1 : IntKind.i64.wrap (t - lim) = t - lim := IntWalk.i64_in _ (by omega)
 obtain ⟨d, hd⟩ : ∃ d, d = t - lim := ⟨_, rfl⟩
 rw [← hd] at w1
 have HD := Lib.hid hd
 have w2 : IntKind.i64.wrap (t - lim) = d := by rw [HD.out] at w1; rw [HD.out]; exact w1
 clear hN hv hd w1 ht hm
 go_enter Tryz.func53, Tryz.ntmps53
 go_wp2_with fail
 go_loopw [7, 8] (fun u i wr => ∃ k : Nat, k ≤ 12 ∧ i = .int .i64 k ∧ wr.ownsRow w.heap.size 3 1 u (misK l t lim k).length ((misK l t lim k).map (Value.int .i64)) ∧ Below w.heap.size w wr) (fun _ i _ => 12 - (intOf i).toNat)
 case atStart => exact ⟨0, by omega, rfl, World.ownsRow_nil _ _ _ _, Below.refl _ _⟩
 case round =>
  obtain ⟨k, hk, rfl, hown, hbel⟩ := hrel
  by_cases hlt : k < 12
  ·have hdk : (k : Int) < 12 := by omega
   have hHVW := HV.out.carry hbel
   have HVW := Lib.hid hHVW
   have hbs := misK_succ l t lim k
   have HBS := Lib.hid hbs
   have hLe := misK_len l t lim k
   obtain ⟨NB, hNB⟩ : ∃ N, N = (misK l t lim k).length := ⟨_, rfl⟩
   rw [← hNB] at hown hLe
   have HNB := Lib.hid hNB
   obtain ⟨oa, oc, rfl⟩ := own_slice hown
   have HOWN := Lib.hid hown
   clear hbs hNB hown hHVW
   go_wp2_with fail
   go_loop [9, 10] (fun b i => ∃ j : Nat, j ≤ N ∧ i = .int .i64 j ∧ b = .bool ((l.take j).any (misB (k : Int) t lim))) (fun _ i => N - (intOf i).toNat)
   case atStart => exact ⟨0, by omega, rfl, rfl⟩
   case round =>
    obtain ⟨j, hj, rfl, rfl⟩ := hrel
    by_cases hj2 : j < N
    ·have hdj : (j : Int) < (N : Int) := by omega
     obtain ⟨x, hx⟩ : ∃ x, l[j]? = some x := ⟨_, List.getElem?_eq_getElem (by rw [← HN.out]; exact hj2)⟩
     obtain ⟨b, off, cp', he, hcs⟩ := HVW.out.head (by rw [← HN.out]; omega)
     simp only [Value.slice.injEq] at he
     obtain ⟨rfl, -, rfl⟩ := he
     obtain ⟨c0, c1⟩ := rw2 (hcs j x hx) (show pV x = [.int .i64 x.1, .int .i64 x.2] from rfl)
     have hs : (l.take (j + 1)).any (misB (k : Int) t lim) = ((l.take j).any (misB (k : Int) t lim) || (x.1 == (k : Int) && (decide (d ≤ x.2) && decide (x.2 ≤ t)))) := by
      rw [List.take_add_one, hx, List.any_append]; simp [misB, HD.out]
     obtain ⟨A, hA⟩ : ∃ A, A = (l.take j).any (misB (k : Int) t lim) := ⟨_, rfl⟩
     rw [← hA] at hs ⊢
     obtain ⟨x0, x1⟩ := x
     dsimp only at c0 c1 hs
     have HS := Lib.hid hs
     have g1 : (0 : Int) ≤ (j : Int) := by omega
     clear hcs hx hs hA
     cases A with
     | true =>
       go_wp2
       go_round
       case rel => exact ⟨j + 1, by omega, by go_num, by rw [HS.out]; rfl⟩
       case measure => simp [intOf]; omega
     | false =>
       by_cases e1 : x0 = (k : Int)
       ·have z1 : (x0 == (k : Int)) = true := by rw [beq_iff_eq]; exact e1
        by_cases e2 : d ≤ x1
        ·by_cases e3 : x1 ≤ t
         ·have HS2 := Lib.hid (HS.out.trans (show _ = true by rw [z1, decide_eq_true e2, decide_eq_true e3]; rfl))
          clear HS e1
          go_wp2
          go_round
          case rel => exact ⟨j + 1, by omega, by go_num, by rw [HS2.out]⟩
          case measure => simp [intOf]; omega
         ·have HS2 := Lib.hid (HS.out.trans (show _ = false by rw [z1, decide_eq_true e2, decide_eq_false e3]; rfl))
          clear HS e1
          go_wp2
          go_round
          case rel => exact ⟨j + 1, by omega, by go_num, by rw [HS2.out]⟩
          case measure => simp [intOf]; omega
        ·have HS2 := Lib.hid (HS.out.trans (show _ = false by rw [z1, decide_eq_false e2]; rfl))
         clear HS e1
         go_wp2
         go_round
         case rel => exact ⟨j + 1, by omega, by go_num, by rw [HS2.out]⟩
         case measure => simp [intOf]; omega
       ·have z1 : (x0 == (k : Int)) = false := by rw [beq_eq_false_iff_ne]; exact e1
        have HS2 := Lib.hid (HS.out.trans (show _ = false by rw [z1]; rfl))
        clear HS e1
        go_wp2
        go_round
        case rel => exact ⟨j + 1, by omega, by go_num, by rw [HS2.out]⟩
        case measure => simp [intOf]; omega
    ·have hjN : j = N := by omega
     have e6 : ¬ (j : Int) < (N : Int) := by omega
     rw [List.take_of_length_le (by rw [← HN.out]; omega)]
     obtain ⟨A, hA⟩ : ∃ A, A = l.any (misB (k : Int) t lim) := ⟨_, rfl⟩
     rw [← hA] at HBS ⊢
     have hown := HOWN.out
     clear hA hjN
     cases A with
     | true =>
       have HBS2 := Lib.hid (HBS.out.trans (by rw [if_pos rfl, List.append_nil]))
       clear HBS
       go_wp2
       go_roundw
       case rel => exact ⟨k + 1, by omega, by go_num, by rw [HBS2.out, ← HNB.out]; exact hown, hbel⟩
       case measure => simp [intOf]; omega
     | false =>
       have HBS2 := Lib.hid (HBS.out.trans (by rw [if_neg (by decide)]))
       clear HBS
       go_wp2_with (at_builtin; refine wpList_append_own _ rfl _ _ 70 rfl w.heap.size 3 i0 (.int .i64 0) 1 8 Tryz.undZint hi hz0 hz1 hz2 rfl (by decide) (.slice oa NB oc) NB _ rfl (own_below hown (below_new _ _)) ⟨wr.heap.size, 0, none⟩ 1 1 [.int .i64 k] rfl rfl (cell_one_new _ _ _) (by simp [Value.oneCell']) (by unfold maxLen; omega) (by omega) (by have := hbel.size; simp; omega) ?_; intro v7 w8 hown' hgrow _)
       have hbelN : Below w.heap.size w w8 := (bthen hbel (below_new wr (.cells #[.int .i64 k] 3))).trans (below_grow (own_below hown (below_new _ _)) (by have := hbel.size; simp; omega) hgrow)
       have hownN : w8.ownsRow w.heap.size 3 1 v7 (misK l t lim (k + 1)).length ((misK l t lim (k + 1)).map (Value.int .i64)) := by
        rw [HBS2.out, List.length_append, List.map_append, ← HNB.out]
        exact hown'
       clear hown hown' hgrow hbel
       go_wp2
       go_roundw
       case rel => exact ⟨k + 1, by omega, by go_num, hownN, hbelN⟩
       case measure => simp [intOf]; omega
  ·obtain rfl : k = 12 := by omega
   have hout := hown
   clear hown
   go_wp2
   go_ret
   exact ⟨⟨_, rfl, hout⟩, hbel⟩
end
section
set_option linter.unusedSimpArgs false
set_option linter.unusedVariables false
open Go.RowKit Flp
theorem subB_has {p s : Int} (hp : 0 ≤ p ∧ p ≤ 4095) : subB s p = hasR p s.toNat := by
 unfold subB
 rw [bit_and _ hp, hasR_bit hp.1, Bool.eq_iff_iff]
 simp
/-- pulses with a spare valve in place of a failed one. -/
def sbtR (f s : Nat) (p : Int) : Int := if hasR p f = true then wtoR p f + 2 ^ s else wtoR p f
theorem or_pow {A s : Nat} (h : A.testBit s = false) : A ||| 2 ^ s = A + 2 ^ s := by
 have h1 : (A ||| 2 ^ s).testBit s = true := by rw [Nat.testBit_or, Nat.testBit_two_pow]; simp
 have h2 := sub_two_pow h1
 have h3 : (A ||| 2 ^ s) - 2 ^ s = A := by
  apply Nat.eq_of_testBit_eq
  intro i
  rw [h2, Nat.testBit_or, Nat.testBit_two_pow]
  by_cases he : i = s
  ·subst he; simp [h]
  ·have : ¬ s = i := fun e => he e.symm
   simp [he, this]
 have h4 := Nat.ge_two_pow_of_testBit h1
 omega
theorem byp_one {p : Int} {f : Nat} (hp : 0 ≤ p ∧ p ≤ 4095) (hf : f < 12) : bypV (2 ^ f) p = wtoR p f := by
 have hb : (2 : Nat) ^ f ≤ 2 ^ 11 := Nat.pow_le_pow_right (by decide) (by omega)
 have e2 : (2 : Int) ^ f = ((2 ^ f : Nat) : Int) := by simp
 have p0 : (0 : Int) < 2 ^ f := pow_pos2 f
 rw [e2, bypV_eq (by omega) hp]
 obtain ⟨P, rfl⟩ := Int.eq_ofNat_of_zero_le hp.1
 obtain ⟨P1, h1, -, h3⟩ := bypK_nat (2 ^ f) P 12
 obtain ⟨P2, g1, -, g3⟩ := wtoR_nat P f
 show bypK ((2 ^ f : Nat) : Int) (P : Int) 12 = wtoR (P : Int) f
 rw [h1, g1]
 congr 1
 apply Nat.eq_of_testBit_eq
 intro i
 rw [h3, g3, Nat.testBit_two_pow]
 by_cases he : i = f
 ·subst he; simp [hf]
 ·have : ¬ f = i := fun e => he e.symm
  simp [he, this]
theorem or_byp {A : Nat} {s : Nat} {b : Int} (hA : A ≤ 4095) (hs : s < 12) (h : A.testBit s = false) (hb : b = 0 ∨ b = 1) : bits .or .i64 (A : Int) (IntKind.i64.wrap (b * 2 ^ s)) = if b = 1 then (A : Int) + 2 ^ s else A := by
 have hp : (2 : Nat) ^ s ≤ 2 ^ 11 := Nat.pow_le_pow_right (by decide) (by omega)
 have e2 : (2 : Int) ^ s = ((2 ^ s : Nat) : Int) := by simp
 have p0 : (0 : Int) < 2 ^ s := pow_pos2 s
 have q1 : BitVec.ofInt 64 (A : Int) = BitVec.ofNat 64 A := rfl
 rcases hb with rfl | rfl
 ·rw [Int.zero_mul, if_neg (by decide), show IntKind.i64.wrap 0 = 0 by decide]
  show IntKind.i64.wrap ((BitVec.ofInt 64 (A : Int) ||| BitVec.ofInt 64 ((0 : Nat) : Int)).toNat : Nat) = _
  have q2 : BitVec.ofInt 64 ((0 : Nat) : Int) = BitVec.ofNat 64 0 := rfl
  rw [q1, q2, BitVec.toNat_or, BitVec.toNat_ofNat, BitVec.toNat_ofNat, Nat.mod_eq_of_lt (by omega), Nat.zero_mod, Nat.or_zero, IntWalk.i64_in _ (by omega)]
 ·rw [Int.one_mul, if_pos rfl, e2, IntWalk.i64_in _ (by omega)]
  show IntKind.i64.wrap ((BitVec.ofInt 64 (A : Int) ||| BitVec.ofInt 64 ((2 ^ s : Nat) : Int)).toNat : Nat) = _
  have q2 : BitVec.ofInt 64 ((2 ^ s : Nat) : Int) = BitVec.ofNat 64 (2 ^ s) := rfl
  rw [q1, q2, BitVec.toNat_or, BitVec.toNat_ofNat, BitVec.toNat_ofNat, Nat.mod_eq_of_lt (by omega), Nat.mod_eq_of_lt (by omega), or_pow h, IntWalk.i64_in _ (by omega)]
  omega
theorem subV_eq {f s p : Int} (hp : 0 ≤ p ∧ p ≤ 4095) (hf : 0 ≤ f ∧ f ≤ 11) (hs : 0 ≤ s ∧ s ≤ 11) (hne : f ≠ s) (hn : hasR p s.toNat = false) : subV f s p = sbtR f.toNat s.toNat p := by
 obtain ⟨F, rfl⟩ := Int.eq_ofNat_of_zero_le hf.1
 obtain ⟨S, rfl⟩ := Int.eq_ofNat_of_zero_le hs.1
 have hF : F < 12 := by omega
 have hS : S < 12 := by omega
 have hpow : (2 : Nat) ^ F ≤ 2 ^ 11 := Nat.pow_le_pow_right (by decide) (by omega)
 have e2 : (2 : Int) ^ F = ((2 ^ F : Nat) : Int) := by simp
 have p0 : (0 : Int) < 2 ^ F := pow_pos2 F
 show bits .or .i64 (bits .andNot .i64 p (IntKind.i64.wrap (2 ^ F))) (IntKind.i64.wrap (bits .and .i64 (p / 2 ^ F) 1 * 2 ^ S)) = sbtR F S p
 have hw : IntKind.i64.wrap (2 ^ F) = 2 ^ F := by rw [e2]; exact IntWalk.i64_in _ (by omega)
 rw [hw, bit_and _ hp]
 have h1 : bits .andNot .i64 p (2 ^ F) = wtoR p F := byp_one hp hF
 rw [h1]
 have hn' : hasR p S = false := hn
 have hbit := hasR_bit hp.1 F
 obtain ⟨P, rfl⟩ := Int.eq_ofNat_of_zero_le hp.1
 obtain ⟨P', g1, g2, g3⟩ := wtoR_nat P F
 have hneN : S ≠ F := fun e => hne (by rw [e])
 have ht : P'.testBit S = false := by
  rw [g3, ← hasR_nat]
  have : hasR (P : Int) S = false := hn'
  rw [this]; rfl
 unfold sbtR
 show bits .or .i64 (wtoR (P : Int) F) (IntKind.i64.wrap (bitV (P : Int) F * 2 ^ S)) = if hasR (P : Int) F = true then wtoR (P : Int) F + 2 ^ S else wtoR (P : Int) F
 rw [g1]
 have hr := bitV_rng (P : Int) F
 rw [or_byp (by omega) hS ht (by omega)]
 have hb2 : hasR (P : Int) F = decide (bitV (P : Int) F = 1) := hbit
 rw [hb2]
 simp
theorem gt_sx {x y : Nat} (hx : smpE x = 0) (hy : smpE y = 0) : gtF y x = decide (sxN x < sxN y) := by
 obtain ⟨v, hv, _, h16⟩ := smp_some hx
 obtain ⟨u, hu, _, g16⟩ := smp_some hy
 have ex : sxN x = 16 * v / U := by unfold sxN; rw [hv]; exact tdiv_of _ h16
 have ey : sxN y = 16 * u / U := by unfold sxN; rw [hu]; exact tdiv_of _ g16
 have ho : FloatKind.f32.format.order y x = some (compare u v) := order32 hu hv
 unfold gtF
 rw [ho, ex, ey]
 have hU := U_pos
 have hiff : v < u ↔ 16 * v / U < 16 * u / U := by
  generalize 16 * v / U = a at h16
  generalize 16 * u / U = b at g16
  generalize U = w at hU h16 g16
  constructor
  ·intro h
   have h2 : a * w < b * w := by omega
   exact Int.lt_of_mul_lt_mul_right h2 (Int.le_of_lt hU)
  ·intro h
   have h2 : a * w < b * w := Int.mul_lt_mul_of_pos_right h hU
   omega
 rw [Bool.eq_iff_iff, decide_eq_true_eq, ← hiff, beq_iff_eq, Option.some.injEq, Int.compare_eq_gt]
end
end Go.Proofs.YtgdkomgfalkihaaGreatDoor

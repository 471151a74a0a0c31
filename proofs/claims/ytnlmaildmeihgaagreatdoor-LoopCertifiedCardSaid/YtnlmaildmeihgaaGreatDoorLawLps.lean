/- The law LoopLoops. -/
import Derived.Test.YtnlmaildmeihgaaGreatDoorRefM
namespace Go.Proofs.YtnlmaildmeihgaaGreatDoor
open Go.RowKit

/-- an empty list's value. -/
theorem ValueR0_any (x : Option Addr) (c : Nat) (zr zi : Int) (w : World) :
    Calls Tryz.prog 34 #[.slice x 0 c, .agg #[.int .i64 zr, .int .i64 zi]] w fun e w' => e = .returned (.agg #[.int .i64 0, .int .i64 0]) ∧ Below w.heap.size w w' := by
  go_enter Tryz.func34, Tryz.ntmps34
  go_wp2_with fail
  obtain ⟨W1, hW1⟩ : ∃ v, v = World.alloc w (Obj.cells #[.int .i64 zr, .int .i64 zi] 59) := ⟨_, rfl⟩
  have kW1 : Below w.heap.size w W1 := by rw [hW1]; exact below_new _ _
  have iW1 : Blk W1 (w.heap.size) 59 [.int .i64 zr, .int .i64 zi] := by rw [hW1]; exact Blk.new _ _ _
  have sW1 : W1.heap.size = w.heap.size + 1 := by rw [hW1]; simp
  rw [← hW1]
  clear hW1
  obtain ⟨W2, hW2⟩ : ∃ v, v = World.alloc W1 (Obj.cells #[.int .i64 0, .int .i64 0] 59) := ⟨_, rfl⟩
  have kW2 : Below W1.heap.size W1 W2 := by rw [hW2]; exact below_new _ _
  have iW2 : Blk W2 (w.heap.size + 1) 59 [.int .i64 0, .int .i64 0] := by rw [hW2, ← sW1]; exact Blk.new _ _ _
  have sW2 : W2.heap.size = w.heap.size + 1 + 1 := by rw [hW2]; simp [sW1]
  rw [← hW2]
  clear hW2
  obtain ⟨W3, hW3⟩ : ∃ v, v = World.alloc W2 (Obj.cells #[.int .i64 0, .int .i64 0] 59) := ⟨_, rfl⟩
  have kW3 : Below W2.heap.size W2 W3 := by rw [hW3]; exact below_new _ _
  have iW3 : Blk W3 (w.heap.size + 1 + 1) 59 [.int .i64 0, .int .i64 0] := by rw [hW3, ← sW2]; exact Blk.new _ _ _
  have sW3 : W3.heap.size = w.heap.size + 1 + 1 + 1 := by rw [hW3]; simp [sW2]
  rw [← hW3]
  clear hW3
  obtain ⟨W4, hW4⟩ : ∃ v, v = World.alloc W3 (Obj.cells #[.int .i64 1, .int .i64 0] 59) := ⟨_, rfl⟩
  have kW4 : Below W3.heap.size W3 W4 := by rw [hW4]; exact below_new _ _
  have iW4 : Blk W4 (w.heap.size + 1 + 1 + 1) 59 [.int .i64 1, .int .i64 0] := by rw [hW4, ← sW3]; exact Blk.new _ _ _
  have sW4 : W4.heap.size = w.heap.size + 1 + 1 + 1 + 1 := by rw [hW4]; simp [sW3]
  rw [← hW4]
  clear hW4
  clear sW4 sW3 sW2 sW1
  have hO := iW3.carry kW4
  have hR := iW2.carry (bthen kW3 kW4)
  have hbr := bthen kW1 (bthen kW2 (bthen kW3 kW4))
  clear iW1 iW2 iW3 iW4 kW1 kW2 kW3 kW4
  go_loopw [7] (fun vk wr => vk = .int .i64 0 ∧ wr = W4) (fun _ _ => 0)
  case atStart => exact ⟨rfl, rfl⟩
  case round =>
    obtain ⟨rfl, rfl⟩ := hrel
    have q0 := hO.cell (j := 0) (v := .int .i64 0) rfl
    have q1 := hO.cell (j := 1) (v := .int .i64 0) rfl
    have r0 := hR.cell (j := 0) (v := .int .i64 0) rfl
    have r1 := hR.cell (j := 1) (v := .int .i64 0) rfl
    have f0 := hR.frozen 0
    have f1 := hR.frozen 1
    go_wp2_with fail
    have hR9 := hR.set2 (.int .i64 0) (.int .i64 0)
    have y0 := hR9.cell (j := 0) (v := .int .i64 0) rfl
    have y1 := hR9.cell (j := 1) (v := .int .i64 0) rfl
    exact bodyPost_ret (v := .agg #[.int .i64 0, .int .i64 0]) (by simp [results, Tryz.f34, go_sem, y0, y1]) rfl ⟨rfl, (hbr.setCell (by simp) _).setCell (by simp) _⟩
theorem ValueR'_any (v : Value) (p : List Int) (zr zi : Int) (w : World) (hv : Ints w v p) (hl : p.length ≤ 100000) :
    Calls Tryz.prog 34 #[v, .agg #[.int .i64 zr, .int .i64 zi]] w fun e w' => e = .returned (.agg #[.int .i64 (atW p zr zi).1, .int .i64 (atW p zr zi).2]) ∧ Below w.heap.size w w' := by
  cases p with
  | nil =>
    obtain ⟨x, c, rfl, _⟩ := hv
    exact ValueR0_any x c zr zi w
  | cons x l => exact ValueR_any v _ zr zi w hv (by simp) hl

/-- a float that is equal to itself. -/
def FEq (x : Nat) : Prop := Op.floatEq .f64 x x = true
theorem order_self (d : Ieee.Datum) (h : d.isNaN = false) : d.order d = some .eq := by
  cases d with
  | number s m i => simp [Ieee.Datum.order]
  | infinity s => simp [Ieee.Datum.order]
  | nan s t => simp [Ieee.Datum.isNaN] at h
theorem read_word (neg : Bool) (rung : Nat) (h : rung ≤ 9218868437227405312) : (Ieee.double.read (Ieee.double.word neg rung)).isNaN = false := by
  have e1 : Ieee.double.signWeight = 9223372036854775808 := by decide
  have e2 : Ieee.double.infRung = 9218868437227405312 := by decide
  have e3 : (Ieee.double.word neg rung) % 9223372036854775808 = rung := by
    unfold Ieee.Format.word
    rw [e1]
    split <;> omega
  unfold Ieee.Format.read
  simp only [e1, e2, e3]
  split
  · rfl
  · split
    · rfl
    · split
      · rfl
      · omega
theorem feq_int (n : Int) : FEq (floatOfInt .f64 n) := by
  have h : ∀ neg mag place, (Ieee.double.read (Ieee.double.nearest neg mag place)).isNaN = false := by
    intro neg mag place
    unfold Ieee.Format.nearest
    split
    · exact read_word _ _ (by omega)
    · exact read_word _ _ (Nat.le_trans (Nat.min_le_right _ _) (by decide))
  have : Ieee.double.order (floatOfInt .f64 n) (floatOfInt .f64 n) = some .eq := order_self _ (h _ _ _)
  show (Ieee.double.order (floatOfInt .f64 n) (floatOfInt .f64 n) == some .eq) = true
  rw [this]; rfl
theorem feq_zero : FEq 0 := by
  have : Ieee.double.order 0 0 = some .eq := order_self _ (read_word false 0 (by omega))
  show (Ieee.double.order 0 0 == some .eq) = true
  rw [this]; rfl

theorem equalCx (d x y : Nat) (hx : FEq x) (hy : FEq y) (w : World) : (Op.equalIn (d + 1) 48 (.complex .f64 x y) (.complex .f64 x y)).run Tryz.prog w = .ok true w := by
  have hu : Tryz.prog.underlying 48 = some (.complex .f64) := by kernel_rfl
  simp [Op.equalIn, run_underlying hu, show Op.floatEq .f64 x x = true from hx, show Op.floatEq .f64 y y = true from hy]
theorem eqCx (r0 i0 r1 i1 r2 i2 r3 i3 : Nat) (h : FEq r0 ∧ FEq i0 ∧ FEq r1 ∧ FEq i1 ∧ FEq r2 ∧ FEq i2 ∧ FEq r3 ∧ FEq i3) (w : World) :
    Sem.run Tryz.prog (binOp .eql 49 (.agg #[.complex .f64 r0 i0, .complex .f64 r1 i1, .complex .f64 r2 i2, .complex .f64 r3 i3]) (.agg #[.complex .f64 r0 i0, .complex .f64 r1 i1, .complex .f64 r2 i2, .complex .f64 r3 i3])) w = .ok (.bool true) w := by
  obtain ⟨i9, hi⟩ : ∃ i, Tryz.prog.info? 48 = some i := Option.isSome_iff_exists.1 (by kernel_rfl)
  have hu : Tryz.prog.underlying 48 = some (.complex .f64) := by kernel_rfl
  have hc : Tryz.prog.cellsOf 48 = 1 := by kernel_rfl
  rw [run_eql_struct, run_equalIn_array w 9999 (t := 49) (e := 48) (n := 4) _ _ (by kernel_rfl) hi, hc]
  have he : ∀ x y, FEq x → FEq y → (Op.equalIn 9999 48 (.complex .f64 x y) (.complex .f64 x y)).run Tryz.prog w = .ok true w := fun x y hx hy => equalCx 9998 x y hx hy w
  have hp : ∀ (xs : Array Value) (i : Nat) (x y : Nat), xs[i]? = some (.complex .f64 x y) → (part 48 xs i).run Tryz.prog w = .ok (.complex .f64 x y) w := fun xs i x y hx => by
    simp [part, isAgg, run_underlying hu, hx]
  obtain ⟨h0, h1, h2, h3, h4, h5, h6, h7⟩ := h
  show Result.andThen (Sem.run _ (Op.eqItems 9999 _ 1 _ _ [0, 1, 2, 3]) w) _ = _
  simp only [Op.eqItems, Sem.run_bind]
  rw [hp _ _ r0 i0 (by rfl)]
  simp only [Result.andThen_ok]
  rw [hp _ _ r0 i0 (by rfl)]
  simp only [Result.andThen_ok, he _ _ h0 h1, Bool.not_true, Bool.false_eq_true, if_false, Sem.run_bind]
  rw [hp _ _ r1 i1 (by rfl)]
  simp only [Result.andThen_ok]
  rw [hp _ _ r1 i1 (by rfl)]
  simp only [Result.andThen_ok, he _ _ h2 h3, Bool.not_true, Bool.false_eq_true, if_false, Sem.run_bind]
  rw [hp _ _ r2 i2 (by rfl)]
  simp only [Result.andThen_ok]
  rw [hp _ _ r2 i2 (by rfl)]
  simp only [Result.andThen_ok, he _ _ h4 h5, Bool.not_true, Bool.false_eq_true, if_false, Sem.run_bind]
  rw [hp _ _ r3 i3 (by rfl)]
  simp only [Result.andThen_ok]
  rw [hp _ _ r3 i3 (by rfl)]
  simp only [Result.andThen_ok, he _ _ h6 h7, Bool.not_true, Bool.false_eq_true, if_false]
  simp [Result.andThen]

theorem respR_four (a b c d : List Int) : ∃ r0 i0 r1 i1 r2 i2 r3 i3 : Nat, respR a b c d = [.complex .f64 r0 i0, .complex .f64 r1 i1, .complex .f64 r2 i2, .complex .f64 r3 i3] ∧ (FEq r0 ∧ FEq i0 ∧ FEq r1 ∧ FEq i1 ∧ FEq r2 ∧ FEq i2 ∧ FEq r3 ∧ FEq i3) := by
  unfold respR
  split
  · exact ⟨0, 0, 0, 0, 0, 0, 0, 0, rfl, feq_zero, feq_zero, feq_zero, feq_zero, feq_zero, feq_zero, feq_zero, feq_zero⟩
  · rw [show respRow (closedW a b c d) 4 = [respV (closedW a b c d) 0, respV (closedW a b c d) 1, respV (closedW a b c d) 2, respV (closedW a b c d) 3] by simp [respRow, List.range_succ]]
    exact ⟨_, _, _, _, _, _, _, _, rfl, feq_int _, feq_int _, feq_int _, feq_int _, feq_int _, feq_int _, feq_int _, feq_int _⟩
theorem respRow_at (l : List Int) (k : Nat) (h : k < 4) : (respRow l k)[k]? = some (.complex .f64 0 0) := by
  obtain rfl | rfl | rfl | rfl : k = 0 ∨ k = 1 ∨ k = 2 ∨ k = 3 := by omega
  all_goals rfl
theorem respRow_no (l : List Int) (k : Nat) : ∀ v ∈ respRow l k, NoInt v := by
  intro v hv x h
  subst h
  simp only [respRow, List.mem_map, List.mem_range] at hv
  obtain ⟨j, _, hj⟩ := hv
  split at hj <;> cases hj
theorem convF (n : Int) (w : World) : Sem.run Tryz.prog (convert 3 61 (.int .i64 n)) w = .ok (.float .f64 (floatOfInt .f64 n)) w := by
  go_simp

set_option maxRecDepth 100000 in
set_option maxHeartbeats 8000000 in
theorem lps_law (va vb vc vd : Value) (a b c d : List Int) (most : Int) (w : World) (hq : Quarters w) (hpw : Pows w) (ha : Ints w va a) (hb : Ints w vb b) (hc : Ints w vc c) (hd : Ints w vd d) :
    Calls Tryz.prog 4 #[.agg #[va, vb, vc, vd], .int .i64 most] w fun e w' => e = .returned (.bool true) ∧ Below w.heap.size w w' := by
  have HA := Lib.hid ha
  have HB := Lib.hid hb
  have HC := Lib.hid hc
  have HD := Lib.hid hd
  obtain ⟨xa, ca, rfl, _⟩ := id ha
  obtain ⟨xb, cb, rfl, _⟩ := id hb
  obtain ⟨xc, cc, rfl, _⟩ := id hc
  obtain ⟨xd, cd, rfl, _⟩ := id hd
  clear ha hb hc hd
  go_enter Tryz.func4, Tryz.ntmps4
  go_upto_region 1 with fail
  obtain ⟨W1, hW1⟩ : ∃ v, v = World.alloc w (Obj.cells #[.slice xa a.length ca, .slice xb b.length cb, .slice xc c.length cc, .slice xd d.length cd] 40) := ⟨_, rfl⟩
  have kW1 : Below w.heap.size w W1 := by rw [hW1]; exact below_new _ _
  have iW1 : Blk W1 (w.heap.size) 40 [.slice xa a.length ca, .slice xb b.length cb, .slice xc c.length cc, .slice xd d.length cd] := by rw [hW1]; exact Blk.new _ _ _
  have sW1 : W1.heap.size = w.heap.size + 1 := by rw [hW1]; simp
  rw [← hW1]
  clear hW1
  clear sW1
  have hB := kW1
  have iB := iW1
  clear kW1 iW1
  have e0 := iB.cell (j := 0) (v := .slice xa a.length ca) rfl
  have e1 := iB.cell (j := 1) (v := .slice xb b.length cb) rfl
  have e2 := iB.cell (j := 2) (v := .slice xc c.length cc) rfl
  have e3 := iB.cell (j := 3) (v := .slice xd d.length cd) rfl
  go_wp2_with fail
  clear e0 e1 e2 e3
  refine (ShortR_any _ _ _ _ a b c d W1 (HA.out.carry hB) (HB.out.carry hB) (HC.out.carry hB) (HD.out.carry hB)).mono ?_
  rintro e w1 ⟨rfl, hl⟩
  replace hB := bthen hB hl
  replace iB := iB.carry hl
  clear hl
  by_cases hs : shortL a b c d = true
  · have hs7 : a.length ≤ 7 ∧ b.length ≤ 7 ∧ c.length ≤ 7 ∧ d.length ≤ 7 := of_decide_eq_true hs
    obtain ⟨la, lb, lc, ld⟩ := hs7
    rw [hs]
    clear hs
    have e0 := iB.cell (j := 0) (v := .slice xa a.length ca) rfl
    have e1 := iB.cell (j := 1) (v := .slice xb b.length cb) rfl
    have e2 := iB.cell (j := 2) (v := .slice xc c.length cc) rfl
    have e3 := iB.cell (j := 3) (v := .slice xd d.length cd) rfl
    go_wp2_with fail
    clear e0 e1 e2 e3
    refine (given_any _ _ _ _ a b c d w1 (HA.out.carry hB) (HB.out.carry hB) (HC.out.carry hB) (HD.out.carry hB) (by omega) (by omega) (by omega) (by omega)).mono ?_
    rintro e w2 ⟨⟨u0, rfl, hu0⟩, hl⟩
    replace hB := bthen hB hl
    replace iB := iB.carry hl
    clear hl
    obtain ⟨va, vb, vc, vd, rfl, g1, g2, g3, g4⟩ := hu0
    go_wp2_with fail
    refine (Closed_any _ _ _ _ a b c d w2 g1 g2 g3 g4 (by omega) (by omega) (by omega) (by omega)).mono ?_
    rintro e w3 ⟨⟨us, rfl, hus⟩, hl⟩
    replace hB := bthen hB hl
    replace iB := iB.carry hl
    clear hl g1 g2 g3 g4
    have e0 := iB.cell (j := 0) (v := .slice xa a.length ca) rfl
    have e1 := iB.cell (j := 1) (v := .slice xb b.length cb) rfl
    have e2 := iB.cell (j := 2) (v := .slice xc c.length cc) rfl
    have e3 := iB.cell (j := 3) (v := .slice xd d.length cd) rfl
    go_wp2_with fail
    clear e0 e1 e2 e3
    refine (given_any _ _ _ _ a b c d w3 (HA.out.carry hB) (HB.out.carry hB) (HC.out.carry hB) (HD.out.carry hB) (by omega) (by omega) (by omega) (by omega)).mono ?_
    rintro e w4 ⟨⟨u0, rfl, hu0⟩, hl⟩
    replace hB := bthen hB hl
    replace iB := iB.carry hl
    replace hus := hus.carry hl
    clear hl
    obtain ⟨va, vb, vc, vd, rfl, g1, g2, g3, g4⟩ := hu0
    go_wp2_with fail
    refine (Strength_any _ _ _ _ a b c d most w4 g1 g2 g3 g4 (by omega) (by omega) (by omega) (by omega)).mono ?_
    rintro e w5 ⟨rfl, hl⟩
    replace hB := bthen hB hl
    replace iB := iB.carry hl
    replace hus := hus.carry hl
    clear hl g1 g2 g3 g4
    obtain ⟨se, hse⟩ : ∃ x, x = strengthRE a b c d most := ⟨_, rfl⟩
    rw [← hse]
    have HSE := Lib.hid hse
    clear hse
    obtain ⟨s1, s2⟩ := se
    have e0 := iB.cell (j := 0) (v := .slice xa a.length ca) rfl
    have e1 := iB.cell (j := 1) (v := .slice xb b.length cb) rfl
    have e2 := iB.cell (j := 2) (v := .slice xc c.length cc) rfl
    have e3 := iB.cell (j := 3) (v := .slice xd d.length cd) rfl
    go_wp2_with fail
    clear e0 e1 e2 e3
    refine (given_any _ _ _ _ a b c d w5 (HA.out.carry hB) (HB.out.carry hB) (HC.out.carry hB) (HD.out.carry hB) (by omega) (by omega) (by omega) (by omega)).mono ?_
    rintro e w6 ⟨⟨u0, rfl, hu0⟩, hl⟩
    replace hB := bthen hB hl
    replace iB := iB.carry hl
    replace hus := hus.carry hl
    clear hl
    obtain ⟨va, vb, vc, vd, rfl, g1, g2, g3, g4⟩ := hu0
    obtain ⟨r0, i0, r1, i1, r2, i2, r3, i3, hR, hF⟩ := respR_four a b c d
    have HR := Lib.hid hR
    have HF := Lib.hid (fun W => eqCx r0 i0 r1 i1 r2 i2 r3 i3 hF W)
    have tr := Response_any va vb vc vd a b c d w6 (hq.below hB hq.size) g1 g2 g3 g4 (by omega) (by omega) (by omega) (by omega)
    rw [hR] at tr
    clear hR hF
    go_wp2_with fail
    refine tr.mono ?_
    clear tr
    rintro e w7 ⟨rfl, hl⟩
    replace hB := bthen hB hl
    replace iB := iB.carry hl
    replace hus := hus.carry hl
    clear hl g1 g2 g3 g4
    have hsx := store_cx
    go_upto_region 6 with fail
    clear hsx
    obtain ⟨W8, hW8⟩ : ∃ v, v = World.alloc w7 (Obj.cells #[.complex .f64 r0 i0, .complex .f64 r1 i1, .complex .f64 r2 i2, .complex .f64 r3 i3] 49) := ⟨_, rfl⟩
    have kW8 : Below w7.heap.size w7 W8 := by rw [hW8]; exact below_new _ _
    have iW8 : Blk W8 (w7.heap.size) 49 [.complex .f64 r0 i0, .complex .f64 r1 i1, .complex .f64 r2 i2, .complex .f64 r3 i3] := by rw [hW8]; exact Blk.new _ _ _
    have sW8 : W8.heap.size = w7.heap.size + 1 := by rw [hW8]; simp
    rw [← hW8]
    clear hW8
    clear sW8
    have i9 := iW8
    replace hB := bthen hB kW8
    replace iB := iB.carry kW8
    replace hus := hus.carry kW8
    clear kW8 iW8
    generalize w7.heap.size = B9 at i9 ⊢
    have e0 := iB.cell (j := 0) (v := .slice xa a.length ca) rfl
    have e1 := iB.cell (j := 1) (v := .slice xb b.length cb) rfl
    have e2 := iB.cell (j := 2) (v := .slice xc c.length cc) rfl
    have e3 := iB.cell (j := 3) (v := .slice xd d.length cd) rfl
    go_wp2_with fail
    clear e0 e1 e2 e3
    refine (CheckLoopR_any _ _ _ _ a b c d W8 (HA.out.carry hB) (HB.out.carry hB) (HC.out.carry hB) (HD.out.carry hB) (by omega) (by omega) (by omega) (by omega)).mono ?_
    rintro e w9 ⟨rfl, hl⟩
    replace hB := bthen hB hl
    replace iB := iB.carry hl
    replace hus := hus.carry hl
    replace i9 := i9.carry hl
    clear hl
    have e0 := iB.cell (j := 0) (v := .slice xa a.length ca) rfl
    have e1 := iB.cell (j := 1) (v := .slice xb b.length cb) rfl
    have e2 := iB.cell (j := 2) (v := .slice xc c.length cc) rfl
    have e3 := iB.cell (j := 3) (v := .slice xd d.length cd) rfl
    go_wp2_with fail
    clear e0 e1 e2 e3
    have ts := StrengthR_any _ _ _ _ a b c d most w9 (HA.out.carry hB) (HB.out.carry hB) (HC.out.carry hB) (HD.out.carry hB) (by omega) (by omega) (by omega) (by omega)
    rw [← HSE.out] at ts
    refine ts.mono ?_
    clear ts
    rintro e wd ⟨rfl, hl⟩
    replace hB := bthen hB hl
    replace iB := iB.carry hl
    replace hus := hus.carry hl
    replace i9 := i9.carry hl
    clear hl
    by_cases h1 : checkLoopE a b c d = 0
    · have HE := Lib.hid h1
      obtain ⟨ea, eb, ec, ed⟩ := checkLoopE_ok h1
      have a1 := checkPolyE_ok ea
      have b1 := checkPolyE_ok eb
      have c1 := checkPolyE_ok ec
      have d1 := checkPolyE_ok ed
      clear ea eb ec ed
      have hlen := closedW_length a b c d
      have hcr : closedR a b c d = closedW a b c d := by rw [closedR, if_neg (by rw [h1]; simp)]
      have hrr : respR a b c d = respRow (closedW a b c d) 4 := by rw [respR, if_neg (by rw [h1]; simp)]
      rw [HR.out] at hrr
      have HRR := Lib.hid hrr
      rw [hcr] at hus
      rw [h1]
      clear hcr hrr h1
      go_upto_region 11 with fail
      obtain ⟨Wx, hWx⟩ : ∃ v, v = World.alloc wd (Obj.cells #[.complex .f64 0 0, .complex .f64 0 0, .complex .f64 0 0, .complex .f64 0 0] 49) := ⟨_, rfl⟩
      have kWx : Below wd.heap.size wd Wx := by rw [hWx]; exact below_new _ _
      have iWx : Blk Wx (wd.heap.size) 49 [.complex .f64 0 0, .complex .f64 0 0, .complex .f64 0 0, .complex .f64 0 0] := by rw [hWx]; exact Blk.new _ _ _
      have sWx : Wx.heap.size = wd.heap.size + 1 := by rw [hWx]; simp
      rw [← hWx]
      clear hWx
      have hsX := sWx
      clear sWx
      have ix := iWx
      have iBx := iB.carry kWx
      have hBx := bthen hB kWx
      have e0 := iBx.cell (j := 0) (v := .slice xa a.length ca) rfl
      have e1 := iBx.cell (j := 1) (v := .slice xb b.length cb) rfl
      have e2 := iBx.cell (j := 2) (v := .slice xc c.length cc) rfl
      have e3 := iBx.cell (j := 3) (v := .slice xd d.length cd) rfl
      clear iBx
      go_wp2_with fail
      refine (ClosedR_any _ _ _ _ _ a b c d a Wx (HA.out.carry hBx) (HB.out.carry hBx) (HC.out.carry hBx) (HD.out.carry hBx) (HA.out.carry hBx) (by omega) (by omega) (by omega) (by omega) (by omega) (by omega) (by omega) (by omega)).mono ?_
      clear e0 e1 e2 e3
      rintro e v1 ⟨⟨ucl, rfl, hcl⟩, hl⟩
      replace kWx := bthen kWx hl
      replace ix := ix.carry hl
      have hs1 := hl.size
      clear hl hBx iWx
      generalize hcw : closedW a b c d = cl at hcl hus HRR hlen
      have HCW := Lib.hid hcw
      clear hcw
      have hll : cl.length ≤ 100000 := by omega
      obtain ⟨xcl, ccl, rfl, _⟩ := id hcl
      go_wp2_with fail
      refine (Quarters_any _).mono ?_
      rintro e v2 ⟨rfl, hv2⟩
      have hl : Below v1.heap.size v1 v2 := by rw [← hv2]; exact below_new _ _
      have iq : Blk v2 v1.heap.size 59 [.int .i64 1, .int .i64 0, .int .i64 0, .int .i64 1, .int .i64 (-1), .int .i64 0, .int .i64 0, .int .i64 (-1)] := by rw [← hv2]; exact Blk.new _ _ _
      clear hv2
      have hcl := hcl.carry hl
      have ix := ix.carry hl
      have kWx := bthen kWx hl
      have hXQ : wd.heap.size < v1.heap.size := by omega
      clear hl hs1 hsX
      generalize v1.heap.size = Q at iq hXQ ⊢
      have hz : respRow cl 0 = [.complex .f64 0 0, .complex .f64 0 0, .complex .f64 0 0, .complex .f64 0 0] := rfl
      rw [← hz] at ix
      clear hz
      go_wp2
      go_loopw [58] (fun vi wr => ∃ k : Nat, k ≤ 4 ∧ vi = .int .i64 k ∧ Blk wr wd.heap.size 49 (respRow cl k) ∧ Ints wr (.slice xcl cl.length ccl) cl ∧ Blk wr Q 59 [.int .i64 1, .int .i64 0, .int .i64 0, .int .i64 1, .int .i64 (-1), .int .i64 0, .int .i64 0, .int .i64 (-1)] ∧ Below wd.heap.size wd wr) (fun vi _ => 4 - (intOf vi).toNat)
      case atStart => exact ⟨0, by omega, rfl, ix, hcl, iq, kWx⟩
      case round =>
        clear ix hcl iq kWx
        obtain ⟨k, hk, rfl, ix, hcl, iq, hbr⟩ := hrel
        by_cases hlt : k < 4
        · have hq2 : wr.cell? ⟨Q, k * 2, none⟩ = some (.int .i64 (quarterAt k).1) ∧ wr.cell? ⟨Q, k * 2 + 1, none⟩ = some (.int .i64 (quarterAt k).2) := by
            obtain rfl | rfl | rfl | rfl : k = 0 ∨ k = 1 ∨ k = 2 ∨ k = 3 := by omega
            all_goals exact ⟨iq.cell rfl, iq.cell rfl⟩
          obtain ⟨d0, d1⟩ := hq2
          have hset := Lib.hid (respRow_set cl k hlt)
          have hat := respRow_at cl k hlt
          have hno := respRow_no cl k
          have hrv : respV cl k = .complex .f64 (floatOfInt .f64 (atW cl (quarterAt k).1 (quarterAt k).2).1) (floatOfInt .f64 (atW cl (quarterAt k).1 (quarterAt k).2).2) := rfl
          generalize respV cl k = rv at hset hrv
          have HRV := Lib.hid hrv
          clear hrv
          generalize quarterAt k = z at d0 d1 HRV
          have hlt' : (k : Int) < 4 := by omega
          go_upto_region 15 with fail
          obtain ⟨X1, hX1⟩ : ∃ v, v = World.alloc wr (Obj.cells #[.int .i64 z.1, .int .i64 z.2] 59) := ⟨_, rfl⟩
          have kX1 : Below wr.heap.size wr X1 := by rw [hX1]; exact below_new _ _
          have iX1 : Blk X1 (wr.heap.size) 59 [.int .i64 z.1, .int .i64 z.2] := by rw [hX1]; exact Blk.new _ _ _
          have sX1 : X1.heap.size = wr.heap.size + 1 := by rw [hX1]; simp
          rw [← hX1]
          clear hX1
          clear sX1 d0 d1
          have t0 := iX1.cell (j := 0) (v := .int .i64 z.1) rfl
          have t1 := iX1.cell (j := 1) (v := .int .i64 z.2) rfl
          go_wp2_with fail
          refine (ValueR'_any _ cl z.1 z.2 X1 (hcl.carry kX1) hll).mono ?_
          rintro e v5 ⟨rfl, hl⟩
          clear t0 t1 iX1
          have h5 := bthen kX1 hl
          clear kX1 hl
          generalize atW cl z.1 z.2 = y at HRV ⊢
          have hcf := fun m => convF m
          have hsx := store_cx
          go_upto_region 16 with fail
          obtain ⟨X2, hX2⟩ : ∃ v, v = World.alloc v5 (Obj.cells #[.int .i64 y.1, .int .i64 y.2] 59) := ⟨_, rfl⟩
          have kX2 : Below v5.heap.size v5 X2 := by rw [hX2]; exact below_new _ _
          have iX2 : Blk X2 (v5.heap.size) 59 [.int .i64 y.1, .int .i64 y.2] := by rw [hX2]; exact Blk.new _ _ _
          have sX2 : X2.heap.size = v5.heap.size + 1 := by rw [hX2]; simp
          rw [← hX2]
          clear hX2
          clear sX2
          have s0 := iX2.cell (j := 0) (v := .int .i64 y.1) rfl
          have s1 := iX2.cell (j := 1) (v := .int .i64 y.2) rfl
          have h6 := bthen h5 kX2
          clear h5 kX2 iX2
          replace ix := ix.carry h6
          replace hcl := hcl.carry h6
          replace iq := iq.carry h6
          replace hbr := bthen hbr h6
          clear h6
          have c0 := ix.cell hat
          have f0 := ix.frozen k
          go_wp2_with fail
          have hx := ix.set k (.complex .f64 (floatOfInt .f64 y.1) (floatOfInt .f64 y.2))
          rw [← HRV.out, hset.out] at hx
          have hcl2 := hcl.setNo (j := k) ix hno (.complex .f64 (floatOfInt .f64 y.1) (floatOfInt .f64 y.2))
          have iq2 := iq.other (j := k) (B' := wd.heap.size) (by omega) (.complex .f64 (floatOfInt .f64 y.1) (floatOfInt .f64 y.2))
          have hbr2 := hbr.setCell (p := ⟨wd.heap.size, k, none⟩) (Nat.le_refl _) (.complex .f64 (floatOfInt .f64 y.1) (floatOfInt .f64 y.2))
          rw [← HRV.out] at hcl2 iq2 hbr2
          rw [← HRV.out]
          exact ⟨⟨k + 1, by omega, by go_num, hx, hcl2, iq2, hbr2⟩, by simp [intOf]; omega⟩
        · obtain rfl : k = 4 := by omega
          rw [← HRR.out] at ix
          have HRR2 := HRR
          clear HRR2
          obtain ⟨wo, rfl⟩ : ∃ v, v = wr := ⟨_, rfl⟩
          clear iq
          replace hB := bthen hB hbr
          replace iB := iB.carry hbr
          replace hus := hus.carry hbr
          replace i9 := i9.carry hbr
          clear hbr
          have e0 := iB.cell (j := 0) (v := .slice xa a.length ca) rfl
          have e1 := iB.cell (j := 1) (v := .slice xb b.length cb) rfl
          have e2 := iB.cell (j := 2) (v := .slice xc c.length cc) rfl
          have e3 := iB.cell (j := 3) (v := .slice xd d.length cd) rfl
          go_wp2_with fail
          clear e0 e1 e2 e3
          refine (given_any _ _ _ _ a b c d wo (HA.out.carry hB) (HB.out.carry hB) (HC.out.carry hB) (HD.out.carry hB) (by omega) (by omega) (by omega) (by omega)).mono ?_
          rintro e y1 ⟨⟨u0, rfl, hu0⟩, hl⟩
          replace hB := bthen hB hl
          replace iB := iB.carry hl
          replace hus := hus.carry hl
          replace i9 := i9.carry hl
          replace ix := ix.carry hl
          replace hcl := hcl.carry hl
          clear hl
          obtain ⟨va, vb, vc, vd, rfl, g1, g2, g3, g4⟩ := hu0
          have tc := CheckLoop_any _ _ _ _ a b c d y1 g1 g2 g3 g4 (by omega) (by omega) (by omega) (by omega)
          rw [HE.out] at tc
          go_wp2_with fail
          refine tc.mono ?_
          clear tc
          rintro e y2 ⟨rfl, hl⟩
          replace hB := bthen hB hl
          replace iB := iB.carry hl
          replace hus := hus.carry hl
          replace i9 := i9.carry hl
          replace ix := ix.carry hl
          replace hcl := hcl.carry hl
          clear hl g1 g2 g3 g4
          go_wp2_with fail
          refine (sameInts us _ _ y2 hus hcl (by omega)).mono ?_
          rintro e y3 ⟨rfl, hl⟩
          replace hB := bthen hB hl
          replace iB := iB.carry hl
          replace i9 := i9.carry hl
          replace ix := ix.carry hl
          clear hl
          have p0 := i9.cell (j := 0) (v := .complex .f64 r0 i0) rfl
          have p1 := i9.cell (j := 1) (v := .complex .f64 r1 i1) rfl
          have p2 := i9.cell (j := 2) (v := .complex .f64 r2 i2) rfl
          have p3 := i9.cell (j := 3) (v := .complex .f64 r3 i3) rfl
          have q0 := ix.cell (j := 0) (v := .complex .f64 r0 i0) rfl
          have q1 := ix.cell (j := 1) (v := .complex .f64 r1 i1) rfl
          have q2 := ix.cell (j := 2) (v := .complex .f64 r2 i2) rfl
          have q3 := ix.cell (j := 3) (v := .complex .f64 r3 i3) rfl
          have hEq := HF.out
          go_wp2_with fail
          refine (awake_any y3 (hq.below hB hq.size) (hpw.below hB)).mono ?_
          rintro e y4 ⟨rfl, hl⟩
          clear hEq p0 p1 p2 p3 q0 q1 q2 q3
          go_wp2
          go_ret
          exact ⟨rfl, bthen hB hl⟩
    · have hcr : closedR a b c d = [] := by rw [closedR, if_pos h1]
      have hrr : respR a b c d = List.replicate 4 (.complex .f64 0 0) := by rw [respR, if_pos h1]
      rw [HR.out] at hrr
      simp [List.replicate] at hrr
      obtain ⟨⟨rfl, rfl⟩, ⟨rfl, rfl⟩, ⟨rfl, rfl⟩, rfl, rfl⟩ := hrr
      rw [hcr] at hus
      obtain ⟨ce, hce⟩ : ∃ x, x = checkLoopE a b c d := ⟨_, rfl⟩
      rw [← hce] at h1 ⊢
      have HCE := Lib.hid hce
      clear hce hcr
      have z1 : (ce == 0) = false := by rw [beq_eq_false_iff_ne]; exact h1
      go_upto_region 18 with fail
      obtain ⟨Wx, hWx⟩ : ∃ v, v = World.alloc wd (Obj.cells #[.complex .f64 0 0, .complex .f64 0 0, .complex .f64 0 0, .complex .f64 0 0] 49) := ⟨_, rfl⟩
      have kWx : Below wd.heap.size wd Wx := by rw [hWx]; exact below_new _ _
      have iWx : Blk Wx (wd.heap.size) 49 [.complex .f64 0 0, .complex .f64 0 0, .complex .f64 0 0, .complex .f64 0 0] := by rw [hWx]; exact Blk.new _ _ _
      have sWx : Wx.heap.size = wd.heap.size + 1 := by rw [hWx]; simp
      rw [← hWx]
      clear hWx
      clear sWx
      have ix := iWx
      replace hB := bthen hB kWx
      replace iB := iB.carry kWx
      replace hus := hus.carry kWx
      replace i9 := i9.carry kWx
      clear kWx iWx
      generalize wd.heap.size = X at ix ⊢
      have e0 := iB.cell (j := 0) (v := .slice xa a.length ca) rfl
      have e1 := iB.cell (j := 1) (v := .slice xb b.length cb) rfl
      have e2 := iB.cell (j := 2) (v := .slice xc c.length cc) rfl
      have e3 := iB.cell (j := 3) (v := .slice xd d.length cd) rfl
      go_wp2_with fail
      clear e0 e1 e2 e3
      refine (given_any _ _ _ _ a b c d Wx (HA.out.carry hB) (HB.out.carry hB) (HC.out.carry hB) (HD.out.carry hB) (by omega) (by omega) (by omega) (by omega)).mono ?_
      rintro e y1 ⟨⟨u0, rfl, hu0⟩, hl⟩
      replace hB := bthen hB hl
      replace iB := iB.carry hl
      replace hus := hus.carry hl
      replace i9 := i9.carry hl
      replace ix := ix.carry hl
      clear hl
      obtain ⟨va, vb, vc, vd, rfl, g1, g2, g3, g4⟩ := hu0
      have tc := CheckLoop_any _ _ _ _ a b c d y1 g1 g2 g3 g4 (by omega) (by omega) (by omega) (by omega)
      rw [← HCE.out] at tc
      go_wp2_with fail
      refine tc.mono ?_
      clear tc
      rintro e y2 ⟨rfl, hl⟩
      replace hB := bthen hB hl
      replace iB := iB.carry hl
      replace hus := hus.carry hl
      replace i9 := i9.carry hl
      replace ix := ix.carry hl
      clear hl g1 g2 g3 g4
      go_wp2_with fail
      refine (sameInts us _ _ y2 hus (Ints.nil _) (by simp)).mono ?_
      rintro e y3 ⟨rfl, hl⟩
      replace hB := bthen hB hl
      replace iB := iB.carry hl
      replace i9 := i9.carry hl
      replace ix := ix.carry hl
      clear hl
      have p0 := i9.cell (j := 0) (v := .complex .f64 0 0) rfl
      have p1 := i9.cell (j := 1) (v := .complex .f64 0 0) rfl
      have p2 := i9.cell (j := 2) (v := .complex .f64 0 0) rfl
      have p3 := i9.cell (j := 3) (v := .complex .f64 0 0) rfl
      have q0 := ix.cell (j := 0) (v := .complex .f64 0 0) rfl
      have q1 := ix.cell (j := 1) (v := .complex .f64 0 0) rfl
      have q2 := ix.cell (j := 2) (v := .complex .f64 0 0) rfl
      have q3 := ix.cell (j := 3) (v := .complex .f64 0 0) rfl
      have hEq := HF.out
      go_wp2_with fail
      refine (awake_any y3 (hq.below hB hq.size) (hpw.below hB)).mono ?_
      rintro e y4 ⟨rfl, hl⟩
      clear hEq p0 p1 p2 p3 q0 q1 q2 q3
      go_wp2
      go_ret
      exact ⟨rfl, bthen hB hl⟩
  · have hs' : shortL a b c d = false := by simpa using hs
    rw [hs']
    clear hs hs'
    go_wp2_with fail
    refine (awake_any w1 (hq.below hB hq.size) (hpw.below hB)).mono ?_
    rintro e y4 ⟨rfl, hl⟩
    go_wp2
    go_ret
    exact ⟨rfl, bthen hB hl⟩

end Go.Proofs.YtnlmaildmeihgaaGreatDoor

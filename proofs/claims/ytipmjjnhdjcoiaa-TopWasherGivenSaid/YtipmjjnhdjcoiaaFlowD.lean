/- The package flow at straight lines: lists of lines. -/
import Derived.Test.YtipmjjnhdjcoiaaFlowC
namespace Go.Proofs.Ytipmjjnhdjcoiaa
set_option linter.unusedSimpArgs false
set_option linter.unusedVariables false
open Go.RowKit

/-- lines from the voltage 0 to V, each with its power at 0 and what it falls a volt. -/
def LinesIs (w : World) (v : Value) (V : Int) (ls : List (Int × Int)) : Prop := ∃ b off cap, v = .slice (some ⟨b, off, none⟩) ls.length cap ∧ ls.length ≤ cap ∧
  ∀ (j : Nat) (x : Int × Int), ls[j]? = some x → ∃ u, w.cell? ⟨b, off + j, none⟩ = some u ∧ LineIs w u V x.1 (x.1 - V * x.2)
theorem LinesIs.carry {w w' : World} {v : Value} {V : Int} {ls : List (Int × Int)} (h : LinesIs w v V ls) (hb : Below w.heap.size w w') : LinesIs w' v V ls := by
  obtain ⟨b, off, cap, e, hc, h⟩ := h
  refine ⟨b, off, cap, e, hc, fun j x hx => ?_⟩
  obtain ⟨u, h1, h2⟩ := h j x hx
  exact ⟨u, cellb h1 hb, h2.carry hb⟩
/-- what is asked of such lines. -/
structure LinesOk (V : Int) (ls : List (Int × Int)) : Prop where
  v : 1 ≤ V ∧ V ≤ 1000
  n : 1 ≤ ls.length ∧ ls.length ≤ 3
  each : ∀ x ∈ ls, -1000 ≤ x.1 ∧ x.1 ≤ 1000 ∧ 1 ≤ x.2 ∧ x.2 ≤ 1000 ∧ -1000 ≤ x.1 - V * x.2

theorem line_at {V P f n : Int} (hV : 1 ≤ V ∧ V ≤ 1000) (hP : -1000 ≤ P ∧ P ≤ 1000) (hf : 1 ≤ f ∧ f ≤ 1000) (hQ : -1000 ≤ P - V * f) (hn : 0 ≤ n ∧ n ≤ V) :
    P - V * f < P ∧ P - V * f ≤ 1000 ∧ V * (P - f * n) = P * V + (P - V * f - P) * n ∧ -1000 ≤ P - f * n ∧ P - f * n ≤ 1000 := by
  have h1 : 1 ≤ V * f := by
    have : (1 : Int) * 1 ≤ V * f := Int.mul_le_mul hV.1 hf.1 (by omega) (by omega)
    omega
  have h2 : 0 ≤ f * n := Int.mul_nonneg (by omega) hn.1
  have h3 : f * n ≤ V * f := by rw [Int.mul_comm V f]; exact Int.mul_le_mul_of_nonneg_left hn.2 (by omega)
  refine ⟨by omega, by omega, ?_, by omega, by omega⟩
  rw [show P - V * f - P = -(V * f) by omega, Int.mul_sub, Int.mul_comm P V, Int.neg_mul, Int.mul_assoc V f n]
  omega

set_option maxRecDepth 100000 in
set_option maxHeartbeats 2000000 in
theorem atL_any (v : Value) (V P f n : Int) (w : World) (h : LineIs w v V P (P - V * f)) (hV : 1 ≤ V ∧ V ≤ 1000) (hP : -1000 ≤ P ∧ P ≤ 1000) (hf : 1 ≤ f ∧ f ≤ 1000) (hQ : -1000 ≤ P - V * f) (hn : 0 ≤ n ∧ n ≤ V) :
    Calls Try.prog 84 #[v, .int .i64 n] w fun r w' => r = .returned (.agg #[.int .i64 (P - f * n), .int .i64 1]) ∧ Below w.heap.size w w' := by
  obtain ⟨h1, h2, h3, h4, h5⟩ := line_at hV hP hf hQ hn
  exact at_any1 v V P _ n _ w h hV hP ⟨hQ, h2⟩ hn h3 ⟨h4, h5⟩

set_option maxRecDepth 100000 in
set_option maxHeartbeats 2000000 in
theorem commonF_any (v : Value) (V : Int) (ls : List (Int × Int)) (w : World) (h : LinesIs w v V ls) (hV : 1 ≤ V) (h1 : 1 ≤ ls.length ∧ ls.length ≤ 3) :
    Calls Try.prog 64 #[v] w fun r w' => r = .returned (.agg #[.int .i64 0, .int .i64 V]) ∧ Below w.heap.size w w' := by
  have HH := Lib.hid h
  obtain ⟨b, off, cap, rfl, hcap, hls⟩ := id h
  have HLS := Lib.hid hls
  obtain ⟨x0, hx0⟩ : ∃ x, ls[0]? = some x := ⟨_, List.getElem?_eq_getElem (by omega)⟩
  obtain ⟨u0, hu0, hl0⟩ := hls 0 x0 hx0
  have HL0 := Lib.hid hl0
  have hlen0 : 0 < ls.length := by omega
  have k0 : (0 : Int) < (ls.length : Int) := by omega
  obtain ⟨pb, po, pc, rfl, _⟩ := id hl0
  clear h hls hx0 hl0
  go_enter Try.func64, Try.ntmps64
  go_upto_region 1 with fail
  obtain ⟨W1, hW1⟩ : ∃ v, v = World.alloc w (Obj.cells #[.int .i64 0, .int .i64 0] 45) := ⟨_, rfl⟩
  have kW1 : Below w.heap.size w W1 := by rw [hW1]; exact below_new _ _
  have iW1 : Blk W1 (w.heap.size) 45 [.int .i64 0, .int .i64 0] := by rw [hW1]; exact Blk.new _ _ _
  have sW1 : W1.heap.size = w.heap.size + 1 := by rw [hW1]; simp
  rw [← hW1]
  clear hW1
  clear sW1
  rw [Nat.add_zero] at hu0
  replace hu0 := cellb hu0 kW1
  go_wp2_with fail
  refine (ends_any _ V _ _ W1 (HL0.out.carry kW1)).mono ?_
  rintro e w1 ⟨rfl, hl⟩
  have iR := iW1.carry hl
  have hB := bthen kW1 hl
  clear iW1 kW1 hl hu0
  go_upto_region 2 with fail
  obtain ⟨W2, hW2⟩ : ∃ v, v = World.alloc w1 (Obj.cells #[.int .i64 0, .int .i64 V] 45) := ⟨_, rfl⟩
  have kW2 : Below w1.heap.size w1 W2 := by rw [hW2]; exact below_new _ _
  have iW2 : Blk W2 (w1.heap.size) 45 [.int .i64 0, .int .i64 V] := by rw [hW2]; exact Blk.new _ _ _
  have sW2 : W2.heap.size = w1.heap.size + 1 := by rw [hW2]; simp
  rw [← hW2]
  clear hW2
  clear sW2
  have hBs := iR.lt
  replace iR := iR.carry kW2
  replace hB := bthen hB kW2
  have iC := iW2
  clear iW2 kW2
  generalize hG : w1.heap.size = G at iC hBs ⊢
  have hRG : w.heap.size < G := by omega
  clear hG
  go_wp2_with fail
  go_loopw [13] (fun v13 wr => ∃ k : Nat, k ≤ ls.length ∧ v13 = .int .i64 k ∧ Blk wr G 45 [.int .i64 0, .int .i64 V] ∧ Blk wr w.heap.size 45 [.int .i64 0, .int .i64 0] ∧ Below w.heap.size w wr) (fun v13 _ => ls.length - (intOf v13).toNat)
  case atStart => exact ⟨0, by omega, rfl, iC, iR, hB⟩
  case round =>
    clear iC iR hB
    obtain ⟨k, hk, rfl, iC, iR, hB⟩ := hrel
    by_cases hlt : k < ls.length
    · obtain ⟨x, hx⟩ : ∃ x, ls[k]? = some x := ⟨_, List.getElem?_eq_getElem hlt⟩
      obtain ⟨u, hu, hlu⟩ := HLS.out k x hx
      replace hu := cellb hu hB
      have HLU := Lib.hid (hlu.carry hB)
      obtain ⟨qb, qo, qc, rfl, _⟩ := id hlu
      have d1 : (k : Int) < (ls.length : Int) := by omega
      clear hlu hx
      go_wp2_with fail
      refine (ends_any _ V _ _ wr HLU.out).mono ?_
      rintro e w3 ⟨rfl, hl⟩
      replace iC := iC.carry hl
      replace iR := iR.carry hl
      replace hB := bthen hB hl
      clear hl hu
      go_upto_region 6 with fail
      obtain ⟨W4, hW4⟩ : ∃ v, v = World.alloc w3 (Obj.cells #[.int .i64 0, .int .i64 V] 45) := ⟨_, rfl⟩
      have kW4 : Below w3.heap.size w3 W4 := by rw [hW4]; exact below_new _ _
      have iW4 : Blk W4 (w3.heap.size) 45 [.int .i64 0, .int .i64 V] := by rw [hW4]; exact Blk.new _ _ _
      have sW4 : W4.heap.size = w3.heap.size + 1 := by rw [hW4]; simp
      rw [← hW4]
      clear hW4
      clear sW4
      have hne : G ≠ w3.heap.size := by have := iC.lt; omega
      replace iC := iC.carry kW4
      replace iR := iR.carry kW4
      replace hB := bthen hB kW4
      have a0 := iW4.cell (j := 0) (v := .int .i64 0) rfl
      have a1 := iW4.cell (j := 1) (v := .int .i64 V) rfl
      have c0 := iC.cell (j := 0) (v := .int .i64 0) rfl
      have c1 := iC.cell (j := 1) (v := .int .i64 V) rfl
      have f0 := iC.frozen 0
      have f1 := iC.frozen 1
      clear kW4
      go_wp2_with fail
      exact ⟨⟨k + 1, by omega, by go_num, iC.set2 (.int .i64 0) (.int .i64 V), iR.other2 (B' := G) (by omega) (.int .i64 0) (.int .i64 V), (hB.setCell (p := ⟨G, 0, none⟩) (by simp only; omega) _).setCell (by simp only; omega) _⟩, by simp [intOf]; omega⟩
    · obtain rfl : k = ls.length := by omega
      have c0 := iC.cell (j := 0) (v := .int .i64 0) rfl
      have c1 := iC.cell (j := 1) (v := .int .i64 V) rfl
      have r0 := iR.cell (j := 0) (v := .int .i64 0) rfl
      have r1 := iR.cell (j := 1) (v := .int .i64 0) rfl
      have f0 := iR.frozen 0
      have f1 := iR.frozen 1
      have d1 : ¬ (ls.length : Int) < (ls.length : Int) := by omega
      go_wp2_with fail
      have iR2 := iR.set2 (.int .i64 0) (.int .i64 V)
      have y0 := iR2.cell (j := 0) (v := .int .i64 0) rfl
      have y1 := iR2.cell (j := 1) (v := .int .i64 V) rfl
      exact bodyPost_ret (v := .agg #[.int .i64 0, .int .i64 V]) (by simp [results, Try.f64, go_sem, y0, y1]) rfl ⟨rfl, (hB.setCell (Nat.le_refl _) _).setCell (Nat.le_refl _) _⟩

theorem Try.enterCheckLine (args : Array Value) (w : World) : Sem.run Try.prog (callFunc 63 args) w = .ok (.enter 63 args) w :=
  MuLone.run_callFunc_enter Try.func63 (by kernel_rfl) rfl args w

set_option maxRecDepth 100000 in
set_option maxHeartbeats 2000000 in
theorem mappedL_any (v : Value) (V : Int) (ls : List (Int × Int)) (w : World) (h : LinesIs w v V ls) (hok : LinesOk V ls) :
    Calls Try.prog 62 #[v, .func (.func 63) #[] #[]] w fun r w' => (∃ u, r = .returned u ∧ Ints w' u (List.replicate ls.length 0)) ∧ Below w.heap.size w w' := by
  have henter := Try.enterCheckLine
  have HOK := Lib.hid hok
  obtain ⟨b, off, cap, rfl, hcap, hls⟩ := id h
  have HLS := Lib.hid hls
  obtain ⟨hn1, hn3⟩ := hok.n
  obtain ⟨i0, hi, hz0, hz1, hz2⟩ := info_parts Try.infoErrno
  clear h hls hok
  go_enter Try.func62, Try.ntmps62
  go_wp2
  go_loopw [5, 10] (fun v5 v10 wr => ∃ k : Nat, k ≤ ls.length ∧ v10 = .int .i64 k ∧ OwnI 36 w.heap.size wr v5 (List.replicate k 0) ∧ Below w.heap.size w wr) (fun _ v10 _ => ls.length - (intOf v10).toNat)
  case atStart => exact ⟨0, by omega, rfl, World.ownsRow_nil _ _ _ _, Below.refl _ _⟩
  case round =>
    obtain ⟨k, hk, rfl, hown, hB⟩ := hrel
    by_cases hlt : k < ls.length
    · obtain ⟨x, hx⟩ : ∃ x, ls[k]? = some x := ⟨_, List.getElem?_eq_getElem hlt⟩
      obtain ⟨u, hu, hlu⟩ := HLS.out k x hx
      replace hu := cellb hu hB
      have HLU := Lib.hid (hlu.carry hB)
      have hb := HOK.out.each x (List.mem_of_getElem? hx)
      have TC := Lib.hid (CheckLine_any u V x.1 _ wr (hlu.carry hB) HOK.out.v ⟨hb.1, hb.2.1⟩ ⟨hb.2.2.2.2, (line_at HOK.out.v ⟨hb.1, hb.2.1⟩ ⟨hb.2.2.1, hb.2.2.2.1⟩ hb.2.2.2.2 ⟨Int.le_refl 0, by have := HOK.out.v; omega⟩).2.1⟩ (line_at HOK.out.v ⟨hb.1, hb.2.1⟩ ⟨hb.2.2.1, hb.2.2.2.1⟩ hb.2.2.2.2 ⟨Int.le_refl 0, by have := HOK.out.v; omega⟩).1)
      obtain ⟨qb, qo, qc, rfl, _⟩ := id hlu
      have d1 : (k : Int) < (ls.length : Int) := by omega
      clear hlu hx hb
      go_wp2_with fail
      refine TC.out.mono ?_
      rintro e w2 ⟨rfl, hl⟩
      replace hown := hown.carry hl
      replace hB := bthen hB hl
      clear hl
      go_wp2_with (at_builtin; go_loud (refine wpList_append_own _ rfl _ _ 82 rfl w.heap.size 36 i0 (.int .i64 0) 1 8 Try.underlying82 hi hz0 hz1 hz2 rfl (by decide) _ _ _ rfl (hown.alloc _) ⟨w2.heap.size, 0, none⟩ 1 1 [.int .i64 0] rfl rfl (cell_one_new _ _ _) (by simp [Value.oneCell']) (by unfold maxLen; simp; omega) (by simp; omega) (by have := hB.size; simp; omega) ?_; intro v' w3 hown' hgrow _))
      have hB3 := below_own hB hown hgrow
      have hn3 : OwnI 36 w.heap.size w3 v' (List.replicate (k + 1) 0) := by
        rw [List.replicate_succ']; unfold OwnI; rw [List.length_append, List.map_append]; exact hown'
      clear hown hown' hgrow hB
      go_wp2
      go_roundw
      case rel => exact ⟨k + 1, by omega, by go_num, hn3, hB3⟩
      case measure => simp [intOf]; omega
    · obtain rfl : k = ls.length := by omega
      have d1 : ¬ (ls.length : Int) < (ls.length : Int) := by omega
      have hout := hown.ints
      clear hown
      go_wp2
      go_ret
      exact ⟨⟨_, rfl, hout⟩, hB⟩

theorem firstE_replicate (n : Nat) : firstE (List.replicate n 0) = 0 := by
  induction n with
  | zero => rfl
  | succ n ih => rw [List.replicate_succ, firstE, if_pos rfl, ih]

set_option maxRecDepth 100000 in
set_option maxHeartbeats 2000000 in
theorem CheckLines_any (v : Value) (V : Int) (ls : List (Int × Int)) (w : World) (h : LinesIs w v V ls) (hok : LinesOk V ls) :
    Calls Try.prog 44 #[v] w fun r w' => r = .returned (.int .i64 0) ∧ Below w.heap.size w w' := by
  have HH := Lib.hid h
  have HOK := Lib.hid hok
  obtain ⟨b, off, cap, rfl, hcap, _⟩ := id h
  obtain ⟨hn1, hn3⟩ := hok.n
  have z1 : ((ls.length : Int) == 0) = false := by rw [beq_eq_false_iff_ne]; omega
  have z2 : ¬ (3 : Int) < (ls.length : Int) := by omega
  have z3 : decide ((3 : Int) < (ls.length : Int)) = false := decide_eq_false z2
  have z4 : ¬ V < 0 := by have := hok.v; omega
  have z5 : decide (V < 0) = false := decide_eq_false z4
  clear h hok
  go_enter Try.func44, Try.ntmps44
  go_wp2_with fail
  refine (whenF_any _ _ _).mono ?_
  rintro e w' ⟨rfl, rfl⟩
  go_wp2_with fail
  refine (whenF_any _ _ _).mono ?_
  rintro e w' ⟨rfl, rfl⟩
  go_wp2_with fail
  refine (mappedL_any _ V ls w HH.out HOK.out).mono ?_
  rintro e w1 ⟨⟨u, rfl, hu⟩, hB⟩
  have TF := Lib.hid (firstF_any u _ w1 (by simp [maxLen]; omega) hu)
  rw [firstE_replicate] at TF
  go_wp2_with fail
  refine TF.out.mono ?_
  rintro e w' ⟨rfl, rfl⟩
  clear hu
  go_wp2_with fail
  refine (first3F _ _ _ _ _).mono ?_
  rintro e w' ⟨rfl, rfl⟩
  rw [show firstE [whenE false 12, whenE false 5, 0] = 0 from by decide]
  obtain ⟨w2, hw2⟩ : ∃ v, v = w1.alloc (Obj.cells #[Value.int IntKind.i64 (whenE false 12), Value.int IntKind.i64 (whenE false 5), Value.int IntKind.i64 0] 36) := ⟨_, rfl⟩
  rw [← hw2]
  replace hB := bthen hB (show Below w1.heap.size w1 w2 by rw [hw2]; exact below_new _ _)
  clear hw2
  go_wp2_with fail
  refine (commonF_any _ V ls w2 (HH.out.carry hB) HOK.out.v.1 ⟨hn1, hn3⟩).mono ?_
  rintro e w3 ⟨rfl, hl⟩
  replace hB := bthen hB hl
  clear hl
  go_upto_region 5 with fail
  obtain ⟨W4, hW4⟩ : ∃ v, v = World.alloc w3 (Obj.cells #[.int .i64 0, .int .i64 V] 45) := ⟨_, rfl⟩
  have kW4 : Below w3.heap.size w3 W4 := by rw [hW4]; exact below_new _ _
  have iW4 : Blk W4 (w3.heap.size) 45 [.int .i64 0, .int .i64 V] := by rw [hW4]; exact Blk.new _ _ _
  have sW4 : W4.heap.size = w3.heap.size + 1 := by rw [hW4]; simp
  rw [← hW4]
  clear hW4
  have a0 := iW4.cell (j := 0) (v := .int .i64 0) rfl
  have a1 := iW4.cell (j := 1) (v := .int .i64 V) rfl
  replace hB := bthen hB kW4
  clear sW4 kW4 iW4
  go_wp2_with fail
  refine (whenF_any _ _ _).mono ?_
  rintro e w' ⟨rfl, rfl⟩
  rw [show whenE false 7 = 0 from rfl]
  go_wp2
  go_ret
  exact ⟨rfl, hB⟩

end Go.Proofs.Ytipmjjnhdjcoiaa

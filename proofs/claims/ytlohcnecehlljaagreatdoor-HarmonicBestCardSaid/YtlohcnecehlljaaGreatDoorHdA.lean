/- Chapter 4, plain facts: how large the spectrum of a pattern is. -/
import Derived.Test.YtlohcnecehlljaaGreatDoorHpJ
import Derived.Test.YtlohcnecehlljaaGreatDoorHarP
import Derived.Test.YtlohcnecehlljaaGreatDoorHrA
namespace Go.Proofs.YtlohcnecehlljaaGreatDoor
section
set_option linter.unusedSimpArgs false
set_option linter.unusedVariables false
open Go.RowKit

abbrev C4 := Nat × Nat × Nat × Nat
/-- which parts a power of the root has. -/
def cO (m : Nat) : C4 := match m % 6 with
  | 0 => (1, 0, 0, 0)
  | 1 => (0, 0, 0, 1)
  | 2 => (1, 1, 0, 0)
  | 3 => (0, 0, 1, 0)
  | 4 => (0, 1, 0, 0)
  | _ => (0, 0, 1, 1)
/-- the parts are at most so many hundreds. -/
def Bq (c : C4) (x : Cy) : Prop := (-(100 * (c.1 : Int)) ≤ x.1 ∧ x.1 ≤ 100 * (c.1 : Int)) ∧ (-(100 * (c.2.1 : Int)) ≤ x.2.1 ∧ x.2.1 ≤ 100 * (c.2.1 : Int)) ∧ (-(100 * (c.2.2.1 : Int)) ≤ x.2.2.1 ∧ x.2.2.1 ≤ 100 * (c.2.2.1 : Int)) ∧ (-(100 * (c.2.2.2 : Int)) ≤ x.2.2.2 ∧ x.2.2.2 ≤ 100 * (c.2.2.2 : Int))
theorem cO_le (m : Nat) : (cO m).1 ≤ 1 ∧ (cO m).2.1 ≤ 1 ∧ (cO m).2.2.1 ≤ 1 ∧ (cO m).2.2.2 ≤ 1 := by
  unfold cO
  split <;> simp
theorem turn_bd (a : Int) (h : -100 ≤ a ∧ a ≤ 100) (m : Nat) (hm : m < 12) : Bq (cO m) (turnC (a, 0, 0, 0) m) := by
  have hb : Bd 1048576 (a, 0, 0, 0) := ⟨by simp only; omega, by simp only; omega, by simp only; omega, by simp only; omega⟩
  rw [turn_rot hb m hm, (rotC_exact hb m (by omega)).1]
  obtain rfl | rfl | rfl | rfl | rfl | rfl | rfl | rfl | rfl | rfl | rfl | rfl : m = 0 ∨ m = 1 ∨ m = 2 ∨ m = 3 ∨ m = 4 ∨ m = 5 ∨ m = 6 ∨ m = 7 ∨ m = 8 ∨ m = 9 ∨ m = 10 ∨ m = 11 := by omega
  all_goals (simp only [rotN, rotL, Bq]; refine ⟨?_, ?_, ?_, ?_⟩ <;> simp [cO] <;> omega)
def c4Add (x y : C4) : C4 := (x.1 + y.1, x.2.1 + y.2.1, x.2.2.1 + y.2.2.1, x.2.2.2 + y.2.2.2)
def cS (c : Nat → C4) : Nat → C4
  | 0 => (0, 0, 0, 0)
  | n + 1 => c4Add (cS c n) (c n)
theorem cS_le (c : Nat → C4) (hc : ∀ k, (c k).1 ≤ 1 ∧ (c k).2.1 ≤ 1 ∧ (c k).2.2.1 ≤ 1 ∧ (c k).2.2.2 ≤ 1) : ∀ n, (cS c n).1 ≤ n ∧ (cS c n).2.1 ≤ n ∧ (cS c n).2.2.1 ≤ n ∧ (cS c n).2.2.2 ≤ n
  | 0 => by simp [cS]
  | n + 1 => by
    have h1 := hc n
    have h2 := cS_le c hc n
    refine ⟨?_, ?_, ?_, ?_⟩ <;> simp only [cS, c4Add] <;> omega
theorem fold_bq (f : Nat → Cy) (c : Nat → C4) (hc : ∀ k, (c k).1 ≤ 1 ∧ (c k).2.1 ≤ 1 ∧ (c k).2.2.1 ≤ 1 ∧ (c k).2.2.2 ≤ 1) : ∀ n, n ≤ 1000 → (∀ k, k < n → Bq (c k) (f k)) → Bq (cS c n) ((upto f n).foldl cyAdd (0, 0, 0, 0))
  | 0, _, _ => by refine ⟨?_, ?_, ?_, ?_⟩ <;> simp [upto, cS]
  | n + 1, hn, h => by
    have ih := fold_bq f c hc n (by omega) (fun k hk => h k (by omega))
    have hl := cS_le c hc n
    have hx := h n (by omega)
    have hcn := hc n
    rw [show upto f (n + 1) = upto f n ++ [f n] by simp [upto, List.range_succ], cyAdd_snoc]
    generalize (upto f n).foldl cyAdd (0, 0, 0, 0) = s at ih ⊢
    generalize f n = x at hx ⊢
    rw [cS]
    generalize cS c n = C at ih hl ⊢
    generalize c n = d at hx hcn ⊢
    obtain ⟨s0, s1, s2, s3⟩ := s
    obtain ⟨x0, x1, x2, x3⟩ := x
    obtain ⟨C0, C1, C2, C3⟩ := C
    obtain ⟨d0, d1, d2, d3⟩ := d
    simp only [Bq] at ih hx hl hcn
    simp only [Bq, cyAdd, c4Add]
    refine ⟨?_, ?_, ?_, ?_⟩ <;> rw [wrapIn (by omega)] <;> omega
def cH (h : Int) : C4 := cS (fun k => cO (mod12 (wrap64 (-h * k)))) 12
theorem mod12_lt' (n : Int) : mod12 n < 12 := by
  have := mod12_mod n
  omega
theorem order_bq (l : List Int) (h : Int) (hl : ∀ x ∈ l, -100 ≤ x ∧ x ≤ 100) : Bq (cH h) (orderC l h) := by
  refine fold_bq _ _ (fun k => cO_le _) 12 (by omega) (fun k _ => ?_)
  have hx : -100 ≤ l[k]?.getD 0 ∧ l[k]?.getD 0 ≤ 100 := by
    rcases Nat.lt_or_ge k l.length with c | c
    · rw [List.getElem?_eq_getElem c]; exact hl _ (List.getElem_mem c)
    · rw [List.getElem?_eq_none c]; exact ⟨by decide, by decide⟩
  exact turn_bd _ hx _ (mod12_lt' _)
theorem cH1 : cH 1 = (4, 4, 4, 4) := by kernel_rfl
theorem cH2 : cH 2 = (8, 8, 0, 0) := by kernel_rfl
theorem cH3 : cH 3 = (6, 0, 6, 0) := by kernel_rfl
theorem cH4 : cH 4 = (8, 8, 0, 0) := by kernel_rfl
theorem cH5 : cH 5 = (4, 4, 4, 4) := by kernel_rfl
theorem cH6 : cH 6 = (12, 0, 0, 0) := by kernel_rfl
/-- the strength, without any wrap. -/
theorem st_exact {x0 x1 x2 x3 : Int} (h : Bd 100000 (x0, x1, x2, x3)) : stC (x0, x1, x2, x3) = (x0 * x0 - x0 * x1 + x1 * x1 + (x2 * x2 - x2 * x3 + x3 * x3), x1 * x2 - x0 * x3) := by
  obtain ⟨h0, h1, h2, h3⟩ := h
  simp only at h0 h1 h2 h3
  have b0 : wrap64 (x0 - x1) = x0 - x1 := wrapIn (by omega)
  have b1 : wrap64 (-x1) = -x1 := wrapIn (by omega)
  have c0 : wrap64 (x2 - x3) = x2 - x3 := wrapIn (by omega)
  have c1 : wrap64 (-x3) = -x3 := wrapIn (by omega)
  unfold stC st0 st1
  simp only
  rw [b0, b1, c0, c1]
  obtain ⟨f1, f2, f3, f4⟩ := ei_exact (a := x0) (b := x1) (c := x0 - x1) (d := -x1) (by omega) (by omega) (by omega) (by omega)
  obtain ⟨g1, g2, g3, g4⟩ := ei_exact (a := x2) (b := x3) (c := x2 - x3) (d := -x3) (by omega) (by omega) (by omega) (by omega)
  obtain ⟨m1, m2, m3, m4⟩ := ei_exact (a := x2) (b := x3) (c := x0 - x1) (d := -x1) (by omega) (by omega) (by omega) (by omega)
  rw [wrapIn (x := eiA x0 x1 (x0 - x1) (-x1) + eiA x2 x3 (x2 - x3) (-x3)) (by omega), wrapIn (x := -(eiB x2 x3 (x0 - x1) (-x1))) (by omega), f1, g1, m2]
  refine Prod.ext ?_ ?_
  · simp only; grind
  · simp only; grind
theorem sq_nn (a b : Int) : 0 ≤ a * a - a * b + b * b := by
  have e : 4 * (a * a - a * b + b * b) = (2 * a - b) * (2 * a - b) + 3 * (b * b) := by grind
  have h1 : 0 ≤ (2 * a - b) * (2 * a - b) := by
    rcases Int.le_total 0 (2 * a - b) with h | h
    · exact Int.mul_nonneg h h
    · exact Int.mul_nonneg_of_nonpos_of_nonpos h h
  have h2 : 0 ≤ b * b := by
    rcases Int.le_total 0 b with h | h
    · exact Int.mul_nonneg h h
    · exact Int.mul_nonneg_of_nonpos_of_nonpos h h
  omega
theorem st_bd {x0 x1 x2 x3 B0 B1 B2 B3 : Int} (h0 : -B0 ≤ x0 ∧ x0 ≤ B0) (h1 : -B1 ≤ x1 ∧ x1 ≤ B1) (h2 : -B2 ≤ x2 ∧ x2 ≤ B2) (h3 : -B3 ≤ x3 ∧ x3 ≤ B3) (b0 : B0 ≤ 100000) (b1 : B1 ≤ 100000) (b2 : B2 ≤ 100000) (b3 : B3 ≤ 100000) :
    (0 ≤ (stC (x0, x1, x2, x3)).1 ∧ (stC (x0, x1, x2, x3)).1 ≤ B0 * B0 + B0 * B1 + B1 * B1 + (B2 * B2 + B2 * B3 + B3 * B3)) ∧ (-(B1 * B2 + B0 * B3) ≤ (stC (x0, x1, x2, x3)).2 ∧ (stC (x0, x1, x2, x3)).2 ≤ B1 * B2 + B0 * B3) := by
  rw [st_exact ⟨by simp only; omega, by simp only; omega, by simp only; omega, by simp only; omega⟩]
  have n1 := sq_nn x0 x1
  have n2 := sq_nn x2 x3
  have m1 := mulb h0 h0
  have m2 := mulb h0 h1
  have m3 := mulb h1 h1
  have m4 := mulb h2 h2
  have m5 := mulb h2 h3
  have m6 := mulb h3 h3
  have m7 := mulb h1 h2
  have m8 := mulb h0 h3
  simp only
  generalize x0 * x0 = p1 at *
  generalize x0 * x1 = p2 at *
  generalize x1 * x1 = p3 at *
  generalize x2 * x2 = p4 at *
  generalize x2 * x3 = p5 at *
  generalize x3 * x3 = p6 at *
  generalize x1 * x2 = p7 at *
  generalize x0 * x3 = p8 at *
  refine ⟨⟨?_, ?_⟩, ?_, ?_⟩ <;> omega
/-- the strengths of the orders 1 to 6. -/
theorem str_bd (l : List Int) (hl : ∀ x ∈ l, -100 ≤ x ∧ x ≤ 100) (h : Nat) (h1 : 1 ≤ h) (h6 : h ≤ 6) : (0 ≤ (stC (orderC l h)).1 ∧ (stC (orderC l h)).1 ≤ 1920000) ∧ (-360000 ≤ (stC (orderC l h)).2 ∧ (stC (orderC l h)).2 ≤ 360000) := by
  have hq := order_bq l h hl
  have hc : cH (h : Int) = (4, 4, 4, 4) ∨ cH (h : Int) = (8, 8, 0, 0) ∨ cH (h : Int) = (6, 0, 6, 0) ∨ cH (h : Int) = (12, 0, 0, 0) := by
    obtain rfl | rfl | rfl | rfl | rfl | rfl : h = 1 ∨ h = 2 ∨ h = 3 ∨ h = 4 ∨ h = 5 ∨ h = 6 := by omega
    · exact .inl cH1
    · exact .inr (.inl cH2)
    · exact .inr (.inr (.inl cH3))
    · exact .inr (.inl cH4)
    · exact .inl cH5
    · exact .inr (.inr (.inr cH6))
  generalize orderC l h = x at hq ⊢
  obtain ⟨x0, x1, x2, x3⟩ := x
  rcases hc with hc | hc | hc | hc
  all_goals
    rw [hc] at hq
    obtain ⟨q0, q1, q2, q3⟩ := hq
    simp only at q0 q1 q2 q3
    have := st_bd q0 q1 q2 q3 (by decide) (by decide) (by decide) (by decide)
    (try simp only at this)
    omega
theorem str1_bd (l : List Int) (hl : ∀ x ∈ l, -100 ≤ x ∧ x ≤ 100) : (0 ≤ (stC (orderC l 1)).1 ∧ (stC (orderC l 1)).1 ≤ 960000) ∧ (-320000 ≤ (stC (orderC l 1)).2 ∧ (stC (orderC l 1)).2 ≤ 320000) := by
  have hq := order_bq l 1 hl
  rw [cH1] at hq
  generalize orderC l 1 = x at hq ⊢
  obtain ⟨x0, x1, x2, x3⟩ := x
  obtain ⟨q0, q1, q2, q3⟩ := hq
  simp only at q0 q1 q2 q3
  have := st_bd q0 q1 q2 q3 (by decide) (by decide) (by decide) (by decide)
  (try simp only at this)
  omega
/-- what is compared with the limits is small. -/
theorem smallP_all (l lim : List Int) (hl : ∀ x ∈ l, -100 ≤ x ∧ x ≤ 100) (hm : ∀ x ∈ lim, 0 ≤ x ∧ x ≤ 256) : SmallP l lim := by
  intro h h2 h7
  have b1 := str1_bd l hl
  have bh := str_bd l hl h (by omega) (by omega)
  have hx : 0 ≤ lim[h]?.getD 0 ∧ lim[h]?.getD 0 ≤ 256 := by
    rcases Nat.lt_or_ge h lim.length with c | c
    · rw [List.getElem?_eq_getElem c]; exact hm _ (List.getElem_mem c)
    · rw [List.getElem?_eq_none c]; exact ⟨by decide, by decide⟩
  generalize lim[h]?.getD 0 = m at hx ⊢
  generalize stC (orderC l h) = s at bh ⊢
  generalize stC (orderC l 1) = t at b1 ⊢
  obtain ⟨s0, s1⟩ := s
  obtain ⟨t0, t1⟩ := t
  simp only at bh b1
  have n0 : 0 ≤ m * t0 := Int.mul_nonneg hx.1 b1.1.1
  have p0 := mulb (x := m) (y := t0) (A := 256) (B := 960000) (by omega) (by omega)
  have p1 := mulb (x := m) (y := t1) (A := 256) (B := 320000) (by omega) (by omega)
  unfold scR
  simp only [Small]
  generalize m * t0 = q0 at *
  generalize m * t1 = q1 at *
  rw [wrapIn (x := 256 * s0) (by omega), wrapIn (x := q0) (by omega), wrapIn (x := 256 * s1) (by omega), wrapIn (x := q1) (by omega), wrapIn (x := 256 * s0 - q0) (by omega), wrapIn (x := 256 * s1 - q1) (by omega)]
  omega
end

section
set_option linter.unusedSimpArgs false
set_option linter.unusedVariables false
open Go.RowKit

set_option maxRecDepth 100000 in
set_option maxHeartbeats 1000000 in
theorem CheckLimitsR_any (l : List Int) (w : World) (hl : l.length = 7) :
    Calls Tryz.prog 15 #[.agg (ia l)] w fun e w' => e = .returned (.int .i64 (limE l)) ∧ Below w.heap.size w w' := by
  obtain ⟨M, hM⟩ : ∃ M, M = l.map (fun n => withinE n 0 256) := ⟨_, rfl⟩
  have hMl : M.length = 7 := by rw [hM, List.length_map, hl]
  have hMg : ∀ k, k < 7 → M[k]?.getD 0 = withinE (l[k]?.getD 0) 0 256 := fun k hk => by
    rw [hM, List.getElem?_map, List.getElem?_eq_getElem (by omega)]; rfl
  have hE0 : limE l = firstE M := by rw [hM]; rfl
  obtain ⟨E, hE⟩ : ∃ E, E = limE l := ⟨_, rfl⟩
  rw [← hE]
  rw [hE0] at hE
  have HE := Lib.hid hE
  have HM := Lib.hid hMl
  have HG := Lib.hid hMg
  clear hM hMl hMg hE0 hE
  go_enter Tryz.func15, Tryz.ntmps15
  go_upto_region 1 with fail
  obtain ⟨W1, hW1⟩ : ∃ v, v = World.alloc w (Obj.cells (ia l) 23) := ⟨_, rfl⟩
  have kW1 : Below w.heap.size w W1 := by rw [hW1]; exact below_new _ _
  have iW1 : BlkI W1 (w.heap.size) 23 l := by rw [hW1]; exact BlkI.new _ _ _
  have sW1 : W1.heap.size = w.heap.size + 1 := by rw [hW1]; simp
  rw [← hW1]
  clear hW1
  have i1 := iW1
  have hB := kW1
  clear iW1 kW1
  go_wp2_with fail
  go_loopw [3] (fun i wr => ∃ k : Nat, k ≤ 7 ∧ i = .int .i64 k ∧ firstE (M.take k) = 0 ∧ BlkI wr w.heap.size 23 l ∧ Below w.heap.size w wr) (fun i _ => 7 - (intOf i).toNat)
  case atStart => exact ⟨0, by omega, rfl, rfl, i1, hB⟩
  case round =>
    clear i1 hB
    obtain ⟨k, hk, rfl, hf, i1, hB⟩ := hrel
    by_cases hlt : k < 7
    · have d1 : (k : Int) < 7 := by omega
      have c0 := i1.cell (j := k) (by omega)
      have hs := firstE_take_succ M k (by rw [HM.out]; exact hlt) hf
      rw [HG.out k hlt] at hs
      generalize l[k]?.getD 0 = x at c0 hs
      have R1 := Lib.hid (fun W => CheckRange_any x 0 256 W)
      generalize withinE x 0 256 = px at R1 hs
      have HS := Lib.hid hs
      clear hs hf
      go_wp2_with fail
      refine (R1.out wr).mono ?_
      rintro e wr ⟨rfl, rfl⟩
      by_cases hp : px = 0
      · subst hp
        go_wp2_with fail
        go_roundw
        case rel => exact ⟨k + 1, by omega, by go_num, HS.out, i1, hB⟩
        case measure => simp [intOf]; omega
      · have z : (px != 0) = true := by rw [bne_iff_ne]; exact hp
        obtain rfl : E = px := by rw [HE.out, firstE_of_take M (k + 1) (by rw [HS.out]; exact hp), HS.out]
        go_wp2
        go_ret
        exact ⟨rfl, hB⟩
    · obtain rfl : k = 7 := by omega
      obtain rfl : E = 0 := by rw [HE.out, ← hf, List.take_of_length_le (by rw [HM.out]; exact Nat.le_refl _)]
      clear hf
      go_wp2
      go_ret
      exact ⟨rfl, hB⟩

/-- the error of three levels. -/
def levE (a b c : Int) : Int := allE [a, b, c] 100
set_option maxRecDepth 100000 in
set_option maxHeartbeats 1000000 in
theorem CheckLevelsR_any (a b c : Int) (w : World) :
    Calls Tryz.prog 16 #[.agg (ia [a, b, c])] w fun e w' => e = .returned (.int .i64 (levE a b c)) ∧ Below w.heap.size w w' := by
  have R0 := Lib.hid (fun W => CheckRange_any a (-100) 100 W)
  have R1 := Lib.hid (fun W => CheckRange_any b (-100) 100 W)
  have R2 := Lib.hid (fun W => CheckRange_any c (-100) 100 W)
  rw [show levE a b c = firstE [withinE a (-100) 100, withinE b (-100) 100, withinE c (-100) 100] from rfl]
  generalize withinE a (-100) 100 = e0 at R0 ⊢
  generalize withinE b (-100) 100 = e1 at R1 ⊢
  generalize withinE c (-100) 100 = e2 at R2 ⊢
  have TF := Lib.hid (fun (u : Value) (W : World) (h : Ints W u [e0, e1, e2]) => FirstR_any u [e0, e1, e2] W (by simp) h)
  generalize firstE [e0, e1, e2] = E at TF ⊢
  go_enter Tryz.func16, Tryz.ntmps16
  go_upto_region 1 with fail
  obtain ⟨W1, hW1⟩ : ∃ v, v = World.alloc w (Obj.cells (ia [a, b, c]) 26) := ⟨_, rfl⟩
  have kW1 : Below w.heap.size w W1 := by rw [hW1]; exact below_new _ _
  have iW1 : BlkI W1 (w.heap.size) 26 [a, b, c] := by rw [hW1]; exact BlkI.new _ _ _
  have sW1 : W1.heap.size = w.heap.size + 1 := by rw [hW1]; simp
  rw [← hW1]
  clear hW1
  have b0 : W1.cell? ⟨w.heap.size, 0, none⟩ = some (.int .i64 a) := BlkI.cell (l := [a, b, c]) iW1 (j := 0) (by simp)
  have b1 : W1.cell? ⟨w.heap.size, 1, none⟩ = some (.int .i64 b) := BlkI.cell (l := [a, b, c]) iW1 (j := 1) (by simp)
  have b2 : W1.cell? ⟨w.heap.size, 2, none⟩ = some (.int .i64 c) := BlkI.cell (l := [a, b, c]) iW1 (j := 2) (by simp)
  clear iW1
  refine wp_region_E 99 (by kernel_rfl) ?_
  obtain ⟨wz, hwz⟩ : ∃ v, v = W1.drew := ⟨_, rfl⟩
  rw [← hwz]
  have hlz : Below W1.heap.size W1 wz := by rw [hwz]; exact (Below.refl _ _).drew
  have hbz := bthen kW1 hlz
  have b0 := cellb b0 hlz
  have b1 := cellb b1 hlz
  have b2 := cellb b2 hlz
  clear hwz hlz
  refine wpAnyE_take (i := 0) (oi := { dst := some 3, op := Op.indexAddr 26 (Operand.tmp 1) (Operand.const (Value.int IntKind.i64 0)), type := 0, pos := "ref.go:220", after := #[], guard := none }) (v := ?_) rfl (by kernel_rfl) (by kernel_rfl) (by kernel_rfl) (by kernel_rfl) (fun _ _ _ h => h) (Or.inl ⟨by rfl, ?_⟩) ?_
  rotate_left
  · (intro w hE; have b0 := cellb b0 hE; have b1 := cellb b1 hE; have b2 := cellb b2 hE; (try dsimp only); go_simp); (try with_reducible rfl)
  try simp only [Act.put, List.setIfInBounds_toArray, List.set_cons_zero, List.set_cons_succ]
  refine wpAnyE_take (i := 1) (oi := { dst := some 4, op := Op.load 3 (Operand.tmp 3), type := 3, pos := "ref.go:220", after := #[{ on := 0, ground := Ground.data }], guard := none }) (v := ?_) rfl (by kernel_rfl) (by kernel_rfl) (by kernel_rfl) (by kernel_rfl) (fun _ _ _ h => h) (Or.inl ⟨by rfl, ?_⟩) ?_
  rotate_left
  · (intro w hE; have b0 := cellb b0 hE; have b1 := cellb b1 hE; have b2 := cellb b2 hE; (try dsimp only); go_simp); (try with_reducible rfl)
  try simp only [Act.put, List.setIfInBounds_toArray, List.set_cons_zero, List.set_cons_succ]
  refine wpAnyE_take (i := 3) (oi := { dst := some 6, op := Op.indexAddr 26 (Operand.tmp 1) (Operand.const (Value.int IntKind.i64 1)), type := 0, pos := "ref.go:220", after := #[], guard := none }) (v := ?_) rfl (by kernel_rfl) (by kernel_rfl) (by kernel_rfl) (by kernel_rfl) (fun _ _ _ h => h) (Or.inl ⟨by rfl, ?_⟩) ?_
  rotate_left
  · (intro w hE; have b0 := cellb b0 hE; have b1 := cellb b1 hE; have b2 := cellb b2 hE; (try dsimp only); go_simp); (try with_reducible rfl)
  try simp only [Act.put, List.setIfInBounds_toArray, List.set_cons_zero, List.set_cons_succ]
  refine wpAnyE_take (i := 4) (oi := { dst := some 7, op := Op.load 3 (Operand.tmp 6), type := 3, pos := "ref.go:220", after := #[{ on := 3, ground := Ground.data }], guard := none }) (v := ?_) rfl (by kernel_rfl) (by kernel_rfl) (by kernel_rfl) (by kernel_rfl) (fun _ _ _ h => h) (Or.inl ⟨by rfl, ?_⟩) ?_
  rotate_left
  · (intro w hE; have b0 := cellb b0 hE; have b1 := cellb b1 hE; have b2 := cellb b2 hE; (try dsimp only); go_simp); (try with_reducible rfl)
  try simp only [Act.put, List.setIfInBounds_toArray, List.set_cons_zero, List.set_cons_succ]
  refine wpAnyE_take (i := 6) (oi := { dst := some 9, op := Op.indexAddr 26 (Operand.tmp 1) (Operand.const (Value.int IntKind.i64 2)), type := 0, pos := "ref.go:220", after := #[], guard := none }) (v := ?_) rfl (by kernel_rfl) (by kernel_rfl) (by kernel_rfl) (by kernel_rfl) (fun _ _ _ h => h) (Or.inl ⟨by rfl, ?_⟩) ?_
  rotate_left
  · (intro w hE; have b0 := cellb b0 hE; have b1 := cellb b1 hE; have b2 := cellb b2 hE; (try dsimp only); go_simp); (try with_reducible rfl)
  try simp only [Act.put, List.setIfInBounds_toArray, List.set_cons_zero, List.set_cons_succ]
  refine wpAnyE_take (i := 7) (oi := { dst := some 10, op := Op.load 3 (Operand.tmp 9), type := 3, pos := "ref.go:220", after := #[{ on := 6, ground := Ground.data }], guard := none }) (v := ?_) rfl (by kernel_rfl) (by kernel_rfl) (by kernel_rfl) (by kernel_rfl) (fun _ _ _ h => h) (Or.inl ⟨by rfl, ?_⟩) ?_
  rotate_left
  · (intro w hE; have b0 := cellb b0 hE; have b1 := cellb b1 hE; have b2 := cellb b2 hE; (try dsimp only); go_simp); (try with_reducible rfl)
  try simp only [Act.put, List.setIfInBounds_toArray, List.set_cons_zero, List.set_cons_succ]
  refine wpAnyE_call (i := 2) (oi := { dst := some 5, op := Op.call { callee := Callee.value (Operand.func 8), args := #[Operand.tmp 4, Operand.const (Value.int IntKind.i64 (-100)), Operand.const (Value.int IntKind.i64 100)], argTypes := #[3, 3, 3] }, type := 3, pos := "ref.go:220", after := #[{ on := 1, ground := Ground.data }], guard := none }) (fun w hE => ofPure (R0.out w)) rfl (by kernel_rfl) (by kernel_rfl) (by kernel_rfl) (by kernel_rfl) (fun _ _ _ h => h) (by rfl) (fun w hE => by (try dsimp only); go_simp) ?_
  try simp only [Act.put, List.setIfInBounds_toArray, List.set_cons_zero, List.set_cons_succ]
  refine wpAnyE_call (i := 5) (oi := { dst := some 8, op := Op.call { callee := Callee.value (Operand.func 8), args := #[Operand.tmp 7, Operand.const (Value.int IntKind.i64 (-100)), Operand.const (Value.int IntKind.i64 100)], argTypes := #[3, 3, 3] }, type := 3, pos := "ref.go:220", after := #[{ on := 4, ground := Ground.data }, { on := 2, ground := Ground.chain }], guard := none }) (fun w hE => ofPure (R1.out w)) rfl (by kernel_rfl) (by kernel_rfl) (by kernel_rfl) (by kernel_rfl) (fun _ _ _ h => h) (by rfl) (fun w hE => by (try dsimp only); go_simp) ?_
  try simp only [Act.put, List.setIfInBounds_toArray, List.set_cons_zero, List.set_cons_succ]
  refine wpAnyE_call (i := 8) (oi := { dst := some 11, op := Op.call { callee := Callee.value (Operand.func 8), args := #[Operand.tmp 10, Operand.const (Value.int IntKind.i64 (-100)), Operand.const (Value.int IntKind.i64 100)], argTypes := #[3, 3, 3] }, type := 3, pos := "ref.go:220", after := #[{ on := 7, ground := Ground.data }, { on := 5, ground := Ground.chain }], guard := none }) (fun w hE => ofPure (R2.out w)) rfl (by kernel_rfl) (by kernel_rfl) (by kernel_rfl) (by kernel_rfl) (fun _ _ _ h => h) (by rfl) (fun w hE => by (try dsimp only); go_simp) ?_
  try simp only [Act.put, List.setIfInBounds_toArray, List.set_cons_zero, List.set_cons_succ]
  refine wpAnyE_one (i := 9) (o := { dst := some 12, op := Op.buildSlice 27 3 #[(0, Operand.tmp 5), (1, Operand.tmp 8), (2, Operand.tmp 11)], type := 27, pos := "ref.go:220", after := #[{ on := 2, ground := Ground.data }, { on := 5, ground := Ground.data }, { on := 8, ground := Ground.data }], guard := none }) (by kernel_rfl) rfl (fun wy1 hE K hK => ?_)
  have b0 := cellb b0 hE
  have b1 := cellb b1 hE
  have b2 := cellb b2 hE
  have hbz1 := bthen hbz hE
  clear hE
  go_simp
  obtain ⟨wx1, hwz⟩ : ∃ v, v = wy1.alloc (Obj.cells #[.int .i64 e0, .int .i64 e1, .int .i64 e2] 3) := ⟨_, rfl⟩
  rw [← hwz]
  have hl : Below wy1.heap.size wy1 wx1 := by rw [hwz]; exact below_new _ _
  have hcz1 := bthen hbz1 hl
  have iN : BlkI wx1 wy1.heap.size 3 [e0, e1, e2] := by rw [hwz]; exact Blk.new _ _ _
  generalize wy1.heap.size = G at iN ⊢
  have b0 := cellb b0 hl
  have b1 := cellb b1 hl
  have b2 := cellb b2 hl
  clear hwz
  refine hK _ _ (fun _ => hl) ?_
  clear hK K hl
  try simp only [Act.put, List.setIfInBounds_toArray, List.set_cons_zero, List.set_cons_succ]
  refine wpAnyE_call (i := 10) (oi := { dst := some 13, op := Op.call { callee := Callee.value (Operand.func 76), args := #[Operand.tmp 12], argTypes := #[27] }, type := 3, pos := "ref.go:220", after := #[{ on := 9, ground := Ground.data }, { on := 8, ground := Ground.chain }], guard := none }) (fun w hE => ofPure (TF.out _ w ((BlkI.ints iN rfl).carry hE))) rfl (by kernel_rfl) (by kernel_rfl) (by kernel_rfl) (by kernel_rfl) (fun _ _ _ h => h) (by rfl) (fun w hE => by (try dsimp only); go_simp) ?_
  try simp only [Act.put, List.setIfInBounds_toArray, List.set_cons_zero, List.set_cons_succ]
  refine wpAnyE_take (i := 11) (oi := { dst := some 2, op := Op.assign (Operand.tmp 13), type := 3, pos := "ref.go:220", after := #[{ on := 10, ground := Ground.data }, { on := 10, ground := Ground.chain }, { on := 0, ground := Ground.phase }, { on := 1, ground := Ground.phase }, { on := 2, ground := Ground.phase }, { on := 3, ground := Ground.phase }, { on := 4, ground := Ground.phase }, { on := 5, ground := Ground.phase }, { on := 6, ground := Ground.phase }, { on := 7, ground := Ground.phase }, { on := 8, ground := Ground.phase }, { on := 9, ground := Ground.phase }, { on := 10, ground := Ground.phase }], guard := none }) (v := ?_) rfl (by kernel_rfl) (by kernel_rfl) (by kernel_rfl) (by kernel_rfl) (fun _ _ _ h => h) (Or.inl ⟨by rfl, ?_⟩) ?_
  rotate_left
  · (intro w hE; have b0 := cellb b0 hE; have b1 := cellb b1 hE; have b2 := cellb b2 hE; (try dsimp only); go_simp); (try with_reducible rfl)
  try simp only [Act.put, List.setIfInBounds_toArray, List.set_cons_zero, List.set_cons_succ]
  refine wpAnyE_done (by kernel_rfl) (fun wy2 hE => ?_) _
  have hbz2 := bthen hcz1 hE
  have b0 := cellb b0 hE
  have b1 := cellb b1 hE
  have b2 := cellb b2 hE
  clear hE
  have hB := hbz2
  go_wp2_with fail
  go_ret
  exact ⟨rfl, hB⟩

set_option maxRecDepth 100000 in
set_option maxHeartbeats 2000000 in
theorem QuarterR_any (a b c : Int) (w : World) :
    Calls Tryz.prog 18 #[.agg (ia [a, b, c])] w fun e w' => e = .returned (.agg (ia (qOf a b c))) ∧ Below w.heap.size w w' := by
  obtain ⟨R, hR⟩ : ∃ R, R = qOf a b c := ⟨_, rfl⟩
  rw [← hR]
  have HR := Lib.hid hR
  clear hR
  go_enter Tryz.func18, Tryz.ntmps18
  go_upto_region 1 with fail
  obtain ⟨W1, hW1⟩ : ∃ v, v = World.alloc w (Obj.cells (ia [a, b, c]) 26) := ⟨_, rfl⟩
  have kW1 : Below w.heap.size w W1 := by rw [hW1]; exact below_new _ _
  have iW1 : BlkI W1 (w.heap.size) 26 [a, b, c] := by rw [hW1]; exact BlkI.new _ _ _
  have sW1 : W1.heap.size = w.heap.size + 1 := by rw [hW1]; simp
  rw [← hW1]
  clear hW1
  obtain ⟨W2, hW2⟩ : ∃ v, v = World.alloc W1 (Obj.cells #[.int .i64 0, .int .i64 0, .int .i64 0, .int .i64 0, .int .i64 0, .int .i64 0, .int .i64 0, .int .i64 0, .int .i64 0, .int .i64 0, .int .i64 0, .int .i64 0] 22) := ⟨_, rfl⟩
  have kW2 : Below W1.heap.size W1 W2 := by rw [hW2]; exact below_new _ _
  have iW2 : BlkI W2 (w.heap.size + 1) 22 (List.replicate 12 0) := by rw [hW2, ← sW1]; exact BlkI.new W1 22 (List.replicate 12 0)
  have sW2 : W2.heap.size = w.heap.size + 1 + 1 := by rw [hW2]; simp [sW1]
  rw [← hW2]
  clear hW2
  have i1 := iW1.carry kW2
  have i2 := iW2
  have hB := bthen kW1 kW2
  clear kW1 kW2 sW1 sW2 iW1 iW2
  have a0 := i1.cell (j := 0) (v := .int .i64 a) rfl
  have a1 := i1.cell (j := 1) (v := .int .i64 b) rfl
  have a2 := i1.cell (j := 2) (v := .int .i64 c) rfl
  refine wp_region_E 99 (by kernel_rfl) ?_
  obtain ⟨wz, hwz⟩ : ∃ v, v = W2.drew := ⟨_, rfl⟩
  rw [← hwz]
  have hlz : Below W2.heap.size W2 wz := by rw [hwz]; exact (Below.refl _ _).drew
  have hbz := bthen hB hlz
  have a0 := cellb a0 hlz
  have a1 := cellb a1 hlz
  have a2 := cellb a2 hlz
  have i2 := i2.carry hlz
  clear hwz hlz
  refine wpAnyE_take (i := 0) (oi := { dst := some 6, op := Op.indexAddr 26 (Operand.tmp 1) (Operand.const (Value.int IntKind.i64 0)), type := 0, pos := "ref.go:225", after := #[], guard := none }) (v := ?_) rfl (by kernel_rfl) (by kernel_rfl) (by kernel_rfl) (by kernel_rfl) (fun _ _ _ h => h) (Or.inl ⟨by rfl, ?_⟩) ?_
  rotate_left
  · (intro w hE; have a0 := cellb a0 hE; have a1 := cellb a1 hE; have a2 := cellb a2 hE; (try dsimp only); go_simp); (try with_reducible rfl)
  try simp only [Act.put, List.setIfInBounds_toArray, List.set_cons_zero, List.set_cons_succ]
  refine wpAnyE_take (i := 1) (oi := { dst := some 7, op := Op.load 3 (Operand.tmp 6), type := 3, pos := "ref.go:225", after := #[{ on := 0, ground := Ground.data }], guard := none }) (v := ?_) rfl (by kernel_rfl) (by kernel_rfl) (by kernel_rfl) (by kernel_rfl) (fun _ _ _ h => h) (Or.inl ⟨by rfl, ?_⟩) ?_
  rotate_left
  · (intro w hE; have a0 := cellb a0 hE; have a1 := cellb a1 hE; have a2 := cellb a2 hE; (try dsimp only); go_simp); (try with_reducible rfl)
  try simp only [Act.put, List.setIfInBounds_toArray, List.set_cons_zero, List.set_cons_succ]
  refine wpAnyE_take (i := 2) (oi := { dst := some 8, op := Op.indexAddr 26 (Operand.tmp 1) (Operand.const (Value.int IntKind.i64 1)), type := 0, pos := "ref.go:225", after := #[{ on := 6, ground := Ground.gcOnly Departure.lateStores }], guard := none }) (v := ?_) rfl (by kernel_rfl) (by kernel_rfl) (by kernel_rfl) (by kernel_rfl) (fun _ _ _ h => h) (Or.inl ⟨by rfl, ?_⟩) ?_
  rotate_left
  · (intro w hE; have a0 := cellb a0 hE; have a1 := cellb a1 hE; have a2 := cellb a2 hE; (try dsimp only); go_simp); (try with_reducible rfl)
  try simp only [Act.put, List.setIfInBounds_toArray, List.set_cons_zero, List.set_cons_succ]
  refine wpAnyE_take (i := 3) (oi := { dst := some 9, op := Op.load 3 (Operand.tmp 8), type := 3, pos := "ref.go:225", after := #[{ on := 2, ground := Ground.data }, { on := 6, ground := Ground.gcOnly Departure.lateStores }], guard := none }) (v := ?_) rfl (by kernel_rfl) (by kernel_rfl) (by kernel_rfl) (by kernel_rfl) (fun _ _ _ h => h) (Or.inl ⟨by rfl, ?_⟩) ?_
  rotate_left
  · (intro w hE; have a0 := cellb a0 hE; have a1 := cellb a1 hE; have a2 := cellb a2 hE; (try dsimp only); go_simp); (try with_reducible rfl)
  try simp only [Act.put, List.setIfInBounds_toArray, List.set_cons_zero, List.set_cons_succ]
  refine wpAnyE_take (i := 4) (oi := { dst := some 10, op := Op.indexAddr 26 (Operand.tmp 1) (Operand.const (Value.int IntKind.i64 2)), type := 0, pos := "ref.go:225", after := #[{ on := 7, ground := Ground.gcOnly Departure.lateStores }], guard := none }) (v := ?_) rfl (by kernel_rfl) (by kernel_rfl) (by kernel_rfl) (by kernel_rfl) (fun _ _ _ h => h) (Or.inl ⟨by rfl, ?_⟩) ?_
  rotate_left
  · (intro w hE; have a0 := cellb a0 hE; have a1 := cellb a1 hE; have a2 := cellb a2 hE; (try dsimp only); go_simp); (try with_reducible rfl)
  try simp only [Act.put, List.setIfInBounds_toArray, List.set_cons_zero, List.set_cons_succ]
  refine wpAnyE_take (i := 5) (oi := { dst := some 11, op := Op.load 3 (Operand.tmp 10), type := 3, pos := "ref.go:225", after := #[{ on := 4, ground := Ground.data }, { on := 7, ground := Ground.gcOnly Departure.lateStores }], guard := none }) (v := ?_) rfl (by kernel_rfl) (by kernel_rfl) (by kernel_rfl) (by kernel_rfl) (fun _ _ _ h => h) (Or.inl ⟨by rfl, ?_⟩) ?_
  rotate_left
  · (intro w hE; have a0 := cellb a0 hE; have a1 := cellb a1 hE; have a2 := cellb a2 hE; (try dsimp only); go_simp); (try with_reducible rfl)
  try simp only [Act.put, List.setIfInBounds_toArray, List.set_cons_zero, List.set_cons_succ]
  refine wpAnyE_take (i := 6) (oi := { dst := some 3, op := Op.assign (Operand.tmp 7), type := 3, pos := "ref.go:225", after := #[{ on := 1, ground := Ground.data }, { on := 0, ground := Ground.phase }, { on := 1, ground := Ground.phase }, { on := 2, ground := Ground.textOnly Departure.lateStores }, { on := 3, ground := Ground.textOnly Departure.lateStores }, { on := 4, ground := Ground.textOnly Departure.lateStores }, { on := 5, ground := Ground.textOnly Departure.lateStores }], guard := none }) (v := ?_) rfl (by kernel_rfl) (by kernel_rfl) (by kernel_rfl) (by kernel_rfl) (fun _ _ _ h => h) (Or.inl ⟨by rfl, ?_⟩) ?_
  rotate_left
  · (intro w hE; have a0 := cellb a0 hE; have a1 := cellb a1 hE; have a2 := cellb a2 hE; (try dsimp only); go_simp); (try with_reducible rfl)
  try simp only [Act.put, List.setIfInBounds_toArray, List.set_cons_zero, List.set_cons_succ]
  refine wpAnyE_take (i := 7) (oi := { dst := some 4, op := Op.assign (Operand.tmp 9), type := 3, pos := "ref.go:225", after := #[{ on := 3, ground := Ground.data }, { on := 6, ground := Ground.chain }, { on := 0, ground := Ground.phase }, { on := 1, ground := Ground.phase }, { on := 2, ground := Ground.phase }, { on := 3, ground := Ground.phase }, { on := 4, ground := Ground.textOnly Departure.lateStores }, { on := 5, ground := Ground.textOnly Departure.lateStores }, { on := 6, ground := Ground.phase }], guard := none }) (v := ?_) rfl (by kernel_rfl) (by kernel_rfl) (by kernel_rfl) (by kernel_rfl) (fun _ _ _ h => h) (Or.inl ⟨by rfl, ?_⟩) ?_
  rotate_left
  · (intro w hE; have a0 := cellb a0 hE; have a1 := cellb a1 hE; have a2 := cellb a2 hE; (try dsimp only); go_simp); (try with_reducible rfl)
  try simp only [Act.put, List.setIfInBounds_toArray, List.set_cons_zero, List.set_cons_succ]
  refine wpAnyE_take (i := 8) (oi := { dst := some 5, op := Op.assign (Operand.tmp 11), type := 3, pos := "ref.go:225", after := #[{ on := 5, ground := Ground.data }, { on := 7, ground := Ground.chain }, { on := 0, ground := Ground.phase }, { on := 1, ground := Ground.phase }, { on := 2, ground := Ground.phase }, { on := 3, ground := Ground.phase }, { on := 4, ground := Ground.phase }, { on := 5, ground := Ground.phase }, { on := 6, ground := Ground.phase }, { on := 7, ground := Ground.phase }], guard := none }) (v := ?_) rfl (by kernel_rfl) (by kernel_rfl) (by kernel_rfl) (by kernel_rfl) (fun _ _ _ h => h) (Or.inl ⟨by rfl, ?_⟩) ?_
  rotate_left
  · (intro w hE; have a0 := cellb a0 hE; have a1 := cellb a1 hE; have a2 := cellb a2 hE; (try dsimp only); go_simp); (try with_reducible rfl)
  try simp only [Act.put, List.setIfInBounds_toArray, List.set_cons_zero, List.set_cons_succ]
  refine wpAnyE_done (by kernel_rfl) (fun wy1 hE => ?_) _
  have hbz1 := bthen hbz hE
  have a0 := cellb a0 hE
  have a1 := cellb a1 hE
  have a2 := cellb a2 hE
  have i2 := i2.carry hE
  clear hE
  have hB := hbz1
  obtain ⟨W5, hW5⟩ : ∃ v, v = wy1 := ⟨_, rfl⟩
  rw [← hW5] at hB i2 ⊢
  clear hW5 a0 a1 a2
  have hl : R.length = 12 := by rw [HR.out]; rfl
  go_wp2_with (refine wpList_storeA rfl _ _ _ rfl (w.heap.size + 1) R (List.replicate 12 0) rfl (by rw [HR.out]; rfl) i2 (by rw [hl]; rfl) (by rw [hl]; exact Tryz.infoA12) ?_)
  have i9 := BlkI.setRowA i2 R
  have hld := Tryz.loadVar12 hl i9
  exact bodyPost_ret (v := .agg (ia R)) (results_cellA (p := 2) rfl _ _ (w.heap.size + 1) _ rfl hld) rfl ⟨rfl, below_rowA hB (by omega) _⟩

/-- what Quarter returns. -/
def quaR (a b c : Int) : List Int := arOr (levE a b c) (qOf a b c)
set_option maxRecDepth 100000 in
set_option maxHeartbeats 2000000 in
theorem QuarterH_any (a b c : Int) (w : World) :
    Calls Tryz.prog 11 #[.agg (ia [a, b, c])] w fun e w' => e = .returned (.tuple #[.agg (ia (quaR a b c)), .int .i64 (levE a b c)]) ∧ Below w.heap.size w w' := by
  have TC := Lib.hid (fun v W (h : Ints W v [a, b, c]) => checkAll_any v [a, b, c] 100 W h (by simp) (by omega))
  rw [show allE [a, b, c] 100 = levE a b c from rfl] at TC
  have TQ := Lib.hid (fun W => quarterOf_any a b c W)
  obtain ⟨R, hR⟩ : ∃ R, R = quaR a b c := ⟨_, rfl⟩
  have hl : R.length = 12 := by
    rw [hR, quaR, arOr]; split
    · rfl
    · rw [List.length_replicate]; rfl
  have h0 : levE a b c = 0 → R = qOf a b c := fun h => by rw [hR, quaR, arOr, if_pos h]
  have h1 : levE a b c ≠ 0 → R = List.replicate 12 0 := fun h => by rw [hR, quaR, arOr, if_neg h]; rfl
  rw [← hR]
  generalize qOf a b c = Q at TQ h0
  generalize levE a b c = E at TC h0 h1 ⊢
  have H0 := Lib.hid h0
  have H1 := Lib.hid h1
  have HL := Lib.hid hl
  clear hR h0 h1 hl
  go_enter Tryz.func11, Tryz.ntmps11
  go_upto_region 1 with fail
  obtain ⟨W1, hW1⟩ : ∃ v, v = World.alloc w (Obj.cells (ia [a, b, c]) 26) := ⟨_, rfl⟩
  have kW1 : Below w.heap.size w W1 := by rw [hW1]; exact below_new _ _
  have iW1 : BlkI W1 (w.heap.size) 26 [a, b, c] := by rw [hW1]; exact BlkI.new _ _ _
  have sW1 : W1.heap.size = w.heap.size + 1 := by rw [hW1]; simp
  rw [← hW1]
  clear hW1
  obtain ⟨W2, hW2⟩ : ∃ v, v = World.alloc W1 (Obj.cells #[.int .i64 0, .int .i64 0, .int .i64 0, .int .i64 0, .int .i64 0, .int .i64 0, .int .i64 0, .int .i64 0, .int .i64 0, .int .i64 0, .int .i64 0, .int .i64 0] 22) := ⟨_, rfl⟩
  have kW2 : Below W1.heap.size W1 W2 := by rw [hW2]; exact below_new _ _
  have iW2 : BlkI W2 (w.heap.size + 1) 22 (List.replicate 12 0) := by rw [hW2, ← sW1]; exact BlkI.new W1 22 (List.replicate 12 0)
  have sW2 : W2.heap.size = w.heap.size + 1 + 1 := by rw [hW2]; simp [sW1]
  rw [← hW2]
  clear hW2
  have i1 := iW1.carry kW2
  have i2 := iW2
  have hB := bthen kW1 kW2
  clear kW1 kW2 sW1 sW2 iW1 iW2
  go_wp2_with fail
  refine (TC.out _ W2 (BlkI.ints (l := [a, b, c]) i1 rfl)).mono ?_
  rintro e W3 ⟨rfl, hb⟩
  replace i1 := i1.carry hb
  replace i2 := i2.carry hb
  replace hB := bthen hB hb
  clear hb
  by_cases he : E = 0
  · subst he
    obtain rfl : R = Q := H0.out rfl
    have a0 := i1.cell (j := 0) (v := .int .i64 a) rfl
    have a1 := i1.cell (j := 1) (v := .int .i64 b) rfl
    have a2 := i1.cell (j := 2) (v := .int .i64 c) rfl
    go_wp2_with fail
    refine (TQ.out W3).mono ?_
    rintro e W4 ⟨rfl, hb⟩
    replace i2 := i2.carry hb
    replace hB := bthen hB hb
    clear hb a0 a1 a2
    go_wp2_with (refine wpList_storeA rfl _ _ _ rfl (w.heap.size + 1) R (List.replicate 12 0) rfl rfl i2 (by rw [HL.out]; rfl) (by rw [HL.out]; exact Tryz.infoA12) ?_)
    have i9 := BlkI.setRowA i2 R
    have hld := Tryz.loadVar12 HL.out i9
    exact bodyPost_ret (v := .tuple #[.agg (ia R), .int .i64 0]) (results_cell_tmp (p := 2) (q := 3) rfl _ _ (w.heap.size + 1) _ rfl _ rfl hld) rfl ⟨rfl, below_rowA hB (by omega) _⟩
  · have z : (E == 0) = false := by rw [beq_eq_false_iff_ne]; exact he
    obtain rfl : R = List.replicate 12 0 := H1.out he
    clear he
    go_wp2_with (refine wpList_storeA rfl _ _ _ rfl (w.heap.size + 1) (List.replicate 12 0) (List.replicate 12 0) rfl rfl i2 rfl Tryz.infoA12 ?_)
    have i9 := BlkI.setRowA i2 (List.replicate 12 0)
    have hld := Tryz.loadVar12 rfl i9
    exact bodyPost_ret (v := .tuple #[.agg (ia (List.replicate 12 0)), .int .i64 E]) (results_cell_tmp (p := 2) (q := 3) rfl _ _ (w.heap.size + 1) _ rfl _ rfl hld) rfl ⟨rfl, below_rowA hB (by omega) _⟩
end

section
set_option linter.unusedSimpArgs false
set_option linter.unusedVariables false
open Go.RowKit

theorem order_small (l : List Int) (hl : ∀ x ∈ l, -100 ≤ x ∧ x ≤ 100) (h : Nat) (h1 : 1 ≤ h) (h6 : h ≤ 6) : Bd 1048576 (orderC l h) := by
  have hq := order_bq l h hl
  have hc := cS_le (fun k => cO (mod12 (wrap64 (-(h : Int) * k)))) (fun k => cO_le _) 12
  unfold cH at hq
  generalize cS (fun k => cO (mod12 (wrap64 (-(h : Int) * k)))) 12 = c at hq hc
  obtain ⟨q0, q1, q2, q3⟩ := hq
  exact ⟨by omega, by omega, by omega, by omega⟩
/-- the reference's strength of an order is the program's. -/
theorem StrengthO_any (l : List Int) (h : Nat) (hl : ∀ x ∈ l, -100 ≤ x ∧ x ≤ 100) (h1 : 1 ≤ h) (h6 : h ≤ 6) (w : World) :
    Calls Tryz.prog 78 #[.agg #[.int .i64 (orderC l h).1, .int .i64 (orderC l h).2.1, .int .i64 (orderC l h).2.2.1, .int .i64 (orderC l h).2.2.2]] w fun e w' => e = .returned (.agg (ia [(stC (orderC l h)).1, (stC (orderC l h)).2])) ∧ Below w.heap.size w w' := by
  have hb := order_small l hl h h1 h6
  generalize orderC l (h : Int) = o at hb ⊢
  obtain ⟨o0, o1, o2, o3⟩ := o
  obtain ⟨e0, e1⟩ := strength_same hb
  have := StrengthCR_any o0 o1 o2 o3 w
  rw [← e0, ← e1] at this
  exact this
theorem patE_all {l : List Int} (h : patE l = 0) : ∀ x ∈ l, -100 ≤ x ∧ x ≤ 100 := by
  unfold patE allE at h
  exact fun x hx => withinE_zero (firstE_mapOk h x hx)
theorem limE_all {l : List Int} (h : limE l = 0) : ∀ x ∈ l, 0 ≤ x ∧ x ≤ 256 := by
  unfold limE at h
  exact fun x hx => withinE_zero (firstE_mapOk h x hx)
theorem scR_eq (n m a b c d : Int) : scR n (a, b) m (c, d) = (wrap64 (wrap64 (n * a) - wrap64 (m * c)), wrap64 (wrap64 (n * b) - wrap64 (m * d))) := rfl
theorem Tryz.infoRootR : (Tryz.prog.info? 88).map (·.size) = some 2 := by kernel_rfl

set_option maxRecDepth 100000 in
set_option maxHeartbeats 8000000 in
theorem ExcessR_any (l lim : List Int) (w : World) (hl : l.length = 12) (hlim : lim.length = 7) (hp : patE l = 0) (hm : limE lim = 0) :
    Calls Tryz.prog 17 #[.agg (ia l), .agg (ia lim)] w fun e w' => (∃ u, e = .returned u ∧ w'.ownsRow w.heap.size 3 1 u (excL l lim).length ((excL l lim).map (Value.int .i64))) ∧ Below w.heap.size w w' := by
  obtain ⟨i0, hi, hz0, hz1, hz2⟩ := info_parts Tryz.infoInt
  have TS := Lib.hid (fun W => SpectrumR_any l W hl hp)
  have hsg := fun (h i : Nat) (hh : h < 12) (hi : i < 4) => specL_get l h i hh hi
  have TT := Lib.hid (fun h h1 h6 W => StrengthO_any l h (patE_all hp) h1 h6 W)
  have HSM := Lib.hid (smallP_all l lim (patE_all hp) (limE_all hm))
  obtain ⟨g, hg⟩ : ∃ g : Int → Bool, g = fun h => excB l lim h.toNat := ⟨_, rfl⟩
  rw [show excL l lim = chosenL g 2 5 by rw [hg]; rfl]
  have hgv : ∀ h : Nat, g (h : Int) = excB l lim h := fun h => by rw [hg]; rfl
  obtain ⟨S, hS⟩ : ∃ S, S = specL l := ⟨_, rfl⟩
  have hSl : S.length = 48 := by rw [hS]; exact upto_length _ _
  rw [← hS] at TS hsg
  have HSG := Lib.hid hsg
  have HGV := Lib.hid hgv
  have HL7 := Lib.hid hlim
  obtain ⟨⟨T0, T1⟩, hT⟩ : ∃ t, t = stC (orderC l 1) := ⟨_, rfl⟩
  have TT1 := Lib.hid (TT.out 1 (by omega) (by omega))
  have hT' : stC (orderC l ((1 : Nat) : Int)) = (T0, T1) := hT.symm
  rw [hT'] at TT1
  have HT := Lib.hid hT
  have q0 := hsg 1 0 (by omega) (by omega)
  have q1 := hsg 1 1 (by omega) (by omega)
  have q2 := hsg 1 2 (by omega) (by omega)
  have q3 := hsg 1 3 (by omega) (by omega)
  simp only [Nat.reduceMul, Nat.reduceAdd] at q0 q1 q2 q3
  clear hsg hgv hS hg hp hm hT hT' hlim
  go_enter Tryz.func17, Tryz.ntmps17
  go_upto_region 1 with fail
  obtain ⟨W0, hW0⟩ : ∃ v, v = World.alloc w (Obj.cells (ia l) 22) := ⟨_, rfl⟩
  have kW0 : Below w.heap.size w W0 := by rw [hW0]; exact below_new _ _
  have iW0 : BlkI W0 (w.heap.size) 22 l := by rw [hW0]; exact BlkI.new _ _ _
  have sW0 : W0.heap.size = w.heap.size + 1 := by rw [hW0]; simp
  rw [← hW0]
  clear hW0
  obtain ⟨W1, hW1⟩ : ∃ v, v = World.alloc W0 (Obj.cells (ia lim) 23) := ⟨_, rfl⟩
  have kW1 : Below W0.heap.size W0 W1 := by rw [hW1]; exact below_new _ _
  have iW1 : BlkI W1 (w.heap.size + 1) 23 lim := by rw [hW1, ← sW0]; exact BlkI.new _ _ _
  have sW1 : W1.heap.size = w.heap.size + 1 + 1 := by rw [hW1]; simp [sW0]
  rw [← hW1]
  clear hW1
  have i1 : BlkI W1 (w.heap.size + 1) 23 lim := iW1
  have hld := load12 hl (iW0.carry kW1)
  have hB0 := bthen kW0 kW1
  go_wp2_with (refine wpList_load rfl _ _ rfl hld ?_)
  refine (TS.out W1).mono ?_
  rintro e W2 ⟨rfl, hb⟩
  have hB := bthen hB0 hb
  replace i1 := i1.carry hb
  clear hld hb kW0 sW0 iW0 kW1 sW1 iW1 hB0
  go_upto_region 2 with (refine wpList_storeA rfl _ _ _ rfl W2.heap.size S (List.replicate 48 0) rfl rfl (BlkI.new W2 135 (List.replicate 48 0)) (by rw [hSl]; rfl) (by rw [hSl]; exact Tryz.infoSpR) ?_)
  obtain ⟨W3, hW3⟩ : ∃ v, v = World.setRow (World.alloc W2 (Obj.cells #[.int .i64 0, .int .i64 0, .int .i64 0, .int .i64 0, .int .i64 0, .int .i64 0, .int .i64 0, .int .i64 0, .int .i64 0, .int .i64 0, .int .i64 0, .int .i64 0, .int .i64 0, .int .i64 0, .int .i64 0, .int .i64 0, .int .i64 0, .int .i64 0, .int .i64 0, .int .i64 0, .int .i64 0, .int .i64 0, .int .i64 0, .int .i64 0, .int .i64 0, .int .i64 0, .int .i64 0, .int .i64 0, .int .i64 0, .int .i64 0, .int .i64 0, .int .i64 0, .int .i64 0, .int .i64 0, .int .i64 0, .int .i64 0, .int .i64 0, .int .i64 0, .int .i64 0, .int .i64 0, .int .i64 0, .int .i64 0, .int .i64 0, .int .i64 0, .int .i64 0, .int .i64 0, .int .i64 0, .int .i64 0] 135)) W2.heap.size (ia (S)) := ⟨_, rfl⟩
  have kW3 : Below W2.heap.size W2 W3 := by rw [hW3]; exact zrow_below _ _ _ _
  have iW3 : BlkI W3 W2.heap.size 135 (S) := by rw [hW3]; exact zrow_blk W2 _ (List.replicate 48 0) _
  rw [← hW3]
  clear hW3
  have i3 := iW3
  replace i1 := i1.carry kW3
  replace hB := bthen hB kW3
  obtain ⟨G, hG⟩ : ∃ G, G = W2.heap.size := ⟨_, rfl⟩
  rw [← hG] at i3 ⊢
  clear iW3 kW3 hG
  have c0 := BlkI.cell (l := S) i3 (j := 4) (by omega)
  have c1 := BlkI.cell (l := S) i3 (j := 5) (by omega)
  have c2 := BlkI.cell (l := S) i3 (j := 6) (by omega)
  have c3 := BlkI.cell (l := S) i3 (j := 7) (by omega)
  rw [q0] at c0
  rw [q1] at c1
  rw [q2] at c2
  rw [q3] at c3
  generalize orderC l ((1 : Nat) : Int) = o at c0 c1 c2 c3 TT1
  obtain ⟨o0, o1, o2, o3⟩ := o
  simp only [cyAt] at c0 c1 c2 c3
  simp only at TT1
  clear q0 q1 q2 q3
  go_wp2_with fail
  refine (TT1.out W3).mono ?_
  rintro e W4 ⟨rfl, hb⟩
  replace i1 := i1.carry hb
  replace i3 := i3.carry hb
  replace hB := bthen hB hb
  have hB4 : w.heap.size ≤ W4.heap.size := hB.size
  have hlt36 : G < W4.heap.size := Blk.lt i3
  clear hb c0 c1 c2 c3
  go_upto_region 3 with (refine wpList_storeA rfl _ _ _ rfl W4.heap.size [T0, T1] (List.replicate 2 0) rfl rfl (BlkI.new W4 88 (List.replicate 2 0)) rfl Tryz.infoRootR ?_)
  obtain ⟨W5, hW5⟩ : ∃ v, v = World.setRow (World.alloc W4 (Obj.cells #[.int .i64 0, .int .i64 0] 88)) W4.heap.size (ia ([T0, T1])) := ⟨_, rfl⟩
  have kW5 : Below W4.heap.size W4 W5 := by rw [hW5]; exact zrow_below _ _ _ _
  have iW5 : BlkI W5 W4.heap.size 88 ([T0, T1]) := by rw [hW5]; exact zrow_blk W4 _ (List.replicate 2 0) _
  rw [← hW5]
  clear hW5
  replace i1 := i1.carry kW5
  replace i3 := i3.carry kW5
  replace hB := bthen hB kW5
  have i6 := iW5
  have hg6 : w.heap.size ≤ W4.heap.size := hB4
  obtain ⟨G6, hG⟩ : ∃ G, G = W4.heap.size := ⟨_, rfl⟩
  rw [← hG] at i6 hg6 hlt36 ⊢
  clear iW5 kW5 hG
  clear hB4 TT1
  go_wp2_with fail
  go_loopw [7, 8] (fun u i wr => ∃ k : Nat, k ≤ 5 ∧ i = .int .i64 ((k + 2 : Nat) : Int) ∧ wr.ownsRow (G6 + 1) 3 1 u (chosenL g 2 k).length ((chosenL g 2 k).map (Value.int .i64)) ∧ BlkI wr (w.heap.size + 1) 23 lim ∧ BlkI wr G 135 S ∧ BlkI wr G6 88 [T0, T1] ∧ Below w.heap.size w wr) (fun _ i _ => (7 - intOf i).toNat)
  case atStart => exact ⟨0, by omega, by simp, World.ownsRow_nil _ _ _ _, i1, i3, i6, hB⟩
  case round =>
    clear i1 i3 i6 hB
    obtain ⟨k, hk, rfl, hown, i1, i3, i6, hB⟩ := hrel
    obtain ⟨j, hj⟩ : ∃ j, j = k + 2 := ⟨_, rfl⟩
    rw [← hj]
    have hle := chosenL_le g 2 k
    have hsz : G6 < wr.heap.size := Blk.lt i6
    by_cases hlt : k < 5
    · have d1 : (j : Int) ≤ 6 := by omega
      have d2 : (j : Int) < 12 := by omega
      have d3 : (j : Int) < 7 := by omega
      have hcs := chosenL_succ g 2 k
      rw [show (2 : Int) + (k : Int) = (j : Int) by omega, HGV.out] at hcs
      have c0 := BlkI.cell (l := S) i3 (j := j * 4) (by omega)
      have c1 := BlkI.cell (l := S) i3 (j := j * 4 + 1) (by omega)
      have c2 := BlkI.cell (l := S) i3 (j := j * 4 + 2) (by omega)
      have c3 := BlkI.cell (l := S) i3 (j := j * 4 + 3) (by omega)
      have q0 := HSG.out j 0 (by omega) (by omega)
      have q1 := HSG.out j 1 (by omega) (by omega)
      have q2 := HSG.out j 2 (by omega) (by omega)
      have q3 := HSG.out j 3 (by omega) (by omega)
      rw [Nat.add_zero] at q0
      rw [q0] at c0
      rw [q1] at c1
      rw [q2] at c2
      rw [q3] at c3
      have TTj := Lib.hid (TT.out j (by omega) (by omega))
      have hSm := HSM.out j (by omega) (by omega)
      unfold excB at hcs
      rw [← HT.out] at hcs hSm
      generalize orderC l (j : Int) = o at c0 c1 c2 c3 hcs TTj hSm
      obtain ⟨⟨s0, s1⟩, hs⟩ : ∃ t, t = stC o := ⟨_, rfl⟩
      rw [← hs] at TTj hcs hSm
      obtain ⟨o0, o1, o2, o3⟩ := o
      simp only [cyAt] at c0 c1 c2 c3
      simp only at TTj
      generalize hmv : lim[j]?.getD 0 = m at hcs hSm
      have m0 : wr.cell? ⟨w.heap.size + 1, j, none⟩ = some (.int .i64 m) := by
        have := BlkI.cell (l := lim) i1 (j := j) (by rw [HL7.out]; omega)
        rw [hmv] at this
        exact this
      rw [scR_eq] at hcs hSm
      obtain ⟨P0, hP0⟩ : ∃ P, P = wrap64 (256 * s0) := ⟨_, rfl⟩
      obtain ⟨P1, hP1⟩ : ∃ P, P = wrap64 (256 * s1) := ⟨_, rfl⟩
      obtain ⟨Q0, hQ0⟩ : ∃ P, P = wrap64 (m * T0) := ⟨_, rfl⟩
      obtain ⟨Q1, hQ1⟩ : ∃ P, P = wrap64 (m * T1) := ⟨_, rfl⟩
      rw [← hP0, ← hP1, ← hQ0, ← hQ1] at hcs hSm
      obtain ⟨D0, hD0⟩ : ∃ P, P = wrap64 (P0 - Q0) := ⟨_, rfl⟩
      obtain ⟨D1, hD1⟩ : ∃ P, P = wrap64 (P1 - Q1) := ⟨_, rfl⟩
      rw [← hD0, ← hD1] at hcs hSm
      simp only at hcs hSm
      have TG := Lib.hid (fun W => SignR_any D0 D1 W hSm.1 hSm.2)
      have v0 : IntKind.i64.wrap (256 * s0) = P0 := by rw [wrapEq, hP0]
      have v1 : IntKind.i64.wrap (256 * s1) = P1 := by rw [wrapEq, hP1]
      have v2 : IntKind.i64.wrap (m * T0) = Q0 := by rw [wrapEq, hQ0]
      have v3 : IntKind.i64.wrap (m * T1) = Q1 := by rw [wrapEq, hQ1]
      have v4 : IntKind.i64.wrap (P0 - Q0) = D0 := by rw [wrapEq, hD0]
      have v5 : IntKind.i64.wrap (P1 - Q1) = D1 := by rw [wrapEq, hD1]
      obtain ⟨sg, hsg⟩ : ∃ s, s = sgnR D0 D1 := ⟨_, rfl⟩
      rw [← hsg] at TG hcs
      obtain ⟨q, hq⟩ : ∃ q, q = posB sg := ⟨_, rfl⟩
      rw [← hq] at hcs
      have vq : decide (0 < sg) = q := hq.symm
      have HCS := Lib.hid hcs
      have HJ := Lib.hid hj
      have HSZ := Lib.hid hsz
      have HLE := Lib.hid hle
      clear hcs hj hsz hle hP0 hP1 hQ0 hQ1 hD0 hD1 hSm hsg hq hs hmv q0 q1 q2 q3
      have HVF := Lib.hid (And.intro vq (And.intro v0 (And.intro v1 (And.intro v2 (And.intro v3 (And.intro v4 v5))))))
      clear vq v0 v1 v2 v3 v4 v5
      go_wp2_with fail
      refine (TTj.out wr).mono ?_
      rintro e W6 ⟨rfl, hb⟩
      replace hown := own_below hown hb
      replace i1 := i1.carry hb
      replace i3 := i3.carry hb
      replace i6 := i6.carry hb
      have m0 := cellb m0 hb
      replace hB := bthen hB hb
      clear hb c0 c1 c2 c3
      go_upto_region 8 with (refine wpList_storeA rfl _ _ _ rfl W6.heap.size [s0, s1] (List.replicate 2 0) rfl rfl (BlkI.new W6 88 (List.replicate 2 0)) rfl Tryz.infoRootR ?_)
      obtain ⟨W7, hW7⟩ : ∃ v, v = World.setRow (World.alloc W6 (Obj.cells #[.int .i64 0, .int .i64 0] 88)) W6.heap.size (ia ([s0, s1])) := ⟨_, rfl⟩
      have kW7 : Below W6.heap.size W6 W7 := by rw [hW7]; exact zrow_below _ _ _ _
      have iW7 : BlkI W7 W6.heap.size 88 ([s0, s1]) := by rw [hW7]; exact zrow_blk W6 _ (List.replicate 2 0) _
      rw [← hW7]
      clear hW7
      replace hown := own_below hown kW7
      replace i1 := i1.carry kW7
      replace i3 := i3.carry kW7
      replace i6 := i6.carry kW7
      have m0 := cellb m0 kW7
      replace hB := bthen hB kW7
      have e0 : W7.cell? ⟨W6.heap.size, 0, none⟩ = some (.int .i64 s0) := BlkI.cell iW7 (j := 0) (by simp)
      have e1 : W7.cell? ⟨W6.heap.size, 1, none⟩ = some (.int .i64 s1) := BlkI.cell iW7 (j := 1) (by simp)
      have t0 : W7.cell? ⟨G6, 0, none⟩ = some (.int .i64 T0) := BlkI.cell i6 (j := 0) (by simp)
      have t1 : W7.cell? ⟨G6, 1, none⟩ = some (.int .i64 T1) := BlkI.cell i6 (j := 1) (by simp)
      clear kW7 iW7
      obtain ⟨vq, v0, v1, v2, v3, v4, v5⟩ := HVF.out
      have hR := Below.refl W7.heap.size W7
      have HO := Lib.hid hown
      have HI := Lib.hid (And.intro i1 (And.intro i3 i6))
      have HB := Lib.hid hB
      clear hown i1 i3 i6 hB
      refine wp_region_E 99 (by kernel_rfl) ?_
      obtain ⟨wz, hwz⟩ : ∃ v, v = W7.drew := ⟨_, rfl⟩
      rw [← hwz]
      have hlz : Below W7.heap.size W7 wz := by rw [hwz]; exact (Below.refl _ _).drew
      have hbz := bthen hR hlz
      have e0 := cellb e0 hlz
      have e1 := cellb e1 hlz
      have t0 := cellb t0 hlz
      have t1 := cellb t1 hlz
      have m0 := cellb m0 hlz
      clear hwz hlz
      refine wpAnyE_take (i := 0) (oi := { dst := some 23, op := Op.fieldAddr 88 (Operand.tmp 9) 0, type := 0, pos := "ref.go:202", after := #[], guard := none }) (v := ?_) rfl (by kernel_rfl) (by kernel_rfl) (by kernel_rfl) (by kernel_rfl) (fun _ _ _ h => h) (Or.inl ⟨by rfl, ?_⟩) ?_
      rotate_left
      · (intro w hE; have e0 := cellb e0 hE; have e1 := cellb e1 hE; have t0 := cellb t0 hE; have t1 := cellb t1 hE; have m0 := cellb m0 hE; (try dsimp only); go_simp); (try with_reducible rfl)
      try simp only [Act.put, List.setIfInBounds_toArray, List.set_cons_zero, List.set_cons_succ]
      refine wpAnyE_take (i := 1) (oi := { dst := some 24, op := Op.load 3 (Operand.tmp 23), type := 3, pos := "ref.go:202", after := #[{ on := 0, ground := Ground.data }], guard := none }) (v := ?_) rfl (by kernel_rfl) (by kernel_rfl) (by kernel_rfl) (by kernel_rfl) (fun _ _ _ h => h) (Or.inl ⟨by rfl, ?_⟩) ?_
      rotate_left
      · (intro w hE; have e0 := cellb e0 hE; have e1 := cellb e1 hE; have t0 := cellb t0 hE; have t1 := cellb t1 hE; have m0 := cellb m0 hE; (try dsimp only); go_simp); (try with_reducible rfl)
      try simp only [Act.put, List.setIfInBounds_toArray, List.set_cons_zero, List.set_cons_succ]
      refine wpAnyE_take (i := 2) (oi := { dst := some 25, op := Op.binOp BinOp.mul 3 (Operand.const (Value.int IntKind.i64 256)) (Operand.tmp 24) 3, type := 3, pos := "ref.go:202", after := #[{ on := 1, ground := Ground.data }], guard := none }) (v := ?_) rfl (by kernel_rfl) (by kernel_rfl) (by kernel_rfl) (by kernel_rfl) (fun _ _ _ h => h) (Or.inl ⟨by rfl, ?_⟩) ?_
      rotate_left
      · (intro w hE; have e0 := cellb e0 hE; have e1 := cellb e1 hE; have t0 := cellb t0 hE; have t1 := cellb t1 hE; have m0 := cellb m0 hE; (try dsimp only); go_simp); (try with_reducible rfl)
      try simp only [Act.put, List.setIfInBounds_toArray, List.set_cons_zero, List.set_cons_succ]
      refine wpAnyE_take (i := 3) (oi := { dst := some 26, op := Op.move (Operand.tmp 8), type := 3, pos := "ref.go:202", after := #[], guard := none }) (v := ?_) rfl (by kernel_rfl) (by kernel_rfl) (by kernel_rfl) (by kernel_rfl) (fun _ _ _ h => h) (Or.inl ⟨by rfl, ?_⟩) ?_
      rotate_left
      · (intro w hE; have e0 := cellb e0 hE; have e1 := cellb e1 hE; have t0 := cellb t0 hE; have t1 := cellb t1 hE; have m0 := cellb m0 hE; (try dsimp only); go_simp); (try with_reducible rfl)
      try simp only [Act.put, List.setIfInBounds_toArray, List.set_cons_zero, List.set_cons_succ]
      refine wpAnyE_take (i := 4) (oi := { dst := some 27, op := Op.indexAddr 23 (Operand.tmp 3) (Operand.tmp 26), type := 0, pos := "ref.go:202", after := #[{ on := 3, ground := Ground.data }], guard := none }) (v := ?_) rfl (by kernel_rfl) (by kernel_rfl) (by kernel_rfl) (by kernel_rfl) (fun _ _ _ h => h) (Or.inl ⟨by rfl, ?_⟩) ?_
      rotate_left
      · (intro w hE; have e0 := cellb e0 hE; have e1 := cellb e1 hE; have t0 := cellb t0 hE; have t1 := cellb t1 hE; have m0 := cellb m0 hE; (try dsimp only); go_simp); (try with_reducible rfl)
      try simp only [Act.put, List.setIfInBounds_toArray, List.set_cons_zero, List.set_cons_succ]
      refine wpAnyE_take (i := 5) (oi := { dst := some 28, op := Op.load 3 (Operand.tmp 27), type := 3, pos := "ref.go:202", after := #[{ on := 4, ground := Ground.data }], guard := none }) (v := ?_) rfl (by kernel_rfl) (by kernel_rfl) (by kernel_rfl) (by kernel_rfl) (fun _ _ _ h => h) (Or.inl ⟨by rfl, ?_⟩) ?_
      rotate_left
      · (intro w hE; have e0 := cellb e0 hE; have e1 := cellb e1 hE; have t0 := cellb t0 hE; have t1 := cellb t1 hE; have m0 := cellb m0 hE; (try dsimp only); go_simp); (try with_reducible rfl)
      try simp only [Act.put, List.setIfInBounds_toArray, List.set_cons_zero, List.set_cons_succ]
      refine wpAnyE_take (i := 6) (oi := { dst := some 29, op := Op.fieldAddr 88 (Operand.tmp 6) 0, type := 0, pos := "ref.go:202", after := #[], guard := none }) (v := ?_) rfl (by kernel_rfl) (by kernel_rfl) (by kernel_rfl) (by kernel_rfl) (fun _ _ _ h => h) (Or.inl ⟨by rfl, ?_⟩) ?_
      rotate_left
      · (intro w hE; have e0 := cellb e0 hE; have e1 := cellb e1 hE; have t0 := cellb t0 hE; have t1 := cellb t1 hE; have m0 := cellb m0 hE; (try dsimp only); go_simp); (try with_reducible rfl)
      try simp only [Act.put, List.setIfInBounds_toArray, List.set_cons_zero, List.set_cons_succ]
      refine wpAnyE_take (i := 7) (oi := { dst := some 30, op := Op.load 3 (Operand.tmp 29), type := 3, pos := "ref.go:202", after := #[{ on := 6, ground := Ground.data }], guard := none }) (v := ?_) rfl (by kernel_rfl) (by kernel_rfl) (by kernel_rfl) (by kernel_rfl) (fun _ _ _ h => h) (Or.inl ⟨by rfl, ?_⟩) ?_
      rotate_left
      · (intro w hE; have e0 := cellb e0 hE; have e1 := cellb e1 hE; have t0 := cellb t0 hE; have t1 := cellb t1 hE; have m0 := cellb m0 hE; (try dsimp only); go_simp); (try with_reducible rfl)
      try simp only [Act.put, List.setIfInBounds_toArray, List.set_cons_zero, List.set_cons_succ]
      refine wpAnyE_take (i := 8) (oi := { dst := some 31, op := Op.binOp BinOp.mul 3 (Operand.tmp 28) (Operand.tmp 30) 3, type := 3, pos := "ref.go:202", after := #[{ on := 5, ground := Ground.data }, { on := 7, ground := Ground.data }], guard := none }) (v := ?_) rfl (by kernel_rfl) (by kernel_rfl) (by kernel_rfl) (by kernel_rfl) (fun _ _ _ h => h) (Or.inl ⟨by rfl, ?_⟩) ?_
      rotate_left
      · (intro w hE; have e0 := cellb e0 hE; have e1 := cellb e1 hE; have t0 := cellb t0 hE; have t1 := cellb t1 hE; have m0 := cellb m0 hE; (try dsimp only); go_simp); (try with_reducible rfl)
      try simp only [Act.put, List.setIfInBounds_toArray, List.set_cons_zero, List.set_cons_succ]
      refine wpAnyE_take (i := 9) (oi := { dst := some 32, op := Op.binOp BinOp.sub 3 (Operand.tmp 25) (Operand.tmp 31) 3, type := 3, pos := "ref.go:202", after := #[{ on := 2, ground := Ground.data }, { on := 8, ground := Ground.data }], guard := none }) (v := ?_) rfl (by kernel_rfl) (by kernel_rfl) (by kernel_rfl) (by kernel_rfl) (fun _ _ _ h => h) (Or.inl ⟨by rfl, ?_⟩) ?_
      rotate_left
      · (intro w hE; have e0 := cellb e0 hE; have e1 := cellb e1 hE; have t0 := cellb t0 hE; have t1 := cellb t1 hE; have m0 := cellb m0 hE; (try dsimp only); go_simp); (try with_reducible rfl)
      try simp only [Act.put, List.setIfInBounds_toArray, List.set_cons_zero, List.set_cons_succ]
      refine wpAnyE_take (i := 10) (oi := { dst := some 33, op := Op.fieldAddr 88 (Operand.tmp 9) 1, type := 0, pos := "ref.go:202", after := #[], guard := none }) (v := ?_) rfl (by kernel_rfl) (by kernel_rfl) (by kernel_rfl) (by kernel_rfl) (fun _ _ _ h => h) (Or.inl ⟨by rfl, ?_⟩) ?_
      rotate_left
      · (intro w hE; have e0 := cellb e0 hE; have e1 := cellb e1 hE; have t0 := cellb t0 hE; have t1 := cellb t1 hE; have m0 := cellb m0 hE; (try dsimp only); go_simp); (try with_reducible rfl)
      try simp only [Act.put, List.setIfInBounds_toArray, List.set_cons_zero, List.set_cons_succ]
      refine wpAnyE_take (i := 11) (oi := { dst := some 34, op := Op.load 3 (Operand.tmp 33), type := 3, pos := "ref.go:202", after := #[{ on := 10, ground := Ground.data }], guard := none }) (v := ?_) rfl (by kernel_rfl) (by kernel_rfl) (by kernel_rfl) (by kernel_rfl) (fun _ _ _ h => h) (Or.inl ⟨by rfl, ?_⟩) ?_
      rotate_left
      · (intro w hE; have e0 := cellb e0 hE; have e1 := cellb e1 hE; have t0 := cellb t0 hE; have t1 := cellb t1 hE; have m0 := cellb m0 hE; (try dsimp only); go_simp); (try with_reducible rfl)
      try simp only [Act.put, List.setIfInBounds_toArray, List.set_cons_zero, List.set_cons_succ]
      refine wpAnyE_take (i := 12) (oi := { dst := some 35, op := Op.binOp BinOp.mul 3 (Operand.const (Value.int IntKind.i64 256)) (Operand.tmp 34) 3, type := 3, pos := "ref.go:202", after := #[{ on := 11, ground := Ground.data }], guard := none }) (v := ?_) rfl (by kernel_rfl) (by kernel_rfl) (by kernel_rfl) (by kernel_rfl) (fun _ _ _ h => h) (Or.inl ⟨by rfl, ?_⟩) ?_
      rotate_left
      · (intro w hE; have e0 := cellb e0 hE; have e1 := cellb e1 hE; have t0 := cellb t0 hE; have t1 := cellb t1 hE; have m0 := cellb m0 hE; (try dsimp only); go_simp); (try with_reducible rfl)
      try simp only [Act.put, List.setIfInBounds_toArray, List.set_cons_zero, List.set_cons_succ]
      refine wpAnyE_take (i := 13) (oi := { dst := some 36, op := Op.move (Operand.tmp 8), type := 3, pos := "ref.go:202", after := #[], guard := none }) (v := ?_) rfl (by kernel_rfl) (by kernel_rfl) (by kernel_rfl) (by kernel_rfl) (fun _ _ _ h => h) (Or.inl ⟨by rfl, ?_⟩) ?_
      rotate_left
      · (intro w hE; have e0 := cellb e0 hE; have e1 := cellb e1 hE; have t0 := cellb t0 hE; have t1 := cellb t1 hE; have m0 := cellb m0 hE; (try dsimp only); go_simp); (try with_reducible rfl)
      try simp only [Act.put, List.setIfInBounds_toArray, List.set_cons_zero, List.set_cons_succ]
      refine wpAnyE_take (i := 14) (oi := { dst := some 37, op := Op.indexAddr 23 (Operand.tmp 3) (Operand.tmp 36), type := 0, pos := "ref.go:202", after := #[{ on := 13, ground := Ground.data }], guard := none }) (v := ?_) rfl (by kernel_rfl) (by kernel_rfl) (by kernel_rfl) (by kernel_rfl) (fun _ _ _ h => h) (Or.inl ⟨by rfl, ?_⟩) ?_
      rotate_left
      · (intro w hE; have e0 := cellb e0 hE; have e1 := cellb e1 hE; have t0 := cellb t0 hE; have t1 := cellb t1 hE; have m0 := cellb m0 hE; (try dsimp only); go_simp); (try with_reducible rfl)
      try simp only [Act.put, List.setIfInBounds_toArray, List.set_cons_zero, List.set_cons_succ]
      refine wpAnyE_take (i := 15) (oi := { dst := some 38, op := Op.load 3 (Operand.tmp 37), type := 3, pos := "ref.go:202", after := #[{ on := 14, ground := Ground.data }], guard := none }) (v := ?_) rfl (by kernel_rfl) (by kernel_rfl) (by kernel_rfl) (by kernel_rfl) (fun _ _ _ h => h) (Or.inl ⟨by rfl, ?_⟩) ?_
      rotate_left
      · (intro w hE; have e0 := cellb e0 hE; have e1 := cellb e1 hE; have t0 := cellb t0 hE; have t1 := cellb t1 hE; have m0 := cellb m0 hE; (try dsimp only); go_simp); (try with_reducible rfl)
      try simp only [Act.put, List.setIfInBounds_toArray, List.set_cons_zero, List.set_cons_succ]
      refine wpAnyE_take (i := 16) (oi := { dst := some 39, op := Op.fieldAddr 88 (Operand.tmp 6) 1, type := 0, pos := "ref.go:202", after := #[], guard := none }) (v := ?_) rfl (by kernel_rfl) (by kernel_rfl) (by kernel_rfl) (by kernel_rfl) (fun _ _ _ h => h) (Or.inl ⟨by rfl, ?_⟩) ?_
      rotate_left
      · (intro w hE; have e0 := cellb e0 hE; have e1 := cellb e1 hE; have t0 := cellb t0 hE; have t1 := cellb t1 hE; have m0 := cellb m0 hE; (try dsimp only); go_simp); (try with_reducible rfl)
      try simp only [Act.put, List.setIfInBounds_toArray, List.set_cons_zero, List.set_cons_succ]
      refine wpAnyE_take (i := 17) (oi := { dst := some 40, op := Op.load 3 (Operand.tmp 39), type := 3, pos := "ref.go:202", after := #[{ on := 16, ground := Ground.data }], guard := none }) (v := ?_) rfl (by kernel_rfl) (by kernel_rfl) (by kernel_rfl) (by kernel_rfl) (fun _ _ _ h => h) (Or.inl ⟨by rfl, ?_⟩) ?_
      rotate_left
      · (intro w hE; have e0 := cellb e0 hE; have e1 := cellb e1 hE; have t0 := cellb t0 hE; have t1 := cellb t1 hE; have m0 := cellb m0 hE; (try dsimp only); go_simp); (try with_reducible rfl)
      try simp only [Act.put, List.setIfInBounds_toArray, List.set_cons_zero, List.set_cons_succ]
      refine wpAnyE_take (i := 18) (oi := { dst := some 41, op := Op.binOp BinOp.mul 3 (Operand.tmp 38) (Operand.tmp 40) 3, type := 3, pos := "ref.go:202", after := #[{ on := 15, ground := Ground.data }, { on := 17, ground := Ground.data }], guard := none }) (v := ?_) rfl (by kernel_rfl) (by kernel_rfl) (by kernel_rfl) (by kernel_rfl) (fun _ _ _ h => h) (Or.inl ⟨by rfl, ?_⟩) ?_
      rotate_left
      · (intro w hE; have e0 := cellb e0 hE; have e1 := cellb e1 hE; have t0 := cellb t0 hE; have t1 := cellb t1 hE; have m0 := cellb m0 hE; (try dsimp only); go_simp); (try with_reducible rfl)
      try simp only [Act.put, List.setIfInBounds_toArray, List.set_cons_zero, List.set_cons_succ]
      refine wpAnyE_take (i := 19) (oi := { dst := some 42, op := Op.binOp BinOp.sub 3 (Operand.tmp 35) (Operand.tmp 41) 3, type := 3, pos := "ref.go:202", after := #[{ on := 12, ground := Ground.data }, { on := 18, ground := Ground.data }], guard := none }) (v := ?_) rfl (by kernel_rfl) (by kernel_rfl) (by kernel_rfl) (by kernel_rfl) (fun _ _ _ h => h) (Or.inl ⟨by rfl, ?_⟩) ?_
      rotate_left
      · (intro w hE; have e0 := cellb e0 hE; have e1 := cellb e1 hE; have t0 := cellb t0 hE; have t1 := cellb t1 hE; have m0 := cellb m0 hE; (try dsimp only); go_simp); (try with_reducible rfl)
      try simp only [Act.put, List.setIfInBounds_toArray, List.set_cons_zero, List.set_cons_succ]
      refine wpAnyE_take (i := 20) (oi := { dst := some 43, op := Op.build 88 #[(0, Operand.tmp 32), (1, Operand.tmp 42)], type := 88, pos := "ref.go:202", after := #[{ on := 9, ground := Ground.data }, { on := 19, ground := Ground.data }], guard := none }) (v := ?_) rfl (by kernel_rfl) (by kernel_rfl) (by kernel_rfl) (by kernel_rfl) (fun _ _ _ h => h) (Or.inl ⟨by rfl, ?_⟩) ?_
      rotate_left
      · (intro w hE; have e0 := cellb e0 hE; have e1 := cellb e1 hE; have t0 := cellb t0 hE; have t1 := cellb t1 hE; have m0 := cellb m0 hE; (try dsimp only); go_simp); (try with_reducible rfl)
      try simp only [Act.put, List.setIfInBounds_toArray, List.set_cons_zero, List.set_cons_succ]
      refine wpAnyE_call (i := 21) (oi := { dst := some 44, op := Op.call { callee := Callee.value (Operand.func 45), args := #[Operand.tmp 43], argTypes := #[88] }, type := 3, pos := "ref.go:202", after := #[{ on := 20, ground := Ground.data }], guard := none }) (fun w hE => TG.out w) rfl (by kernel_rfl) (by kernel_rfl) (by kernel_rfl) (by kernel_rfl) (fun _ _ _ h => h) (by rfl) (fun w hE => by (try dsimp only); go_simp) ?_
      try simp only [Act.put, List.setIfInBounds_toArray, List.set_cons_zero, List.set_cons_succ]
      refine wpAnyE_take (i := 22) (oi := { dst := some 45, op := Op.binOp BinOp.gtr 3 (Operand.tmp 44) (Operand.const (Value.int IntKind.i64 0)) 3, type := 4, pos := "ref.go:202", after := #[{ on := 21, ground := Ground.data }], guard := none }) (v := ?_) rfl (by kernel_rfl) (by kernel_rfl) (by kernel_rfl) (by kernel_rfl) (fun _ _ _ h => h) (Or.inl ⟨by rfl, ?_⟩) ?_
      rotate_left
      · (intro w hE; have e0 := cellb e0 hE; have e1 := cellb e1 hE; have t0 := cellb t0 hE; have t1 := cellb t1 hE; have m0 := cellb m0 hE; (try dsimp only); go_simp); (try with_reducible rfl)
      try simp only [Act.put, List.setIfInBounds_toArray, List.set_cons_zero, List.set_cons_succ]
      refine wpAnyE_done (by kernel_rfl) (fun wy1 hE => ?_) _
      have hbz1 := bthen hbz hE
      have e0 := cellb e0 hE
      have e1 := cellb e1 hE
      have t0 := cellb t0 hE
      have t1 := cellb t1 hE
      have m0 := cellb m0 hE
      clear hE
      have hR2 := hbz1
      obtain ⟨W8, hW8⟩ : ∃ v, v = wy1 := ⟨_, rfl⟩
      rw [← hW8] at hR2 ⊢
      clear hW8 e0 e1 t0 t1 m0 hR
      have hown := own_below HO.out hR2
      obtain ⟨i1, i3, i6⟩ := HI.out
      replace i1 := i1.carry hR2
      replace i3 := i3.carry hR2
      replace i6 := i6.carry hR2
      have hB := bthen HB.out hR2
      clear hR2 v0 v1 v2 v3 v4 v5
      cases q
      · have hown2 : W8.ownsRow (G6 + 1) 3 1 u7 (chosenL g 2 (k + 1)).length ((chosenL g 2 (k + 1)).map (Value.int .i64)) := by
          rw [HCS.out, if_neg (by simp)]; exact hown
        clear hown
        go_wp2
        go_roundw
        case rel => exact ⟨k + 1, by omega, by rw [HJ.out]; go_num, hown2, i1, i3, i6, hB⟩
        case measure => have := HJ.out; simp [intOf]; omega
      · have hle := HLE.out
        have hsz : G6 < W8.heap.size := Blk.lt i6
        go_wp2_with (at_builtin; refine wpList_append_own _ rfl _ _ 27 rfl (G6 + 1) 3 i0 (.int .i64 0) 1 8 Tryz.underlying27 hi hz0 hz1 hz2 rfl (by decide) _ _ _ rfl (hown.alloc _) ⟨W8.heap.size, 0, none⟩ 1 1 [.int .i64 j] rfl rfl (cell_one_new _ _ _) (by simp [Value.oneCell']) (by unfold maxLen; omega) (by omega) (by simp; omega) ?_; intro v' w3 hown' hgrow _)
        have hB3 := (bthen hB (below_new W8 (.cells #[.int .i64 j] 3))).grown hgrow (by simp; omega) (fun k' hk' => by have := (World.ownsRow.lt hown k' hk').1; omega)
        have i11 : BlkI w3 (w.heap.size + 1) 23 lim := Blk.own_kept (i1.carry (below_new W8 (.cells #[.int .i64 j] 3))) (hown.alloc _) (by decide) hgrow
        have i13 : BlkI w3 G 135 S := Blk.own_kept (i3.carry (below_new W8 (.cells #[.int .i64 j] 3))) (hown.alloc _) (by decide) hgrow
        have i16 : BlkI w3 G6 88 [T0, T1] := Blk.own_kept (i6.carry (below_new W8 (.cells #[.int .i64 j] 3))) (hown.alloc _) (by decide) hgrow
        have hown2 : w3.ownsRow (G6 + 1) 3 1 v' (chosenL g 2 (k + 1)).length ((chosenL g 2 (k + 1)).map (Value.int .i64)) := by
          rw [HCS.out, if_pos rfl, List.length_append, List.map_append]; exact hown'
        clear hown hB hown' hgrow i1 i3 i6
        go_wp2
        go_roundw
        case rel => exact ⟨k + 1, by omega, by rw [HJ.out]; go_num, hown2, i11, i13, i16, hB3⟩
        case measure => have := HJ.out; simp [intOf]; omega
    · obtain rfl : k = 5 := by omega
      have hout : wr.ownsRow w.heap.size 3 1 u7 (chosenL g 2 5).length ((chosenL g 2 5).map (Value.int .i64)) := own_mono hown (by omega)
      clear hown
      go_wp2
      go_ret
      exact ⟨⟨_, rfl, hout⟩, hB⟩
end

section
set_option linter.unusedSimpArgs false
set_option linter.unusedVariables false
open Go.RowKit

theorem idx48R {l : List Int} (hl : l.length = 48) {k : Nat} (hk : k < 12) (w : World) : Sem.run Tryz.prog (Instr.index 135 (.agg (ia l)) (.int .i64 k)) w = .ok (.agg #[.int .i64 (l[k * 4]?.getD 0), .int .i64 (l[k * 4 + 1]?.getD 0), .int .i64 (l[k * 4 + 2]?.getD 0), .int .i64 (l[k * 4 + 3]?.getD 0)]) w := by
  obtain ⟨fs, hu⟩ := Tryz.undCyR
  obtain ⟨i, hi⟩ : ∃ i, Tryz.prog.info? 111 = some i := by
    cases h : Tryz.prog.info? 111 with
    | none => have := Tryz.infoCyR4; rw [h] at this; cases this
    | some i => exact ⟨i, rfl⟩
  have hs : i.size = 4 := by have := Tryz.infoCyR4; rw [hi] at this; simpa using this
  simp [Instr.index, asIntOf, run_underlying Tryz.undSpR, sizeOf, typeInfo, hi, hs]
  rw [if_pos hk]
  exact part4 Tryz.infoCyR4 hu l k (by omega) w
theorem qOf_bd {a b c : Int} (ha : -100 ≤ a ∧ a ≤ 100) (hb : -100 ≤ b ∧ b ≤ 100) (hc : -100 ≤ c ∧ c ≤ 100) : ∀ x ∈ qOf a b c, -100 ≤ x ∧ x ≤ 100 := by
  have e1 : wrap64 (-a) = -a := wrapIn (by omega)
  have e2 : wrap64 (-b) = -b := wrapIn (by omega)
  have e3 : wrap64 (-c) = -c := wrapIn (by omega)
  intro x hx
  simp only [qOf, e1, e2, e3, List.mem_cons, List.not_mem_nil, or_false] at hx
  rcases hx with rfl | rfl | rfl | rfl | rfl | rfl | rfl | rfl | rfl | rfl | rfl | rfl <;> omega
theorem patE_of {l : List Int} (h : ∀ x ∈ l, -100 ≤ x ∧ x ≤ 100) : patE l = 0 := by
  unfold patE allE
  induction l with
  | nil => rfl
  | cons a t ih =>
    have ha := h a (by simp)
    have e : withinE a (-100) 100 = 0 := by unfold withinE; rw [if_neg (by omega)]
    rw [List.map_cons]
    simp only [firstE, e, if_pos]
    exact ih fun x hx => h x (by simp [hx])
theorem triN_at (m a b c : Nat) (hb : b ≤ m) (hc : c ≤ m) : triN m ((a * (m + 1) + b) * (m + 1) + c) = ((a : Int), (b : Int), (c : Int)) := by
  have h1 : ((a * (m + 1) + b) * (m + 1) + c) / (m + 1) = a * (m + 1) + b := by
    rw [Nat.mul_comm, Nat.mul_add_div (by omega), Nat.div_eq_of_lt (by omega), Nat.add_zero]
  have h2 : ((a * (m + 1) + b) * (m + 1) + c) % (m + 1) = c := by
    rw [Nat.mul_comm, Nat.mul_add_mod, Nat.mod_eq_of_lt (by omega)]
  have h3 : (a * (m + 1) + b) / (m + 1) = a := by
    rw [Nat.mul_comm, Nat.mul_add_div (by omega), Nat.div_eq_of_lt (by omega), Nat.add_zero]
  have h4 : (a * (m + 1) + b) % (m + 1) = b := by
    rw [Nat.mul_comm, Nat.mul_add_mod, Nat.mod_eq_of_lt (by omega)]
  unfold triN
  rw [h1, h2, h3, h4]
theorem triN_bd (m n : Nat) (h : n < (m + 1) * (m + 1) * (m + 1)) : (0 ≤ (triN m n).1 ∧ (triN m n).1 ≤ m) ∧ (0 ≤ (triN m n).2.1 ∧ (triN m n).2.1 ≤ m) ∧ (0 ≤ (triN m n).2.2 ∧ (triN m n).2.2 ≤ m) := by
  have h1 : n / (m + 1) / (m + 1) < m + 1 := by
    rw [Nat.div_div_eq_div_mul]
    exact Nat.div_lt_of_lt_mul h
  have h2 : n / (m + 1) % (m + 1) < m + 1 := Nat.mod_lt _ (by omega)
  have h3 : n % (m + 1) < m + 1 := Nat.mod_lt _ (by omega)
  unfold triN
  generalize n / (m + 1) / (m + 1) = x at h1 ⊢
  generalize n / (m + 1) % (m + 1) = y at h2 ⊢
  generalize n % (m + 1) = z at h3 ⊢
  simp only
  omega
/-- the strength that is kept is small. -/
theorem desS_bd (m : Nat) (lim : List Int) (hm : m ≤ 100) : ∀ k, k ≤ (m + 1) * (m + 1) * (m + 1) → (0 ≤ (desS m lim k).2.1 ∧ (desS m lim k).2.1 ≤ 960000) ∧ (-320000 ≤ (desS m lim k).2.2 ∧ (desS m lim k).2.2 ≤ 320000)
  | 0, _ => by simp [desS]
  | k + 1, h => by
    have ih := desS_bd m lim hm k (by omega)
    rw [desS_succ]
    cases desB lim (desS m lim k).2 (triN m k)
    · exact ih
    · obtain ⟨t1, t2, t3⟩ := triN_bd m k (by omega)
      exact str1_bd _ (qOf_bd (by omega) (by omega) (by omega))
theorem scR_one {s0 s1 g0 g1 : Int} (hs : (0 ≤ s0 ∧ s0 ≤ 960000) ∧ (-320000 ≤ s1 ∧ s1 ≤ 320000)) (hg : (0 ≤ g0 ∧ g0 ≤ 960000) ∧ (-320000 ≤ g1 ∧ g1 ≤ 320000)) : scR 1 (s0, s1) 1 (g0, g1) = (s0 - g0, s1 - g1) := by
  rw [scR_eq, Int.one_mul, Int.one_mul, Int.one_mul, Int.one_mul, wrapIn (x := s0) (by omega), wrapIn (x := s1) (by omega), wrapIn (x := g0) (by omega), wrapIn (x := g1) (by omega), wrapIn (x := s0 - g0) (by omega), wrapIn (x := s1 - g1) (by omega)]
/-- what the design compares is small. -/
theorem desSmall_all (m : Nat) (lim : List Int) (hm : m ≤ 100) (hl : limE lim = 0) : DesSmall m lim := by
  intro n hn
  obtain ⟨t1, t2, t3⟩ := triN_bd m n hn
  have hq := qOf_bd (a := (triN m n).1) (b := (triN m n).2.1) (c := (triN m n).2.2) (by omega) (by omega) (by omega)
  refine ⟨smallP_all _ _ hq (limE_all hl), ?_⟩
  have hs := str1_bd _ hq
  have hg := desS_bd m lim hm n (by omega)
  show Small (scR 1 (stC (orderC (triQ (triN m n)) 1)) 1 (desS m lim n).2)
  have hs' : (0 ≤ (stC (orderC (triQ (triN m n)) 1)).1 ∧ (stC (orderC (triQ (triN m n)) 1)).1 ≤ 960000) ∧ (-320000 ≤ (stC (orderC (triQ (triN m n)) 1)).2 ∧ (stC (orderC (triQ (triN m n)) 1)).2 ≤ 320000) := hs
  generalize stC (orderC (triQ (triN m n)) 1) = s at hs'
  generalize (desS m lim n).2 = g at hg
  obtain ⟨s0, s1⟩ := s
  obtain ⟨g0, g1⟩ := g
  rw [scR_one hs' hg]
  simp only at hs' hg
  exact ⟨by simp only; omega, by simp only; omega⟩
/-- a triple was found. -/
def fnd (m : Nat) (lim : List Int) (k : Nat) : Bool := !tri0 (desS m lim k).1
theorem desB_zero (lim : List Int) : desB lim (0, 0) (0, 0, 0) = false := by
  have : desG (0, 0) (0, 0, 0) = 0 := by kernel_rfl
  unfold desB
  rw [this]
  rfl
theorem fnd_succ (m : Nat) (lim : List Int) (k : Nat) (h : k < (m + 1) * (m + 1) * (m + 1)) : fnd m lim (k + 1) = bif desB lim (desS m lim k).2 (triN m k) then true else fnd m lim k := by
  unfold fnd
  rw [desS_succ]
  cases hb : desB lim (desS m lim k).2 (triN m k)
  · rfl
  · have hz : tri0 (triN m k) = false := by
      cases ht : tri0 (triN m k)
      · rfl
      · exfalso
        have e : triN m k = (0, 0, 0) := by
          unfold tri0 at ht
          simp only [Bool.and_eq_true, beq_iff_eq] at ht
          obtain ⟨⟨a, b⟩, c⟩ := ht
          exact Prod.ext a (Prod.ext b c)
        have hk : k = 0 := by
          unfold triN at e
          simp only [Prod.mk.injEq] at e
          obtain ⟨a, b, c⟩ := e
          have a' : k / (m + 1) / (m + 1) = 0 := by omega
          have b' : k / (m + 1) % (m + 1) = 0 := by omega
          have c' : k % (m + 1) = 0 := by omega
          have d := Nat.div_add_mod (k / (m + 1)) (m + 1)
          have d2 := Nat.div_add_mod k (m + 1)
          rw [a', b'] at d
          rw [c'] at d2
          simp at d
          rw [← d2, show k / (m + 1) = 0 by omega]
          simp
        subst hk
        rw [e] at hb
        rw [show (desS m lim 0).2 = (0, 0) from rfl, desB_zero] at hb
        exact absurd hb (by decide)
    show (!tri0 (triN m k)) = true
    rw [hz]; rfl
end

section
set_option linter.unusedSimpArgs false
set_option linter.unusedVariables false
open Go.RowKit

theorem ownsRow_sliceD {w : World} {base e size n : Nat} {v : Value} {xs : List Value} (h : w.ownsRow base e size v n xs) : ∃ a cap, v = .slice a n cap := by
  rcases h.2 with ⟨h1, h2⟩ | ⟨g, cap, cur, hv, _⟩
  · exact ⟨none, 0, by rw [h1, h2]⟩
  · exact ⟨_, cap, hv⟩
/-- what the search keeps, behind k triples. -/
def DesSt (M : Nat) (lim : List Int) (B : Nat) (w0 w : World) (k : Nat) : Prop :=
  BlkI w (B + 2) 26 (triL (desS M lim k).1) ∧ BlkI w (B + 3) 88 [(desS M lim k).2.1, (desS M lim k).2.2] ∧ BlkI w B 23 lim ∧ BlkI w (B + 1) 26 [0, 0, 0] ∧ Below B w0 w
/-- the round of a triple. -/
def desR2 (M : Nat) (lim : List Int) : (Int × Int × Int) × Int := if tri0 (desS M lim ((M + 1) * (M + 1) * (M + 1))).1 then ((0, 0, 0), 18) else ((desS M lim ((M + 1) * (M + 1) * (M + 1))).1, 0)

theorem desRel1 {M : Nat} {lim : List Int} {w wr : World} {k1 c k : Nat} {a b : Nat} {A Bv C s0 s1 : Int} (hk : k1 + c = k) (hs : desS M lim (k + 1) = ((A, Bv, C), (s0, s1)) ∧ fnd M lim (k + 1) = true) (hA : A = (a : Int) ∧ Bv = (b : Int) ∧ C = (c : Int))
    (i7 : BlkI wr (w.heap.size + 2) 26 [(a : Int), (b : Int), (c : Int)]) (i8 : BlkI wr (w.heap.size + 3) 88 [s0, s1]) (i3 : BlkI wr w.heap.size 23 lim) (i4 : BlkI wr (w.heap.size + 1) 26 [0, 0, 0]) (hB : Below w.heap.size w wr) (hc : c ≤ M + 1) (hlc : c ≤ M) :
    ∃ c2 : Nat, c2 ≤ M + 1 ∧ Value.int .i64 ((c : Int) + 1) = .int .i64 c2 ∧ Value.bool true = .bool (fnd M lim (k1 + c2)) ∧ DesSt M lim w.heap.size w wr (k1 + c2) := by
  refine ⟨c + 1, by omega, by go_num, ?_, ?_⟩
  · rw [show k1 + (c + 1) = k + 1 by omega, hs.2]
  · rw [show k1 + (c + 1) = k + 1 by omega]
    unfold DesSt
    rw [hs.1, hA.1, hA.2.1, hA.2.2]
    exact ⟨i7, i8, i3, i4, hB⟩
theorem desRel0 {M : Nat} {lim : List Int} {w wr : World} {k1 c k : Nat} {bt : Int × Int × Int} {g0 g1 : Int} {f : Bool} (hk : k1 + c = k) (hs : desS M lim (k + 1) = (bt, g0, g1) ∧ fnd M lim (k + 1) = f)
    (i7 : BlkI wr (w.heap.size + 2) 26 (triL bt)) (i8 : BlkI wr (w.heap.size + 3) 88 [g0, g1]) (i3 : BlkI wr w.heap.size 23 lim) (i4 : BlkI wr (w.heap.size + 1) 26 [0, 0, 0]) (hB : Below w.heap.size w wr) (hc : c ≤ M + 1) (hlc : c ≤ M) :
    ∃ c2 : Nat, c2 ≤ M + 1 ∧ Value.int .i64 ((c : Int) + 1) = .int .i64 c2 ∧ Value.bool f = .bool (fnd M lim (k1 + c2)) ∧ DesSt M lim w.heap.size w wr (k1 + c2) := by
  refine ⟨c + 1, by omega, by go_num, ?_, ?_⟩
  · rw [show k1 + (c + 1) = k + 1 by omega, hs.2]
  · rw [show k1 + (c + 1) = k + 1 by omega]
    unfold DesSt
    rw [hs.1]
    exact ⟨i7, i8, i3, i4, hB⟩

set_option maxRecDepth 100000 in
set_option maxHeartbeats 8000000 in
theorem DesignR_any (M : Nat) (lim : List Int) (w : World) (hM : M ≤ 12) (hlim : lim.length = 7) (hm : limE lim = 0) :
    Calls Tryz.prog 19 #[.int .i64 M, .agg (ia lim)] w fun e w' => e = .returned (.tuple #[.agg (ia (triL (desR2 M lim).1)), .int .i64 (desR2 M lim).2]) ∧ Below w.heap.size w w' := by
  obtain ⟨N, hN⟩ : ∃ N, N = (M + 1) * (M + 1) * (M + 1) := ⟨_, rfl⟩
  have hr2 : tri0 (desS M lim N).1 = true → desR2 M lim = ((0, 0, 0), 18) := fun h => by rw [desR2, ← hN, if_pos h]
  have hr3 : tri0 (desS M lim N).1 = false → desR2 M lim = ((desS M lim N).1, 0) := fun h => by rw [desR2, ← hN, if_neg (by rw [h]; decide)]
  obtain ⟨r, hr⟩ : ∃ r, r = desR2 M lim := ⟨_, rfl⟩
  rw [← hr] at hr2 hr3 ⊢
  have HS := Lib.hid (fun k (hk : k < N) => desS_bd M lim (by omega) k (by rw [← hN]; omega))
  have HF := Lib.hid (fun k (hk : k < N) => fnd_succ M lim k (by rw [← hN]; exact hk))
  have HLM := Lib.hid hm
  have HR2 := Lib.hid hr2
  have HR3 := Lib.hid hr3
  have HN := Lib.hid hN
  have HL7 := Lib.hid hlim
  clear hr hr2 hr3 hN hm
  go_enter Tryz.func19, Tryz.ntmps19
  go_upto_region 1 with fail
  obtain ⟨W1, hW1⟩ : ∃ v, v = World.alloc w (Obj.cells (ia lim) 23) := ⟨_, rfl⟩
  have kW1 : Below w.heap.size w W1 := by rw [hW1]; exact below_new _ _
  have iW1 : BlkI W1 (w.heap.size) 23 lim := by rw [hW1]; exact BlkI.new _ _ _
  have sW1 : W1.heap.size = w.heap.size + 1 := by rw [hW1]; simp
  rw [← hW1]
  clear hW1
  obtain ⟨W2, hW2⟩ : ∃ v, v = World.alloc W1 (Obj.cells #[.int .i64 0, .int .i64 0, .int .i64 0] 26) := ⟨_, rfl⟩
  have kW2 : Below W1.heap.size W1 W2 := by rw [hW2]; exact below_new _ _
  have iW2 : BlkI W2 (w.heap.size + 1) 26 (List.replicate 3 0) := by rw [hW2, ← sW1]; exact BlkI.new W1 26 (List.replicate 3 0)
  have sW2 : W2.heap.size = w.heap.size + 1 + 1 := by rw [hW2]; simp [sW1]
  rw [← hW2]
  clear hW2
  have i3 := iW1.carry kW2
  have i4 := iW2
  have hB := bthen kW1 kW2
  have hz : W2.heap.size = w.heap.size + 2 := by omega
  clear kW1 kW2 iW1 iW2
  go_upto_region 3 with fail
  obtain ⟨W3, hW3⟩ : ∃ v, v = World.alloc W2 (Obj.cells #[.int .i64 0, .int .i64 0, .int .i64 0] 26) := ⟨_, rfl⟩
  have kW3 : Below W2.heap.size W2 W3 := by rw [hW3]; exact below_new _ _
  have iW3 : BlkI W3 (w.heap.size + 2) 26 (List.replicate 3 0) := by rw [hW3, ← sW2]; exact BlkI.new W2 26 (List.replicate 3 0)
  have sW3 : W3.heap.size = w.heap.size + 2 + 1 := by rw [hW3]; simp [sW2]
  rw [← hW3]
  clear hW3
  obtain ⟨W4, hW4⟩ : ∃ v, v = World.alloc W3 (Obj.cells #[.int .i64 0, .int .i64 0] 88) := ⟨_, rfl⟩
  have kW4 : Below W3.heap.size W3 W4 := by rw [hW4]; exact below_new _ _
  have iW4 : BlkI W4 (w.heap.size + 3) 88 (List.replicate 2 0) := by rw [hW4, ← sW3]; exact BlkI.new W3 88 (List.replicate 2 0)
  have sW4 : W4.heap.size = w.heap.size + 3 + 1 := by rw [hW4]; simp [sW3]
  rw [← hW4]
  clear hW4
  replace i3 := (i3.carry kW3).carry kW4
  replace i4 := (i4.carry kW3).carry kW4
  replace hB := (bthen (bthen hB kW3) kW4)
  have hst : DesSt M lim w.heap.size w W4 0 := ⟨iW3.carry kW4, iW4, i3, i4, hB⟩
  clear iW3 iW4 kW3 kW4 sW1 sW2 sW3 sW4 i3 i4 hB hz
  go_wp2_with fail
  go_loopw [8, 9] (fun v8 v9 wr => ∃ a : Nat, a ≤ M + 1 ∧ v9 = .int .i64 a ∧ v8 = .bool (fnd M lim (a * (M + 1) * (M + 1))) ∧ DesSt M lim w.heap.size w wr (a * (M + 1) * (M + 1))) (fun _ v9 _ => M + 1 - (intOf v9).toNat)
  case atStart => exact ⟨0, by omega, rfl, by simp [fnd, desS, tri0], by simpa using hst⟩
  case round =>
    clear hst
    obtain ⟨a, ha, rfl, rfl, hst⟩ := hrel
    by_cases hla : a ≤ M
    · have d1 : (a : Int) ≤ (M : Int) := by omega
      generalize hk0 : a * (M + 1) * (M + 1) = k0 at hst
      have HK0 := Lib.hid hk0
      generalize hf0 : fnd M lim k0 = f0
      have HF0 := Lib.hid hf0
      clear hk0 hf0
      go_wp2_with fail
      go_loopw [8, 10] (fun v8 v10 wr => ∃ b : Nat, b ≤ M + 1 ∧ v10 = .int .i64 b ∧ v8 = .bool (fnd M lim ((a * (M + 1) + b) * (M + 1))) ∧ DesSt M lim w.heap.size w wr ((a * (M + 1) + b) * (M + 1))) (fun _ v10 _ => M + 1 - (intOf v10).toNat)
      case atStart => exact ⟨0, by omega, rfl, by rw [Nat.add_zero, HK0.out, HF0.out], by rw [Nat.add_zero, HK0.out]; exact hst⟩
      case round =>
        clear hst
        obtain ⟨b, hb, rfl, rfl, hst⟩ := hrel
        by_cases hlb : b ≤ M
        · have d2 : (b : Int) ≤ (M : Int) := by omega
          generalize hk1 : (a * (M + 1) + b) * (M + 1) = k1 at hst
          have HK1 := Lib.hid hk1
          generalize hf1 : fnd M lim k1 = f1
          have HF1 := Lib.hid hf1
          clear hk1 hf1
          go_wp2_with fail
          go_loopw [8, 11] (fun v8 v11 wr => ∃ c : Nat, c ≤ M + 1 ∧ v11 = .int .i64 c ∧ v8 = .bool (fnd M lim (k1 + c)) ∧ DesSt M lim w.heap.size w wr (k1 + c)) (fun _ v11 _ => M + 1 - (intOf v11).toNat)
          case atStart => exact ⟨0, by omega, rfl, by rw [Nat.add_zero, HF1.out], by rw [Nat.add_zero]; exact hst⟩
          case round =>
            clear hst
            obtain ⟨c, hc, rfl, rfl, hst⟩ := hrel
            by_cases hlc : c ≤ M
            · have d3 : (c : Int) ≤ (M : Int) := by omega
              generalize hkk : k1 + c = k at hst
              have hT : triN M k = ((a : Int), (b : Int), (c : Int)) := by rw [← hkk, ← HK1.out]; exact triN_at M a b c hlb hlc
              have hkN : k < N := by
                have e1 : a * (M + 1) ≤ M * (M + 1) := Nat.mul_le_mul_right _ hla
                have e2 : (M + 1) * (M + 1) = M * (M + 1) + (M + 1) := Nat.succ_mul _ _
                have e3 : (a * (M + 1) + b + 1) * (M + 1) ≤ (M + 1) * (M + 1) * (M + 1) := Nat.mul_le_mul_right _ (by omega)
                have e4 : (a * (M + 1) + b + 1) * (M + 1) = (a * (M + 1) + b) * (M + 1) + (M + 1) := Nat.succ_mul _ _
                have e5 := HK1.out
                have e6 := HN.out
                omega
              have hbd := HS.out k hkN
              have hfu := HF.out k hkN
              have hsu := desS_succ M lim k
              rw [hT] at hfu hsu
              obtain ⟨A, hA⟩ : ∃ A : Int, A = (a : Int) := ⟨_, rfl⟩
              obtain ⟨Bv, hBv⟩ : ∃ A : Int, A = (b : Int) := ⟨_, rfl⟩
              obtain ⟨C, hC⟩ : ∃ A : Int, A = (c : Int) := ⟨_, rfl⟩
              rw [← hA, ← hBv, ← hC] at hfu hsu
              have hq := qOf_bd (a := A) (b := Bv) (c := C) (by omega) (by omega) (by omega)
              have TQ := Lib.hid (fun W => QuarterR_any A Bv C W)
              rw [hA, hBv, hC] at TQ
              have TSp := Lib.hid (fun W => SpectrumR_any (qOf A Bv C) W rfl (patE_of hq))
              have TT := Lib.hid (fun W => StrengthO_any (qOf A Bv C) 1 hq (by omega) (by omega) W)
              have TX := Lib.hid (fun W => ExcessR_any (qOf A Bv C) lim W rfl HL7.out (patE_of hq) HLM.out)
              have hs1 := str1_bd (qOf A Bv C) hq
              have hQ3 : qOf (a : Int) (b : Int) (c : Int) = qOf A Bv C := by rw [hA, hBv, hC]
              rw [hQ3] at TQ
              obtain ⟨S, hS⟩ : ∃ S, S = specL (qOf A Bv C) := ⟨_, rfl⟩
              have hSl : S.length = 48 := by rw [hS]; exact upto_length _ _
              have q0 := specL_get (qOf A Bv C) 1 0 (by omega) (by omega)
              have q1 := specL_get (qOf A Bv C) 1 1 (by omega) (by omega)
              have q2 := specL_get (qOf A Bv C) 1 2 (by omega) (by omega)
              have q3 := specL_get (qOf A Bv C) 1 3 (by omega) (by omega)
              have hix0 := fun W => idx48R hSl (k := 1) (by omega) W
              rw [← hS] at TSp q0 q1 q2 q3
              simp only [q0, q1, q2, q3, Nat.add_zero] at hix0
              have hix : ∀ W, Sem.run Tryz.prog (Instr.index 135 (.agg (ia S)) (.int .i64 1)) W = .ok (.agg #[.int .i64 (cyAt (orderC (qOf A Bv C) ((1 : Nat) : Int)) 0), .int .i64 (cyAt (orderC (qOf A Bv C) ((1 : Nat) : Int)) 1), .int .i64 (cyAt (orderC (qOf A Bv C) ((1 : Nat) : Int)) 2), .int .i64 (cyAt (orderC (qOf A Bv C) ((1 : Nat) : Int)) 3)]) W := hix0
              clear hix0 q0 q1 q2 q3
              have hs1' : (0 ≤ (stC (orderC (qOf A Bv C) ((1 : Nat) : Int))).1 ∧ (stC (orderC (qOf A Bv C) ((1 : Nat) : Int))).1 ≤ 960000) ∧ (-320000 ≤ (stC (orderC (qOf A Bv C) ((1 : Nat) : Int))).2 ∧ (stC (orderC (qOf A Bv C) ((1 : Nat) : Int))).2 ≤ 320000) := hs1
              have hsu1 : desS M lim (k + 1) = bif posB (sgnR (scR 1 (stC (orderC (qOf A Bv C) ((1 : Nat) : Int))) 1 (desS M lim k).2).1 (scR 1 (stC (orderC (qOf A Bv C) ((1 : Nat) : Int))) 1 (desS M lim k).2).2) && (excL (qOf A Bv C) lim).length == 0 then ((A, Bv, C), stC (orderC (qOf A Bv C) ((1 : Nat) : Int))) else desS M lim k := hsu
              have hfu1 : fnd M lim (k + 1) = bif posB (sgnR (scR 1 (stC (orderC (qOf A Bv C) ((1 : Nat) : Int))) 1 (desS M lim k).2).1 (scR 1 (stC (orderC (qOf A Bv C) ((1 : Nat) : Int))) 1 (desS M lim k).2).2) && (excL (qOf A Bv C) lim).length == 0 then true else fnd M lim k := hfu
              clear hs1 hsu hfu
              generalize orderC (qOf A Bv C) ((1 : Nat) : Int) = o at TT hix hs1' hsu1 hfu1
              obtain ⟨⟨s0, s1⟩, hs⟩ : ∃ t, t = stC o := ⟨_, rfl⟩
              rw [← hs] at TT hs1' hsu1 hfu1
              obtain ⟨o0, o1, o2, o3⟩ := o
              simp only [cyAt] at hix
              simp only at TT
              obtain ⟨i7, i8, i3, i4, hB⟩ := hst
              obtain ⟨st, hst⟩ : ∃ s, s = desS M lim k := ⟨_, rfl⟩
              rw [← hst] at i7 i8 hbd hsu1 hfu1
              obtain ⟨bt, g0, g1⟩ := st
              simp only at i7 i8 hbd
              rw [scR_one hs1' hbd] at hsu1 hfu1
              obtain ⟨r0, hr0⟩ : ∃ r, r = s0 - g0 := ⟨_, rfl⟩
              obtain ⟨r1, hr1⟩ : ∃ r, r = s1 - g1 := ⟨_, rfl⟩
              simp only [← hr0, ← hr1] at hsu1 hfu1
              have TG := Lib.hid (fun W => SignR_any r0 r1 W (by simp only at hs1' hbd; omega) (by simp only at hs1' hbd; omega))
              have v0 : IntKind.i64.wrap (s0 - g0) = r0 := by rw [hr0]; exact IntWalk.i64_in _ (by simp only at hs1' hbd; omega)
              have v1 : IntKind.i64.wrap (s1 - g1) = r1 := by rw [hr1]; exact IntWalk.i64_in _ (by simp only at hs1' hbd; omega)
              have HV := Lib.hid (And.intro v0 v1)
              generalize sgnR r0 r1 = sg at TG hsu1 hfu1
              generalize excL (qOf A Bv C) lim = L at TX hsu1 hfu1
              have hQl : (qOf A Bv C).length = 12 := rfl
              generalize qOf A Bv C = QL at TQ TSp TX hQl
              have HABC := Lib.hid (And.intro hA (And.intro hBv hC))
              obtain ⟨f, hf⟩ : ∃ f, f = fnd M lim k := ⟨_, rfl⟩
              rw [← hf] at hfu1
              have HSU := Lib.hid hsu1
              have HFU := Lib.hid hfu1
              have HKK := Lib.hid hkk

              rw [← hf]
              clear hT hkN hq hS hs hst hr0 hr1 v0 v1 hsu1 hfu1 hf hkk hbd hs1' hA hBv hC hQ3
              go_wp2_with fail
              refine (TQ.out wr).mono ?_
              rintro e Wa ⟨rfl, hb⟩
              replace i7 := i7.carry hb
              replace i8 := i8.carry hb
              replace i3 := i3.carry hb
              replace i4 := i4.carry hb
              replace hB := bthen hB hb
              clear hb
              go_upto_region 14 with (refine wpList_storeA rfl _ _ _ rfl Wa.heap.size QL (List.replicate 12 0) rfl rfl (BlkI.new Wa 22 (List.replicate 12 0)) (by rw [hQl]; rfl) (by rw [hQl]; exact Tryz.infoA12) ?_)
              obtain ⟨Wc, hWc⟩ : ∃ v, v = World.setRow (World.alloc Wa (Obj.cells #[.int .i64 0, .int .i64 0, .int .i64 0, .int .i64 0, .int .i64 0, .int .i64 0, .int .i64 0, .int .i64 0, .int .i64 0, .int .i64 0, .int .i64 0, .int .i64 0] 22)) Wa.heap.size (ia (QL)) := ⟨_, rfl⟩
              have kWc : Below Wa.heap.size Wa Wc := by rw [hWc]; exact zrow_below _ _ _ _
              have iWc : BlkI Wc Wa.heap.size 22 (QL) := by rw [hWc]; exact zrow_blk Wa _ (List.replicate 12 0) _
              rw [← hWc]
              clear hWc
              replace i7 := i7.carry kWc
              replace i8 := i8.carry kWc
              replace i3 := i3.carry kWc
              replace i4 := i4.carry kWc
              replace hB := bthen hB kWc
              have iP := iWc
              generalize Wa.heap.size = P at iP ⊢
              clear kWc iWc
              have hld := load12 (l := QL) hQl iP
              go_wp2_with (refine wpList_load rfl _ _ rfl hld ?_)
              clear hld
              refine (TSp.out Wc).mono ?_
              rintro e Wd ⟨rfl, hb⟩
              have hbo := hb
              go_wp2_with fail
              refine (TT.out Wd).mono ?_
              rintro e We ⟨rfl, hb2⟩
              replace hbo := bthen hbo hb2
              clear hb hb2 hix
              have hX : w.heap.size + 3 < We.heap.size := Blk.lt (i8.carry hbo)
              go_upto_region 15 with (refine wpList_storeA rfl _ _ _ rfl We.heap.size [s0, s1] (List.replicate 2 0) rfl rfl (BlkI.new We 88 (List.replicate 2 0)) rfl Tryz.infoRootR ?_)
              obtain ⟨Wg, hWg⟩ : ∃ v, v = World.setRow (World.alloc We (Obj.cells #[.int .i64 0, .int .i64 0] 88)) We.heap.size (ia ([s0, s1])) := ⟨_, rfl⟩
              have kWg : Below We.heap.size We Wg := by rw [hWg]; exact zrow_below _ _ _ _
              have iWg : BlkI Wg We.heap.size 88 ([s0, s1]) := by rw [hWg]; exact zrow_blk We _ (List.replicate 2 0) _
              rw [← hWg]
              clear hWg
              replace hbo := bthen hbo kWg
              replace i7 := i7.carry hbo
              replace i8 := i8.carry hbo
              replace i3 := i3.carry hbo
              replace i4 := i4.carry hbo
              replace hB := bthen hB hbo
              replace iP := iP.carry hbo
              have iX := iWg
              generalize We.heap.size = X at iX hX ⊢
              clear kWg hbo iWg
              have e0 : Wg.cell? ⟨X, 0, none⟩ = some (.int .i64 s0) := BlkI.cell iX (j := 0) (by simp)
              have e1 : Wg.cell? ⟨X, 1, none⟩ = some (.int .i64 s1) := BlkI.cell iX (j := 1) (by simp)
              have e2 : Wg.cell? ⟨w.heap.size + 1 + 1 + 1, 0, none⟩ = some (.int .i64 g0) := BlkI.cell i8 (j := 0) (by simp)
              have e3 : Wg.cell? ⟨w.heap.size + 1 + 1 + 1, 1, none⟩ = some (.int .i64 g1) := BlkI.cell i8 (j := 1) (by simp)
              obtain ⟨v0, v1⟩ := HV.out
              have HX := Lib.hid hX
              clear hX
              go_wp2_with fail
              clear e0 e1 e2 e3 v0 v1
              refine (TG.out Wg).mono ?_
              rintro e Wi ⟨rfl, hb⟩
              replace i7 := i7.carry hb
              replace i8 := i8.carry hb
              replace i3 := i3.carry hb
              replace i4 := i4.carry hb
              replace hB := bthen hB hb
              replace iP := iP.carry hb
              replace iX := iX.carry hb
              clear hb
              by_cases hp : 0 < sg
              · have hld := load12 (l := QL) hQl iP
                have hld2 := load7 hlim i3
                go_wp2_with (first | refine wpList_loadG (by rfl) _ _ rfl hld ?_ | refine wpList_loadG (by rfl) _ _ rfl hld2 ?_)
                clear hld hld2
                refine (TX.out Wi).mono ?_
                rintro e Wj ⟨⟨u, rfl, hu⟩, hb⟩
                replace i7 := i7.carry hb
                replace i8 := i8.carry hb
                replace i3 := i3.carry hb
                replace i4 := i4.carry hb
                replace hB := bthen hB hb
                replace iX := iX.carry hb
                clear hb iP
                obtain ⟨ua, uc, rfl⟩ := ownsRow_sliceD hu
                clear hu
                have hyp : posB sg = true := by simpa [posB] using hp
                by_cases hL : L.length = 0
                · have hsn : desS M lim (k + 1) = ((A, Bv, C), (s0, s1)) := by rw [HSU.out, hyp, hL]; rfl
                  have hfn : fnd M lim (k + 1) = true := by rw [HFU.out, hyp, hL]; rfl
                  have HSN := Lib.hid (And.intro hsn hfn)
                  clear hsn hfn
                  have hL0 : ((L.length : Nat) : Int) = 0 := by omega
                  go_upto_region 16 with fail
                  clear hL0 hL hp hyp
                  refine wp_region_held_drew (S := (fun W => BlkI W X 88 [s0, s1])) (by kernel_rfl) iX (fun hHeld0 => ?_)
                  obtain ⟨wzd, hwz⟩ : ∃ v, v = Wj.drew := ⟨_, rfl⟩
                  rw [← hwz] at hHeld0 ⊢
                  have hbzd : Below w.heap.size w wzd := by rw [hwz]; exact hB.drew
                  have hlzd : Below Wj.heap.size Wj wzd := by rw [hwz]; exact (Below.refl _ _).drew
                  have i7 := i7.carry hlzd
                  have i8 := i8.carry hlzd
                  have i3 := i3.carry hlzd
                  have i4 := i4.carry hlzd
                  have iX := iX.carry hlzd
                  clear hwz hlzd
                  refine wpAnyH_take (i := 0) (oi := { dst := some 58, op := Op.move (Operand.tmp 9), type := 3, pos := "ref.go:240", after := #[], guard := none }) (v := ?_) rfl (by kernel_rfl) (by kernel_rfl) (by kernel_rfl) (fun _ _ _ h => h) (Or.inl ⟨by rfl, ?_⟩) (by assumption) ?_
                  rotate_left
                  · (intro w hSw; (try dsimp only at hSw); go_simp); (try with_reducible rfl)
                  try simp only [Act.put, List.setIfInBounds_toArray, List.set_cons_zero, List.set_cons_succ]
                  refine wpAnyH_take (i := 1) (oi := { dst := some 59, op := Op.move (Operand.tmp 10), type := 3, pos := "ref.go:240", after := #[], guard := none }) (v := ?_) rfl (by kernel_rfl) (by kernel_rfl) (by kernel_rfl) (fun _ _ _ h => h) (Or.inl ⟨by rfl, ?_⟩) (by assumption) ?_
                  rotate_left
                  · (intro w hSw; (try dsimp only at hSw); go_simp); (try with_reducible rfl)
                  try simp only [Act.put, List.setIfInBounds_toArray, List.set_cons_zero, List.set_cons_succ]
                  refine wpAnyH_take (i := 2) (oi := { dst := some 60, op := Op.move (Operand.tmp 11), type := 3, pos := "ref.go:240", after := #[], guard := none }) (v := ?_) rfl (by kernel_rfl) (by kernel_rfl) (by kernel_rfl) (fun _ _ _ h => h) (Or.inl ⟨by rfl, ?_⟩) (by assumption) ?_
                  rotate_left
                  · (intro w hSw; (try dsimp only at hSw); go_simp); (try with_reducible rfl)
                  try simp only [Act.put, List.setIfInBounds_toArray, List.set_cons_zero, List.set_cons_succ]
                  refine wpAnyH_take (i := 3) (oi := { dst := some 61, op := Op.build 26 #[(0, Operand.tmp 58), (1, Operand.tmp 59), (2, Operand.tmp 60)], type := 26, pos := "ref.go:240", after := #[{ on := 0, ground := Ground.data }, { on := 1, ground := Ground.data }, { on := 2, ground := Ground.data }], guard := none }) (v := ?_) rfl (by kernel_rfl) (by kernel_rfl) (by kernel_rfl) (fun _ _ _ h => h) (Or.inl ⟨by rfl, ?_⟩) (by assumption) ?_
                  rotate_left
                  · (intro w hSw; (try dsimp only at hSw); go_simp); (try with_reducible rfl)
                  try simp only [Act.put, List.setIfInBounds_toArray, List.set_cons_zero, List.set_cons_succ]
                  refine wpAnyH_take (i := 4) (oi := { dst := some 62, op := Op.load 88 (Operand.tmp 13), type := 88, pos := "ref.go:240", after := #[{ on := 5, ground := Ground.gcOnly Departure.lateStores }], guard := none }) (v := ?_) rfl (by kernel_rfl) (by kernel_rfl) (by kernel_rfl) (fun _ _ _ h => h) (Or.inl ⟨by rfl, ?_⟩) (by assumption) ?_
                  rotate_left
                  · (intro w hSw; (try dsimp only at hSw); have x0 : w.cell? ⟨X, 0, none⟩ = some (.int .i64 s0) := BlkI.cell hSw (j := 0) (by simp); have x1 : w.cell? ⟨X, 1, none⟩ = some (.int .i64 s1) := BlkI.cell hSw (j := 1) (by simp); clear hSw; go_simp); (try with_reducible rfl)
                  try simp only [Act.put, List.setIfInBounds_toArray, List.set_cons_zero, List.set_cons_succ]
                  refine wpAnyH_ready (rs := [5]) (by kernel_rfl) (by simp) ?_
                  refine (AllReadyH.cons (o := { dst := none, op := Op.store 26 (Operand.tmp 6) (Operand.tmp 61), type := 0, pos := "ref.go:240", after := #[{ on := 3, ground := Ground.data }, { on := 0, ground := Ground.phase }, { on := 1, ground := Ground.phase }, { on := 2, ground := Ground.phase }, { on := 3, ground := Ground.phase }, { on := 4, ground := Ground.textOnly Departure.lateStores }], guard := none }) rfl (fun K hK => ?_) AllReadyH.nil)
                  refine wp_storeA _ _ _ rfl (w.heap.size + 2) [(a : Int), (b : Int), (c : Int)] (triL bt) rfl rfl i7 rfl Tryz.infoA3 ?_
                  obtain ⟨wz5, hwz⟩ : ∃ v, v = World.setRow wzd (w.heap.size + 2) (ia [(a : Int), (b : Int), (c : Int)]) := ⟨_, rfl⟩
                  rw [← hwz]
                  have hbz5 : Below w.heap.size w wz5 := by rw [hwz]; exact below_rowA hbzd (by omega) _
                  replace i7 := BlkI.setRowA i7 [(a : Int), (b : Int), (c : Int)]
                  rw [← hwz] at i7
                  replace i8 := BlkI.setRowO i8 (B' := w.heap.size + 2) (by have := HX.out; omega) (ia [(a : Int), (b : Int), (c : Int)])
                  rw [← hwz] at i8
                  replace i3 := BlkI.setRowO i3 (B' := w.heap.size + 2) (by have := HX.out; omega) (ia [(a : Int), (b : Int), (c : Int)])
                  rw [← hwz] at i3
                  replace i4 := BlkI.setRowO i4 (B' := w.heap.size + 2) (by have := HX.out; omega) (ia [(a : Int), (b : Int), (c : Int)])
                  rw [← hwz] at i4
                  replace iX := BlkI.setRowO iX (B' := w.heap.size + 2) (by have := HX.out; omega) (ia [(a : Int), (b : Int), (c : Int)])
                  rw [← hwz] at iX
                  clear hwz
                  refine hK.out _ _ iX (fun hHeld1 => ?_)
                  clear hK K hHeld0
                  try simp only [Act.put, List.setIfInBounds_toArray, List.set_cons_zero, List.set_cons_succ]
                  refine wpAnyH_ready (rs := [6]) (by kernel_rfl) (by simp) ?_
                  refine (AllReadyH.cons (o := { dst := none, op := Op.store 88 (Operand.tmp 7) (Operand.tmp 62), type := 0, pos := "ref.go:240", after := #[{ on := 4, ground := Ground.data }, { on := 5, ground := Ground.chain }, { on := 0, ground := Ground.phase }, { on := 1, ground := Ground.phase }, { on := 2, ground := Ground.phase }, { on := 3, ground := Ground.phase }, { on := 4, ground := Ground.phase }, { on := 5, ground := Ground.phase }], guard := none }) rfl (fun K hK => ?_) AllReadyH.nil)
                  refine wp_storeA _ _ _ rfl (w.heap.size + 3) [s0, s1] [g0, g1] rfl rfl i8 rfl Tryz.infoRootR ?_
                  obtain ⟨wz6, hwz⟩ : ∃ v, v = World.setRow wz5 (w.heap.size + 3) (ia [s0, s1]) := ⟨_, rfl⟩
                  rw [← hwz]
                  have hbz6 : Below w.heap.size w wz6 := by rw [hwz]; exact below_rowA hbz5 (by omega) _
                  replace i8 := BlkI.setRowA i8 [s0, s1]
                  rw [← hwz] at i8
                  replace i7 := BlkI.setRowO i7 (B' := w.heap.size + 3) (by have := HX.out; omega) (ia [s0, s1])
                  rw [← hwz] at i7
                  replace i3 := BlkI.setRowO i3 (B' := w.heap.size + 3) (by have := HX.out; omega) (ia [s0, s1])
                  rw [← hwz] at i3
                  replace i4 := BlkI.setRowO i4 (B' := w.heap.size + 3) (by have := HX.out; omega) (ia [s0, s1])
                  rw [← hwz] at i4
                  replace iX := BlkI.setRowO iX (B' := w.heap.size + 3) (by have := HX.out; omega) (ia [s0, s1])
                  rw [← hwz] at iX
                  clear hwz
                  refine hK.out _ _ iX (fun hHeld2 => ?_)
                  clear hK K hHeld1
                  try simp only [Act.put, List.setIfInBounds_toArray, List.set_cons_zero, List.set_cons_succ]
                  refine wpAnyH_take (i := 7) (oi := { dst := some 8, op := Op.assign (Operand.const (Value.bool true)), type := 4, pos := "ref.go:240", after := #[{ on := 6, ground := Ground.chain }, { on := 0, ground := Ground.phase }, { on := 1, ground := Ground.phase }, { on := 2, ground := Ground.phase }, { on := 3, ground := Ground.phase }, { on := 4, ground := Ground.phase }, { on := 5, ground := Ground.phase }, { on := 6, ground := Ground.phase }], guard := none }) (v := ?_) rfl (by kernel_rfl) (by kernel_rfl) (by kernel_rfl) (fun _ _ _ h => h) (Or.inl ⟨by rfl, ?_⟩) (by assumption) ?_
                  rotate_left
                  · (intro w hSw; (try dsimp only at hSw); go_simp); (try with_reducible rfl)
                  try simp only [Act.put, List.setIfInBounds_toArray, List.set_cons_zero, List.set_cons_succ]
                  refine wpAnyH_done (by kernel_rfl) ?_ _
                  clear hHeld2
                  have hB := hbz6
                  obtain ⟨Wk, hWk⟩ : ∃ v, v = wz6 := ⟨_, rfl⟩
                  rw [← hWk] at hB i7 i8 i3 i4 ⊢
                  clear hWk iX
                  go_wp2
                  go_roundw
                  case rel => exact desRel1 HKK.out HSN.out HABC.out i7 i8 i3 i4 hB hc hlc
                  case measure => simp [intOf]; omega
                · have hz : (L.length == 0) = false := by simpa using hL
                  have hsn : desS M lim (k + 1) = (bt, g0, g1) := by rw [HSU.out, hyp, hz]; rfl
                  have hfn : fnd M lim (k + 1) = f := by rw [HFU.out, hyp, hz]; rfl
                  have HSN := Lib.hid (And.intro hsn hfn)
                  clear hsn hfn hz
                  have hL0 : ¬ ((L.length : Nat) : Int) = 0 := by omega
                  go_wp2
                  go_roundw
                  case rel => exact desRel0 HKK.out HSN.out i7 i8 i3 i4 hB hc hlc
                  case measure => simp [intOf]; omega
              · have hnp : posB sg = false := by simpa [posB] using hp
                have hsn : desS M lim (k + 1) = (bt, g0, g1) := by rw [HSU.out, hnp]; rfl
                have hfn : fnd M lim (k + 1) = f := by rw [HFU.out, hnp]; rfl
                have HSN := Lib.hid (And.intro hsn hfn)
                clear hsn hfn
                go_wp2
                go_roundw
                case rel => exact desRel0 HKK.out HSN.out i7 i8 i3 i4 hB hc hlc
                case measure => simp [intOf]; omega
            · obtain rfl : c = M + 1 := by omega
              have hst2 : DesSt M lim w.heap.size w wr ((a * (M + 1) + (b + 1)) * (M + 1)) := by
                rw [show (a * (M + 1) + (b + 1)) * (M + 1) = k1 + (M + 1) by rw [← HK1.out]; exact Nat.succ_mul _ _]
                exact hst
              have hfe : fnd M lim (k1 + (M + 1)) = fnd M lim ((a * (M + 1) + (b + 1)) * (M + 1)) := by
                rw [show (a * (M + 1) + (b + 1)) * (M + 1) = k1 + (M + 1) by rw [← HK1.out]; exact Nat.succ_mul _ _]
              have HFE := Lib.hid hfe
              clear hst hfe
              generalize hf2 : fnd M lim (k1 + (M + 1)) = f2
              have HF2 := Lib.hid hf2
              clear hf2
              go_wp2_with fail
              go_roundw
              case rel => exact ⟨b + 1, by omega, by go_num, by rw [← HF2.out, HFE.out], hst2⟩
              case measure => simp [intOf]; omega
        · obtain rfl : b = M + 1 := by omega
          have he : (a * (M + 1) + (M + 1)) * (M + 1) = (a + 1) * (M + 1) * (M + 1) := by rw [Nat.succ_mul a]
          rw [he] at hst
          generalize hf2 : fnd M lim ((a * (M + 1) + (M + 1)) * (M + 1)) = f2
          rw [he] at hf2
          have HF2 := Lib.hid hf2
          clear he hf2
          go_wp2_with fail
          go_roundw
          case rel => exact ⟨a + 1, by omega, by go_num, by rw [HF2.out], hst⟩
          case measure => simp [intOf]; omega
    · obtain rfl : a = M + 1 := by omega
      rw [← HN.out] at hst ⊢
      obtain ⟨i7, i8, i3, i4, hB⟩ := hst
      have hR2 := HR2.out
      have hR3 := HR3.out
      rw [show fnd M lim N = !tri0 (desS M lim N).1 from rfl]
      generalize desS M lim N = st at i7 i8 hR2 hR3 ⊢
      obtain ⟨bt, g0, g1⟩ := st
      simp only at hR2 hR3 i7
      clear HR2 HR3 HS HF HN HLM
      by_cases hb : tri0 bt = true
      · have hre := hR2 hb
        rw [hb]
        clear hR2 hR3 hb
        have HRE := Lib.hid hre
        clear hre
        go_wp2_with (refine wpList_storeA rfl _ _ _ rfl (w.heap.size + 1) [0, 0, 0] [0, 0, 0] rfl rfl i4 rfl Tryz.infoA3 ?_)
        have i9 := BlkI.setRowA i4 [0, 0, 0]
        have hld := Tryz.loadVar3 (l := [0, 0, 0]) rfl i9
        exact bodyPost_ret (v := .tuple #[.agg (ia [0, 0, 0]), .int .i64 18]) (results_cell_tmp (p := 4) (q := 5) rfl _ _ (w.heap.size + 1) _ rfl _ rfl hld) rfl ⟨by rw [HRE.out] <;> rfl, below_rowA hB (by omega) _⟩
      · have hb' : tri0 bt = false := by simpa using hb
        have hre := hR3 hb'
        rw [hb']
        clear hR2 hR3 hb hb'
        have HRE := Lib.hid hre
        clear hre
        have hld := load3 (l := triL bt) rfl i7
        go_wp2_with (first | refine wpList_load rfl _ _ rfl hld ?_ | refine wpList_storeA rfl _ _ _ rfl (w.heap.size + 1) (triL bt) [0, 0, 0] rfl rfl i4 rfl Tryz.infoA3 ?_)
        have i9 := BlkI.setRowA i4 (triL bt)
        have hld := Tryz.loadVar3 (l := triL bt) rfl i9
        exact bodyPost_ret (v := .tuple #[.agg (ia (triL bt)), .int .i64 0]) (results_cell_tmp (p := 4) (q := 5) rfl _ _ (w.heap.size + 1) _ rfl _ rfl hld) rfl ⟨by rw [HRE.out] <;> rfl, below_rowA hB (by omega) _⟩
end

end Go.Proofs.YtlohcnecehlljaaGreatDoor

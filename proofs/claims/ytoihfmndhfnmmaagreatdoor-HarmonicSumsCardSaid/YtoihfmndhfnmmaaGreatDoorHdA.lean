/- Chapter 4, plain facts: how large the spectrum of a pattern is. -/
import Derived.Test.YtoihfmndhfnmmaaGreatDoorHpJ
import Derived.Test.YtoihfmndhfnmmaaGreatDoorHarP
import Derived.Test.YtoihfmndhfnmmaaGreatDoorHrA
namespace Go.Proofs.YtoihfmndhfnmmaaGreatDoor
section
set_option linter.unusedSimpArgs false
set_option linter.unusedVariables false
open Go.RowKit

abbrev C4 := Nat × Nat × Nat × Nat
/-- which parts a power of the root has. -/
def cO (m : Nat) : C4 := match m % 6 with
  | 0 => (1, 0, 0, 0)
  | 1 => (0, 0, 0, 1)
  | 2 => (1, 1, 0, 0)
  | 3 => (0, 0, 1, 0)
  | 4 => (0, 1, 0, 0)
  | _ => (0, 0, 1, 1)
/-- the parts are at most so many hundreds. -/
def Bq (c : C4) (x : Cy) : Prop := (-(100 * (c.1 : Int)) ≤ x.1 ∧ x.1 ≤ 100 * (c.1 : Int)) ∧ (-(100 * (c.2.1 : Int)) ≤ x.2.1 ∧ x.2.1 ≤ 100 * (c.2.1 : Int)) ∧ (-(100 * (c.2.2.1 : Int)) ≤ x.2.2.1 ∧ x.2.2.1 ≤ 100 * (c.2.2.1 : Int)) ∧ (-(100 * (c.2.2.2 : Int)) ≤ x.2.2.2 ∧ x.2.2.2 ≤ 100 * (c.2.2.2 : Int))
theorem cO_le (m : Nat) : (cO m).1 ≤ 1 ∧ (cO m).2.1 ≤ 1 ∧ (cO m).2.2.1 ≤ 1 ∧ (cO m).2.2.2 ≤ 1 := by
  unfold cO
  split <;> simp
theorem turn_bd (a : Int) (h : -100 ≤ a ∧ a ≤ 100) (m : Nat) (hm : m < 12) : Bq (cO m) (turnC (a, 0, 0, 0) m) := by
  have hb : Bd 1048576 (a, 0, 0, 0) := ⟨by simp only; omega, by simp only; omega, by simp only; omega, by simp only; omega⟩
  rw [turn_rot hb m hm, (rotC_exact hb m (by omega)).1]
  obtain rfl | rfl | rfl | rfl | rfl | rfl | rfl | rfl | rfl | rfl | rfl | rfl : m = 0 ∨ m = 1 ∨ m = 2 ∨ m = 3 ∨ m = 4 ∨ m = 5 ∨ m = 6 ∨ m = 7 ∨ m = 8 ∨ m = 9 ∨ m = 10 ∨ m = 11 := by omega
  all_goals (simp only [rotN, rotL, Bq]; refine ⟨?_, ?_, ?_, ?_⟩ <;> simp [cO] <;> omega)
def c4Add (x y : C4) : C4 := (x.1 + y.1, x.2.1 + y.2.1, x.2.2.1 + y.2.2.1, x.2.2.2 + y.2.2.2)
def cS (c : Nat → C4) : Nat → C4
  | 0 => (0, 0, 0, 0)
  | n + 1 => c4Add (cS c n) (c n)
theorem cS_le (c : Nat → C4) (hc : ∀ k, (c k).1 ≤ 1 ∧ (c k).2.1 ≤ 1 ∧ (c k).2.2.1 ≤ 1 ∧ (c k).2.2.2 ≤ 1) : ∀ n, (cS c n).1 ≤ n ∧ (cS c n).2.1 ≤ n ∧ (cS c n).2.2.1 ≤ n ∧ (cS c n).2.2.2 ≤ n
  | 0 => by simp [cS]
  | n + 1 => by
    have h1 := hc n
    have h2 := cS_le c hc n
    refine ⟨?_, ?_, ?_, ?_⟩ <;> simp only [cS, c4Add] <;> omega
theorem fold_bq (f : Nat → Cy) (c : Nat → C4) (hc : ∀ k, (c k).1 ≤ 1 ∧ (c k).2.1 ≤ 1 ∧ (c k).2.2.1 ≤ 1 ∧ (c k).2.2.2 ≤ 1) : ∀ n, n ≤ 1000 → (∀ k, k < n → Bq (c k) (f k)) → Bq (cS c n) ((upto f n).foldl cyAdd (0, 0, 0, 0))
  | 0, _, _ => by refine ⟨?_, ?_, ?_, ?_⟩ <;> simp [upto, cS]
  | n + 1, hn, h => by
    have ih := fold_bq f c hc n (by omega) (fun k hk => h k (by omega))
    have hl := cS_le c hc n
    have hx := h n (by omega)
    have hcn := hc n
    rw [show upto f (n + 1) = upto f n ++ [f n] by simp [upto, List.range_succ], cyAdd_snoc]
    generalize (upto f n).foldl cyAdd (0, 0, 0, 0) = s at ih ⊢
    generalize f n = x at hx ⊢
    rw [cS]
    generalize cS c n = C at ih hl ⊢
    generalize c n = d at hx hcn ⊢
    obtain ⟨s0, s1, s2, s3⟩ := s
    obtain ⟨x0, x1, x2, x3⟩ := x
    obtain ⟨C0, C1, C2, C3⟩ := C
    obtain ⟨d0, d1, d2, d3⟩ := d
    simp only [Bq] at ih hx hl hcn
    simp only [Bq, cyAdd, c4Add]
    refine ⟨?_, ?_, ?_, ?_⟩ <;> rw [wrapIn (by omega)] <;> omega
def cH (h : Int) : C4 := cS (fun k => cO (mod12 (wrap64 (-h * k)))) 12
theorem mod12_lt' (n : Int) : mod12 n < 12 := by
  have := mod12_mod n
  omega
theorem order_bq (l : List Int) (h : Int) (hl : ∀ x ∈ l, -100 ≤ x ∧ x ≤ 100) : Bq (cH h) (orderC l h) := by
  refine fold_bq _ _ (fun k => cO_le _) 12 (by omega) (fun k _ => ?_)
  have hx : -100 ≤ l[k]?.getD 0 ∧ l[k]?.getD 0 ≤ 100 := by
    rcases Nat.lt_or_ge k l.length with c | c
    · rw [List.getElem?_eq_getElem c]; exact hl _ (List.getElem_mem c)
    · rw [List.getElem?_eq_none c]; exact ⟨by decide, by decide⟩
  exact turn_bd _ hx _ (mod12_lt' _)
theorem cH1 : cH 1 = (4, 4, 4, 4) := by kernel_rfl
theorem cH2 : cH 2 = (8, 8, 0, 0) := by kernel_rfl
theorem cH3 : cH 3 = (6, 0, 6, 0) := by kernel_rfl
theorem cH4 : cH 4 = (8, 8, 0, 0) := by kernel_rfl
theorem cH5 : cH 5 = (4, 4, 4, 4) := by kernel_rfl
theorem cH6 : cH 6 = (12, 0, 0, 0) := by kernel_rfl
/-- the strength, without any wrap. -/
theorem st_exact {x0 x1 x2 x3 : Int} (h : Bd 100000 (x0, x1, x2, x3)) : stC (x0, x1, x2, x3) = (x0 * x0 - x0 * x1 + x1 * x1 + (x2 * x2 - x2 * x3 + x3 * x3), x1 * x2 - x0 * x3) := by
  obtain ⟨h0, h1, h2, h3⟩ := h
  simp only at h0 h1 h2 h3
  have b0 : wrap64 (x0 - x1) = x0 - x1 := wrapIn (by omega)
  have b1 : wrap64 (-x1) = -x1 := wrapIn (by omega)
  have c0 : wrap64 (x2 - x3) = x2 - x3 := wrapIn (by omega)
  have c1 : wrap64 (-x3) = -x3 := wrapIn (by omega)
  unfold stC st0 st1
  simp only
  rw [b0, b1, c0, c1]
  obtain ⟨f1, f2, f3, f4⟩ := ei_exact (a := x0) (b := x1) (c := x0 - x1) (d := -x1) (by omega) (by omega) (by omega) (by omega)
  obtain ⟨g1, g2, g3, g4⟩ := ei_exact (a := x2) (b := x3) (c := x2 - x3) (d := -x3) (by omega) (by omega) (by omega) (by omega)
  obtain ⟨m1, m2, m3, m4⟩ := ei_exact (a := x2) (b := x3) (c := x0 - x1) (d := -x1) (by omega) (by omega) (by omega) (by omega)
  rw [wrapIn (x := eiA x0 x1 (x0 - x1) (-x1) + eiA x2 x3 (x2 - x3) (-x3)) (by omega), wrapIn (x := -(eiB x2 x3 (x0 - x1) (-x1))) (by omega), f1, g1, m2]
  refine Prod.ext ?_ ?_
  · simp only; grind
  · simp only; grind
theorem sq_nn (a b : Int) : 0 ≤ a * a - a * b + b * b := by
  have e : 4 * (a * a - a * b + b * b) = (2 * a - b) * (2 * a - b) + 3 * (b * b) := by grind
  have h1 : 0 ≤ (2 * a - b) * (2 * a - b) := by
    rcases Int.le_total 0 (2 * a - b) with h | h
    · exact Int.mul_nonneg h h
    · exact Int.mul_nonneg_of_nonpos_of_nonpos h h
  have h2 : 0 ≤ b * b := by
    rcases Int.le_total 0 b with h | h
    · exact Int.mul_nonneg h h
    · exact Int.mul_nonneg_of_nonpos_of_nonpos h h
  omega
theorem st_bd {x0 x1 x2 x3 B0 B1 B2 B3 : Int} (h0 : -B0 ≤ x0 ∧ x0 ≤ B0) (h1 : -B1 ≤ x1 ∧ x1 ≤ B1) (h2 : -B2 ≤ x2 ∧ x2 ≤ B2) (h3 : -B3 ≤ x3 ∧ x3 ≤ B3) (b0 : B0 ≤ 100000) (b1 : B1 ≤ 100000) (b2 : B2 ≤ 100000) (b3 : B3 ≤ 100000) :
    (0 ≤ (stC (x0, x1, x2, x3)).1 ∧ (stC (x0, x1, x2, x3)).1 ≤ B0 * B0 + B0 * B1 + B1 * B1 + (B2 * B2 + B2 * B3 + B3 * B3)) ∧ (-(B1 * B2 + B0 * B3) ≤ (stC (x0, x1, x2, x3)).2 ∧ (stC (x0, x1, x2, x3)).2 ≤ B1 * B2 + B0 * B3) := by
  rw [st_exact ⟨by simp only; omega, by simp only; omega, by simp only; omega, by simp only; omega⟩]
  have n1 := sq_nn x0 x1
  have n2 := sq_nn x2 x3
  have m1 := mulb h0 h0
  have m2 := mulb h0 h1
  have m3 := mulb h1 h1
  have m4 := mulb h2 h2
  have m5 := mulb h2 h3
  have m6 := mulb h3 h3
  have m7 := mulb h1 h2
  have m8 := mulb h0 h3
  simp only
  generalize x0 * x0 = p1 at *
  generalize x0 * x1 = p2 at *
  generalize x1 * x1 = p3 at *
  generalize x2 * x2 = p4 at *
  generalize x2 * x3 = p5 at *
  generalize x3 * x3 = p6 at *
  generalize x1 * x2 = p7 at *
  generalize x0 * x3 = p8 at *
  refine ⟨⟨?_, ?_⟩, ?_, ?_⟩ <;> omega
/-- the strengths of the orders 1 to 6. -/
theorem str_bd (l : List Int) (hl : ∀ x ∈ l, -100 ≤ x ∧ x ≤ 100) (h : Nat) (h1 : 1 ≤ h) (h6 : h ≤ 6) : (0 ≤ (stC (orderC l h)).1 ∧ (stC (orderC l h)).1 ≤ 1920000) ∧ (-360000 ≤ (stC (orderC l h)).2 ∧ (stC (orderC l h)).2 ≤ 360000) := by
  have hq := order_bq l h hl
  have hc : cH (h : Int) = (4, 4, 4, 4) ∨ cH (h : Int) = (8, 8, 0, 0) ∨ cH (h : Int) = (6, 0, 6, 0) ∨ cH (h : Int) = (12, 0, 0, 0) := by
    obtain rfl | rfl | rfl | rfl | rfl | rfl : h = 1 ∨ h = 2 ∨ h = 3 ∨ h = 4 ∨ h = 5 ∨ h = 6 := by omega
    · exact .inl cH1
    · exact .inr (.inl cH2)
    · exact .inr (.inr (.inl cH3))
    · exact .inr (.inl cH4)
    · exact .inl cH5
    · exact .inr (.inr (.inr cH6))
  generalize orderC l h = x at hq ⊢
  obtain ⟨x0, x1, x2, x3⟩ := x
  rcases hc with hc | hc | hc | hc
  all_goals
    rw [hc] at hq
    obtain ⟨q0, q1, q2, q3⟩ := hq
    simp only at q0 q1 q2 q3
    have := st_bd q0 q1 q2 q3 (by decide) (by decide) (by decide) (by decide)
    (try simp only at this)
    omega
theorem str1_bd (l : List Int) (hl : ∀ x ∈ l, -100 ≤ x ∧ x ≤ 100) : (0 ≤ (stC (orderC l 1)).1 ∧ (stC (orderC l 1)).1 ≤ 960000) ∧ (-320000 ≤ (stC (orderC l 1)).2 ∧ (stC (orderC l 1)).2 ≤ 320000) := by
  have hq := order_bq l 1 hl
  rw [cH1] at hq
  generalize orderC l 1 = x at hq ⊢
  obtain ⟨x0, x1, x2, x3⟩ := x
  obtain ⟨q0, q1, q2, q3⟩ := hq
  simp only at q0 q1 q2 q3
  have := st_bd q0 q1 q2 q3 (by decide) (by decide) (by decide) (by decide)
  (try simp only at this)
  omega
/-- what is compared with the limits is small. -/
theorem smallP_all (l lim : List Int) (hl : ∀ x ∈ l, -100 ≤ x ∧ x ≤ 100) (hm : ∀ x ∈ lim, 0 ≤ x ∧ x ≤ 256) : SmallP l lim := by
  intro h h2 h7
  have b1 := str1_bd l hl
  have bh := str_bd l hl h (by omega) (by omega)
  have hx : 0 ≤ lim[h]?.getD 0 ∧ lim[h]?.getD 0 ≤ 256 := by
    rcases Nat.lt_or_ge h lim.length with c | c
    · rw [List.getElem?_eq_getElem c]; exact hm _ (List.getElem_mem c)
    · rw [List.getElem?_eq_none c]; exact ⟨by decide, by decide⟩
  generalize lim[h]?.getD 0 = m at hx ⊢
  generalize stC (orderC l h) = s at bh ⊢
  generalize stC (orderC l 1) = t at b1 ⊢
  obtain ⟨s0, s1⟩ := s
  obtain ⟨t0, t1⟩ := t
  simp only at bh b1
  have n0 : 0 ≤ m * t0 := Int.mul_nonneg hx.1 b1.1.1
  have p0 := mulb (x := m) (y := t0) (A := 256) (B := 960000) (by omega) (by omega)
  have p1 := mulb (x := m) (y := t1) (A := 256) (B := 320000) (by omega) (by omega)
  unfold scR
  simp only [Small]
  generalize m * t0 = q0 at *
  generalize m * t1 = q1 at *
  rw [wrapIn (x := 256 * s0) (by omega), wrapIn (x := q0) (by omega), wrapIn (x := 256 * s1) (by omega), wrapIn (x := q1) (by omega), wrapIn (x := 256 * s0 - q0) (by omega), wrapIn (x := 256 * s1 - q1) (by omega)]
  omega
end

section
set_option linter.unusedSimpArgs false
set_option linter.unusedVariables false
open Go.RowKit

/-- the error of three levels. -/
def levE (a b c : Int) : Int := allE [a, b, c] 100
/-- what Quarter returns. -/
def quaR (a b c : Int) : List Int := arOr (levE a b c) (qOf a b c)
end

section
set_option linter.unusedSimpArgs false
set_option linter.unusedVariables false
open Go.RowKit

theorem order_small (l : List Int) (hl : ∀ x ∈ l, -100 ≤ x ∧ x ≤ 100) (h : Nat) (h1 : 1 ≤ h) (h6 : h ≤ 6) : Bd 1048576 (orderC l h) := by
  have hq := order_bq l h hl
  have hc := cS_le (fun k => cO (mod12 (wrap64 (-(h : Int) * k)))) (fun k => cO_le _) 12
  unfold cH at hq
  generalize cS (fun k => cO (mod12 (wrap64 (-(h : Int) * k)))) 12 = c at hq hc
  obtain ⟨q0, q1, q2, q3⟩ := hq
  exact ⟨by omega, by omega, by omega, by omega⟩
theorem patE_all {l : List Int} (h : patE l = 0) : ∀ x ∈ l, -100 ≤ x ∧ x ≤ 100 := by
  unfold patE allE at h
  exact fun x hx => withinE_zero (firstE_mapOk h x hx)
theorem limE_all {l : List Int} (h : limE l = 0) : ∀ x ∈ l, 0 ≤ x ∧ x ≤ 256 := by
  unfold limE at h
  exact fun x hx => withinE_zero (firstE_mapOk h x hx)
theorem scR_eq (n m a b c d : Int) : scR n (a, b) m (c, d) = (wrap64 (wrap64 (n * a) - wrap64 (m * c)), wrap64 (wrap64 (n * b) - wrap64 (m * d))) := rfl
theorem Tryz.infoRootR : (Tryz.prog.info? 37).map (·.size) = some 2 := by kernel_rfl

end

section
set_option linter.unusedSimpArgs false
set_option linter.unusedVariables false
open Go.RowKit

theorem idx48R {l : List Int} (hl : l.length = 48) {k : Nat} (hk : k < 12) (w : World) : Sem.run Tryz.prog (Instr.index 49 (.agg (ia l)) (.int .i64 k)) w = .ok (.agg #[.int .i64 (l[k * 4]?.getD 0), .int .i64 (l[k * 4 + 1]?.getD 0), .int .i64 (l[k * 4 + 2]?.getD 0), .int .i64 (l[k * 4 + 3]?.getD 0)]) w := by
  obtain ⟨fs, hu⟩ := Tryz.undCyR
  obtain ⟨i, hi⟩ : ∃ i, Tryz.prog.info? 46 = some i := by
    cases h : Tryz.prog.info? 46 with
    | none => have := Tryz.infoCyR4; rw [h] at this; cases this
    | some i => exact ⟨i, rfl⟩
  have hs : i.size = 4 := by have := Tryz.infoCyR4; rw [hi] at this; simpa using this
  simp [Instr.index, asIntOf, run_underlying Tryz.undSpR, sizeOf, typeInfo, hi, hs]
  rw [if_pos hk]
  exact part4 Tryz.infoCyR4 hu l k (by omega) w
theorem qOf_bd {a b c : Int} (ha : -100 ≤ a ∧ a ≤ 100) (hb : -100 ≤ b ∧ b ≤ 100) (hc : -100 ≤ c ∧ c ≤ 100) : ∀ x ∈ qOf a b c, -100 ≤ x ∧ x ≤ 100 := by
  have e1 : wrap64 (-a) = -a := wrapIn (by omega)
  have e2 : wrap64 (-b) = -b := wrapIn (by omega)
  have e3 : wrap64 (-c) = -c := wrapIn (by omega)
  intro x hx
  simp only [qOf, e1, e2, e3, List.mem_cons, List.not_mem_nil, or_false] at hx
  rcases hx with rfl | rfl | rfl | rfl | rfl | rfl | rfl | rfl | rfl | rfl | rfl | rfl <;> omega
theorem patE_of {l : List Int} (h : ∀ x ∈ l, -100 ≤ x ∧ x ≤ 100) : patE l = 0 := by
  unfold patE allE
  induction l with
  | nil => rfl
  | cons a t ih =>
    have ha := h a (by simp)
    have e : withinE a (-100) 100 = 0 := by unfold withinE; rw [if_neg (by omega)]
    rw [List.map_cons]
    simp only [firstE, e, if_pos]
    exact ih fun x hx => h x (by simp [hx])
theorem triN_at (m a b c : Nat) (hb : b ≤ m) (hc : c ≤ m) : triN m ((a * (m + 1) + b) * (m + 1) + c) = ((a : Int), (b : Int), (c : Int)) := by
  have h1 : ((a * (m + 1) + b) * (m + 1) + c) / (m + 1) = a * (m + 1) + b := by
    rw [Nat.mul_comm, Nat.mul_add_div (by omega), Nat.div_eq_of_lt (by omega), Nat.add_zero]
  have h2 : ((a * (m + 1) + b) * (m + 1) + c) % (m + 1) = c := by
    rw [Nat.mul_comm, Nat.mul_add_mod, Nat.mod_eq_of_lt (by omega)]
  have h3 : (a * (m + 1) + b) / (m + 1) = a := by
    rw [Nat.mul_comm, Nat.mul_add_div (by omega), Nat.div_eq_of_lt (by omega), Nat.add_zero]
  have h4 : (a * (m + 1) + b) % (m + 1) = b := by
    rw [Nat.mul_comm, Nat.mul_add_mod, Nat.mod_eq_of_lt (by omega)]
  unfold triN
  rw [h1, h2, h3, h4]
theorem triN_bd (m n : Nat) (h : n < (m + 1) * (m + 1) * (m + 1)) : (0 ≤ (triN m n).1 ∧ (triN m n).1 ≤ m) ∧ (0 ≤ (triN m n).2.1 ∧ (triN m n).2.1 ≤ m) ∧ (0 ≤ (triN m n).2.2 ∧ (triN m n).2.2 ≤ m) := by
  have h1 : n / (m + 1) / (m + 1) < m + 1 := by
    rw [Nat.div_div_eq_div_mul]
    exact Nat.div_lt_of_lt_mul h
  have h2 : n / (m + 1) % (m + 1) < m + 1 := Nat.mod_lt _ (by omega)
  have h3 : n % (m + 1) < m + 1 := Nat.mod_lt _ (by omega)
  unfold triN
  generalize n / (m + 1) / (m + 1) = x at h1 ⊢
  generalize n / (m + 1) % (m + 1) = y at h2 ⊢
  generalize n % (m + 1) = z at h3 ⊢
  simp only
  omega
/-- the strength that is kept is small. -/
theorem desS_bd (m : Nat) (lim : List Int) (hm : m ≤ 100) : ∀ k, k ≤ (m + 1) * (m + 1) * (m + 1) → (0 ≤ (desS m lim k).2.1 ∧ (desS m lim k).2.1 ≤ 960000) ∧ (-320000 ≤ (desS m lim k).2.2 ∧ (desS m lim k).2.2 ≤ 320000)
  | 0, _ => by simp [desS]
  | k + 1, h => by
    have ih := desS_bd m lim hm k (by omega)
    rw [desS_succ]
    cases desB lim (desS m lim k).2 (triN m k)
    · exact ih
    · obtain ⟨t1, t2, t3⟩ := triN_bd m k (by omega)
      exact str1_bd _ (qOf_bd (by omega) (by omega) (by omega))
theorem scR_one {s0 s1 g0 g1 : Int} (hs : (0 ≤ s0 ∧ s0 ≤ 960000) ∧ (-320000 ≤ s1 ∧ s1 ≤ 320000)) (hg : (0 ≤ g0 ∧ g0 ≤ 960000) ∧ (-320000 ≤ g1 ∧ g1 ≤ 320000)) : scR 1 (s0, s1) 1 (g0, g1) = (s0 - g0, s1 - g1) := by
  rw [scR_eq, Int.one_mul, Int.one_mul, Int.one_mul, Int.one_mul, wrapIn (x := s0) (by omega), wrapIn (x := s1) (by omega), wrapIn (x := g0) (by omega), wrapIn (x := g1) (by omega), wrapIn (x := s0 - g0) (by omega), wrapIn (x := s1 - g1) (by omega)]
/-- what the design compares is small. -/
theorem desSmall_all (m : Nat) (lim : List Int) (hm : m ≤ 100) (hl : limE lim = 0) : DesSmall m lim := by
  intro n hn
  obtain ⟨t1, t2, t3⟩ := triN_bd m n hn
  have hq := qOf_bd (a := (triN m n).1) (b := (triN m n).2.1) (c := (triN m n).2.2) (by omega) (by omega) (by omega)
  refine ⟨smallP_all _ _ hq (limE_all hl), ?_⟩
  have hs := str1_bd _ hq
  have hg := desS_bd m lim hm n (by omega)
  show Small (scR 1 (stC (orderC (triQ (triN m n)) 1)) 1 (desS m lim n).2)
  have hs' : (0 ≤ (stC (orderC (triQ (triN m n)) 1)).1 ∧ (stC (orderC (triQ (triN m n)) 1)).1 ≤ 960000) ∧ (-320000 ≤ (stC (orderC (triQ (triN m n)) 1)).2 ∧ (stC (orderC (triQ (triN m n)) 1)).2 ≤ 320000) := hs
  generalize stC (orderC (triQ (triN m n)) 1) = s at hs'
  generalize (desS m lim n).2 = g at hg
  obtain ⟨s0, s1⟩ := s
  obtain ⟨g0, g1⟩ := g
  rw [scR_one hs' hg]
  simp only at hs' hg
  exact ⟨by simp only; omega, by simp only; omega⟩
/-- a triple was found. -/
def fnd (m : Nat) (lim : List Int) (k : Nat) : Bool := !tri0 (desS m lim k).1
theorem desB_zero (lim : List Int) : desB lim (0, 0) (0, 0, 0) = false := by
  have : desG (0, 0) (0, 0, 0) = 0 := by kernel_rfl
  unfold desB
  rw [this]
  rfl
theorem fnd_succ (m : Nat) (lim : List Int) (k : Nat) (h : k < (m + 1) * (m + 1) * (m + 1)) : fnd m lim (k + 1) = bif desB lim (desS m lim k).2 (triN m k) then true else fnd m lim k := by
  unfold fnd
  rw [desS_succ]
  cases hb : desB lim (desS m lim k).2 (triN m k)
  · rfl
  · have hz : tri0 (triN m k) = false := by
      cases ht : tri0 (triN m k)
      · rfl
      · exfalso
        have e : triN m k = (0, 0, 0) := by
          unfold tri0 at ht
          simp only [Bool.and_eq_true, beq_iff_eq] at ht
          obtain ⟨⟨a, b⟩, c⟩ := ht
          exact Prod.ext a (Prod.ext b c)
        have hk : k = 0 := by
          unfold triN at e
          simp only [Prod.mk.injEq] at e
          obtain ⟨a, b, c⟩ := e
          have a' : k / (m + 1) / (m + 1) = 0 := by omega
          have b' : k / (m + 1) % (m + 1) = 0 := by omega
          have c' : k % (m + 1) = 0 := by omega
          have d := Nat.div_add_mod (k / (m + 1)) (m + 1)
          have d2 := Nat.div_add_mod k (m + 1)
          rw [a', b'] at d
          rw [c'] at d2
          simp at d
          rw [← d2, show k / (m + 1) = 0 by omega]
          simp
        subst hk
        rw [e] at hb
        rw [show (desS m lim 0).2 = (0, 0) from rfl, desB_zero] at hb
        exact absurd hb (by decide)
    show (!tri0 (triN m k)) = true
    rw [hz]; rfl
end

section
set_option linter.unusedSimpArgs false
set_option linter.unusedVariables false
open Go.RowKit

theorem ownsRow_sliceD {w : World} {base e size n : Nat} {v : Value} {xs : List Value} (h : w.ownsRow base e size v n xs) : ∃ a cap, v = .slice a n cap := by
  rcases h.2 with ⟨h1, h2⟩ | ⟨g, cap, cur, hv, _⟩
  · exact ⟨none, 0, by rw [h1, h2]⟩
  · exact ⟨_, cap, hv⟩
/-- what the search keeps, behind k triples. -/
def DesSt (M : Nat) (lim : List Int) (B : Nat) (w0 w : World) (k : Nat) : Prop :=
  BlkI w (B + 2) 97 (triL (desS M lim k).1) ∧ BlkI w (B + 3) 37 [(desS M lim k).2.1, (desS M lim k).2.2] ∧ BlkI w B 95 lim ∧ BlkI w (B + 1) 97 [0, 0, 0] ∧ Below B w0 w
/-- the round of a triple. -/
def desR2 (M : Nat) (lim : List Int) : (Int × Int × Int) × Int := if tri0 (desS M lim ((M + 1) * (M + 1) * (M + 1))).1 then ((0, 0, 0), 18) else ((desS M lim ((M + 1) * (M + 1) * (M + 1))).1, 0)

theorem desRel1 {M : Nat} {lim : List Int} {w wr : World} {k1 c k : Nat} {a b : Nat} {A Bv C s0 s1 : Int} (hk : k1 + c = k) (hs : desS M lim (k + 1) = ((A, Bv, C), (s0, s1)) ∧ fnd M lim (k + 1) = true) (hA : A = (a : Int) ∧ Bv = (b : Int) ∧ C = (c : Int))
    (i7 : BlkI wr (w.heap.size + 2) 97 [(a : Int), (b : Int), (c : Int)]) (i8 : BlkI wr (w.heap.size + 3) 37 [s0, s1]) (i3 : BlkI wr w.heap.size 95 lim) (i4 : BlkI wr (w.heap.size + 1) 97 [0, 0, 0]) (hB : Below w.heap.size w wr) (hc : c ≤ M + 1) (hlc : c ≤ M) :
    ∃ c2 : Nat, c2 ≤ M + 1 ∧ Value.int .i64 ((c : Int) + 1) = .int .i64 c2 ∧ Value.bool true = .bool (fnd M lim (k1 + c2)) ∧ DesSt M lim w.heap.size w wr (k1 + c2) := by
  refine ⟨c + 1, by omega, by go_num, ?_, ?_⟩
  · rw [show k1 + (c + 1) = k + 1 by omega, hs.2]
  · rw [show k1 + (c + 1) = k + 1 by omega]
    unfold DesSt
    rw [hs.1, hA.1, hA.2.1, hA.2.2]
    exact ⟨i7, i8, i3, i4, hB⟩
theorem desRel0 {M : Nat} {lim : List Int} {w wr : World} {k1 c k : Nat} {bt : Int × Int × Int} {g0 g1 : Int} {f : Bool} (hk : k1 + c = k) (hs : desS M lim (k + 1) = (bt, g0, g1) ∧ fnd M lim (k + 1) = f)
    (i7 : BlkI wr (w.heap.size + 2) 97 (triL bt)) (i8 : BlkI wr (w.heap.size + 3) 37 [g0, g1]) (i3 : BlkI wr w.heap.size 95 lim) (i4 : BlkI wr (w.heap.size + 1) 97 [0, 0, 0]) (hB : Below w.heap.size w wr) (hc : c ≤ M + 1) (hlc : c ≤ M) :
    ∃ c2 : Nat, c2 ≤ M + 1 ∧ Value.int .i64 ((c : Int) + 1) = .int .i64 c2 ∧ Value.bool f = .bool (fnd M lim (k1 + c2)) ∧ DesSt M lim w.heap.size w wr (k1 + c2) := by
  refine ⟨c + 1, by omega, by go_num, ?_, ?_⟩
  · rw [show k1 + (c + 1) = k + 1 by omega, hs.2]
  · rw [show k1 + (c + 1) = k + 1 by omega]
    unfold DesSt
    rw [hs.1]
    exact ⟨i7, i8, i3, i4, hB⟩

end

end Go.Proofs.YtoihfmndhfnmmaaGreatDoor

/- The package harmonic: susceptances of valid filters; Susceptance, point, meets, Meets. -/
import Derived.Test.YtlohcnecehlljaaGreatDoorHpA
namespace Go.Proofs.YtlohcnecehlljaaGreatDoor
set_option linter.unusedSimpArgs false
set_option linter.unusedVariables false
open Go.RowKit

theorem mulBd {x y A B : Int} (hx : -A ≤ x ∧ x ≤ A) (hy : -B ≤ y ∧ y ≤ B) : -(A * B) ≤ x * y ∧ x * y ≤ A * B := by
  have h1 : x.natAbs ≤ A.toNat := by omega
  have h2 : y.natAbs ≤ B.toNat := by omega
  have h3 : (x * y).natAbs ≤ A.toNat * B.toNat := by rw [Int.natAbs_mul]; exact Nat.mul_le_mul h1 h2
  have h4 : ((A.toNat * B.toNat : Nat) : Int) = A * B := by
    rw [Int.natCast_mul, Int.toNat_of_nonneg (by omega), Int.toNat_of_nonneg (by omega)]
  omega
theorem wrapSm {x : Int} (h : -4611686018427387904 ≤ x ∧ x ≤ 4611686018427387904) : wrap64 x = x := by unfold wrap64; omega
theorem firstE_mapOk {α : Type} {g : α → Int} {l : List α} (h : firstE (l.map g) = 0) : ∀ x ∈ l, g x = 0 := by
  induction l with
  | nil => simp
  | cons a l ih =>
    rw [List.map_cons] at h
    obtain ⟨h1, h2⟩ := firstE_cons_ok h
    intro x hx
    rcases List.mem_cons.1 hx with rfl | hx
    · exact h1
    · exact ih h2 x hx
theorem brE_zero {x : Int × Int} (h : brE x = 0) : (0 ≤ x.1 ∧ x.1 ≤ 50) ∧ (0 ≤ x.2 ∧ x.2 ≤ 2000) := by
  unfold brE at h
  obtain ⟨h1, h⟩ := firstE_cons_ok h
  obtain ⟨h2, _⟩ := firstE_cons_ok h
  unfold withinE at h1 h2
  constructor
  · by_cases c : x.1 < 0 ∨ 50 < x.1
    · simp [c] at h1
    · omega
  · by_cases c : x.2 < 0 ∨ 2000 < x.2
    · simp [c] at h2
    · omega
theorem fltE_zero {ls : List (Int × Int)} (h : fltE ls = 0) : (0 < ls.length ∧ ls.length ≤ 3) ∧ ∀ x ∈ ls, brE x = 0 := by
  unfold fltE orE at h
  by_cases hn : fltN ls = 0
  · rw [if_pos hn] at h
    refine ⟨?_, firstE_mapOk h⟩
    unfold fltN at hn
    obtain ⟨h1, hn⟩ := firstE_cons_ok hn
    obtain ⟨h2, _⟩ := firstE_cons_ok hn
    unfold whenE at h1 h2
    by_cases c : ((ls.length : Int) == 0) = true
    · simp [c] at h1
    · by_cases d : (3 : Int) < ls.length
      · simp [d] at h2
      · simp at c
        have : 0 < ls.length := List.length_pos_iff.2 c
        omega
  · rw [if_neg hn] at h; exact absurd h hn
theorem left_bd {x : Int × Int} {h : Int} (hx : brE x = 0) (hh : 0 ≤ h ∧ h ≤ 13) : leftB x h = x.2 - h * h * x.1 ∧ (-8450 ≤ leftB x h ∧ leftB x h ≤ 8450) := by
  obtain ⟨h1, h2⟩ := brE_zero hx
  have a1 := mulBd (x := h) (y := h) (A := 13) (B := 13) (by omega) (by omega)
  have a0 : 0 ≤ h * h := Int.mul_nonneg hh.1 hh.1
  generalize hq : h * h = q at a1 a0
  have b1 := mulBd (x := q) (y := x.1) (A := 169) (B := 50) (by omega) (by omega)
  have b0 : 0 ≤ q * x.1 := Int.mul_nonneg a0 h1.1
  have e : leftB x h = x.2 - q * x.1 := by
    unfold leftB
    rw [hq, wrapSm (x := q) (by omega), wrapSm (x := q * x.1) (by omega), wrapSm (by omega)]
  rw [e]
  omega
/-- a fraction whose parts are small. -/
def St (B : Int) (p : Int × Int) : Prop := (-B ≤ p.1 ∧ p.1 ≤ B) ∧ (-B ≤ p.2 ∧ p.2 ≤ B) ∧ p.2 ≠ 0
theorem susT_st {B : Int} {p x : Int × Int} {h : Int} (hp : St B p) (hB : 0 ≤ B ∧ B ≤ 100000000) (hx : brE x = 0) (hh : 0 ≤ h ∧ h ≤ 13) (ht : leftB x h ≠ 0) :
    St (10000 * B) (susT h p x) ∧ susT h p x = (p.1 * leftB x h + h * p.2, p.2 * leftB x h) := by
  obtain ⟨_, hl⟩ := left_bd hx hh
  obtain ⟨h1, h2, h3⟩ := hp
  have a := mulBd h1 hl
  have b := mulBd (x := h) (A := 13) (by omega) h2
  have c := mulBd h2 hl
  have d : p.2 * leftB x h ≠ 0 := Int.mul_ne_zero h3 ht
  have e : susT h p x = (p.1 * leftB x h + h * p.2, p.2 * leftB x h) := by
    unfold susT
    rw [wrapSm (x := p.1 * leftB x h) (by omega), wrapSm (x := h * p.2) (by omega), wrapSm (x := p.2 * leftB x h) (by omega), wrapSm (by omega)]
  refine ⟨?_, e⟩
  rw [e]
  exact ⟨by omega, by omega, d⟩
theorem susOk_of {ls : List (Int × Int)} {h : Int} (hf : fltE ls = 0) (hh : 0 ≤ h ∧ h ≤ 13) (ht : tunedB ls h = false) : SusOk ls h := by
  obtain ⟨⟨hl1, hl2⟩, hb⟩ := fltE_zero hf
  have ht' : ∀ x ∈ ls, leftB x h ≠ 0 := fun x hx => by
    unfold tunedB at ht
    rw [List.any_eq_false] at ht
    simpa using ht x hx
  have h0 : St 1 (0, 1) := ⟨by simp, by simp, by simp⟩
  have fin : ∀ B, B ≤ 1000000000000 → St B (susL ls h) → SusOk ls h := fun B hB hs => ⟨by have := hs.1; omega, by have := hs.2.1; omega, hs.2.2⟩
  match ls, hl1, hl2, hb, ht', fin with
  | [a], _, _, hb, ht', fin =>
    have s1 := (susT_st h0 (by omega) (hb a (by simp)) hh (ht' a (by simp))).1
    exact fin _ (by omega) s1
  | [a, b], _, _, hb, ht', fin =>
    have s1 := (susT_st h0 (by omega) (hb a (by simp)) hh (ht' a (by simp))).1
    have s2 := (susT_st s1 (by omega) (hb b (by simp)) hh (ht' b (by simp))).1
    exact fin _ (by omega) s2
  | [a, b, c], _, _, hb, ht', fin =>
    have s1 := (susT_st h0 (by omega) (hb a (by simp)) hh (ht' a (by simp))).1
    have s2 := (susT_st s1 (by omega) (hb b (by simp)) hh (ht' b (by simp))).1
    have s3 := (susT_st s2 (by omega) (hb c (by simp)) hh (ht' c (by simp))).1
    exact fin _ (by omega) s3

set_option maxHeartbeats 400000 in
theorem checkOrder_any (h : Int) (w : World) :
    Calls Tryz.prog 116 #[.int .i64 h] w fun r w' => r = .returned (.int .i64 (withinE h 1 12)) ∧ w = w' := by
  go_enter Tryz.func116, Tryz.ntmps116
  go_wp2_with fail
  refine (withinH_any _ _ _ _).mono ?_
  rintro e w' ⟨rfl, rfl⟩
  go_wp2_with fail
  go_ret
  exact ⟨rfl, rfl⟩
theorem withinE_zero {n lo hi : Int} (h : withinE n lo hi = 0) : lo ≤ n ∧ n ≤ hi := by
  unfold withinE at h
  by_cases c : n < lo ∨ hi < n
  · simp [c] at h
  · omega
def susE (ls : List (Int × Int)) (h : Int) : Int := firstE [fltE ls, withinE h 1 12]
/-- what Susceptance returns. -/
def susX (ls : List (Int × Int)) (h : Int) : (Int × Int) × Int := bif susE ls h == 0 then (bif tunedB ls h then ((0, 0), 17) else (susR ls h, 0)) else ((0, 0), susE ls h)
set_option maxRecDepth 100000 in
set_option maxHeartbeats 2000000 in
theorem Susceptance_any (v : Value) (ls : List (Int × Int)) (h : Int) (w : World) (hv : Pairs w v ls) (hl : ls.length ≤ 1000000) :
    Calls Tryz.prog 60 #[.agg #[v], .int .i64 h] w fun e w' => e = .returned (.tuple #[.agg #[.int .i64 (susX ls h).1.1, .int .i64 (susX ls h).1.2], .int .i64 (susX ls h).2]) ∧ Below w.heap.size w w' := by
  obtain ⟨r, hr⟩ : ∃ r, r = susX ls h := ⟨_, rfl⟩
  rw [← hr]
  have TC := Lib.hid (fun W hP => CheckFilter_any v ls W hP hl)
  have TH := Lib.hid (fun W => checkOrder_any h W)
  have TT := Lib.hid (fun W hP => tuned_any v ls h W hP hl)
  have hso : susE ls h = 0 → tunedB ls h = false → SusOk ls h := fun h1 h2 => by
    unfold susE at h1
    obtain ⟨f1, h1⟩ := firstE_cons_ok h1
    obtain ⟨f2, _⟩ := firstE_cons_ok h1
    have := withinE_zero f2
    exact susOk_of f1 (by omega) h2
  have TS := Lib.hid (fun W hP hS => susceptance_any v ls h W hP hl hS)
  rw [susX] at hr
  rw [susE] at hr hso
  generalize fltE ls = e1 at TC hr hso
  generalize withinE h 1 12 = e2 at TH hr hso
  generalize tunedB ls h = tb at TT hr hso
  generalize susR ls h = sr at TS hr
  have TF := Lib.hid (fun (u : Value) (W : World) (h : Ints W u [e1, e2]) => firstH_any u [e1, e2] W (by simp [maxLen]) h)
  generalize firstE [e1, e2] = E at TF hr hso
  have HV := Lib.hid hv
  have HR := Lib.hid hr
  have HSO := Lib.hid hso
  obtain ⟨a, cp, rfl, _, _⟩ := id hv
  clear hv hr hso
  go_enter Tryz.func60, Tryz.ntmps60
  go_upto_region 1 with fail
  obtain ⟨W1, hW1⟩ : ∃ v, v = World.alloc w (Obj.cells #[.slice a ls.length cp] 57) := ⟨_, rfl⟩
  have kW1 : Below w.heap.size w W1 := by rw [hW1]; exact below_new _ _
  have iW1 : Blk W1 (w.heap.size) 57 [.slice a ls.length cp] := by rw [hW1]; exact Blk.new _ _ _
  have sW1 : W1.heap.size = w.heap.size + 1 := by rw [hW1]; simp
  rw [← hW1]
  clear hW1
  obtain ⟨W2, hW2⟩ : ∃ v, v = World.alloc W1 (Obj.cells #[.int .i64 0, .int .i64 0] 118) := ⟨_, rfl⟩
  have kW2 : Below W1.heap.size W1 W2 := by rw [hW2]; exact below_new _ _
  have iW2 : BlkI W2 (w.heap.size + 1) 118 (List.replicate 2 0) := by rw [hW2, ← sW1]; exact BlkI.new W1 118 (List.replicate 2 0)
  have sW2 : W2.heap.size = w.heap.size + 1 + 1 := by rw [hW2]; simp [sW1]
  rw [← hW2]
  clear hW2
  have i1 := iW1.carry kW2
  have i4 := iW2
  have hB := bthen kW1 kW2
  clear iW1 iW2 kW1 kW2 sW1 sW2
  have a0 := i1.cell (j := 0) (v := .slice a ls.length cp) rfl
  go_wp2_with fail
  refine (TC.out W2 (HV.out.carry hB)).mono ?_
  rintro e w3 ⟨rfl, hb⟩
  replace i1 := i1.carry hb
  replace i4 := i4.carry hb
  have a0 := cellb a0 hb
  replace hB := bthen hB hb
  clear hb
  go_wp2_with fail
  refine (TH.out w3).mono ?_
  rintro e w' ⟨rfl, rfl⟩
  go_wp2_with fail
  obtain ⟨W4, hW4⟩ : ∃ v, v = World.alloc w3 (Obj.cells #[.int .i64 e1, .int .i64 e2] 28) := ⟨_, rfl⟩
  have kW4 : Below w3.heap.size w3 W4 := by rw [hW4]; exact below_new _ _
  have iW4 : Blk W4 (w3.heap.size) 28 [.int .i64 e1, .int .i64 e2] := by rw [hW4]; exact Blk.new _ _ _
  have sW4 : W4.heap.size = w3.heap.size + 1 := by rw [hW4]; simp
  rw [← hW4]
  clear hW4
  refine (TF.out _ W4 (BlkI.ints (l := [e1, e2]) iW4 rfl)).mono ?_
  rintro e w' ⟨rfl, rfl⟩
  replace i4 := i4.carry kW4
  have a0 := cellb a0 kW4
  replace hB := bthen hB kW4
  have hs4 : w.heap.size + 1 < W4.heap.size := Blk.lt i4
  clear i1 kW4 iW4 sW4
  by_cases he : E = 0
  · subst he
    go_wp2_with fail
    refine (TT.out W4 (HV.out.carry hB)).mono ?_
    rintro e w5 ⟨rfl, hb⟩
    replace i4 := i4.carry hb
    have a0 := cellb a0 hb
    replace hB := bthen hB hb
    clear hb
    cases tb
    · have TS2 := Lib.hid (TS.out w5 (HV.out.carry hB) (HSO.out (by trivial) (by trivial)))
      clear TS HSO
      go_wp2_with fail
      refine TS2.out.mono ?_
      rintro e w6 ⟨rfl, hb⟩
      replace i4 := i4.carry hb
      replace hB := bthen hB hb
      clear hb a0
      go_wp2_with (refine wpList_storeA rfl _ _ _ rfl (w.heap.size + 1) [sr.1, sr.2] (List.replicate 2 0) rfl rfl i4 rfl Tryz.infoRatio ?_)
      have i9 := BlkI.setRowA i4 [sr.1, sr.2]
      have z0 : (w6.setRow (w.heap.size + 1) (ia [sr.1, sr.2])).cell? ⟨w.heap.size + 1, 0, none⟩ = some (.int .i64 sr.1) := BlkI.cell i9 (j := 0) (by simp)
      have z1 : (w6.setRow (w.heap.size + 1) (ia [sr.1, sr.2])).cell? ⟨w.heap.size + 1, 1, none⟩ = some (.int .i64 sr.2) := BlkI.cell i9 (j := 1) (by simp)
      exact bodyPost_ret (v := .tuple #[.agg #[.int .i64 sr.1, .int .i64 sr.2], .int .i64 0]) (by simp [results, Tryz.f60, go_sem, z0, z1]) rfl ⟨by rw [HR.out]; rfl, below_rowA hB (by omega) _⟩
    · clear TS HSO
      go_wp2_with (refine wpList_storeA rfl _ _ _ rfl (w.heap.size + 1) [0, 0] (List.replicate 2 0) rfl rfl i4 rfl Tryz.infoRatio ?_)
      have i9 := BlkI.setRowA i4 [0, 0]
      have z0 : (w5.setRow (w.heap.size + 1) (ia [0, 0])).cell? ⟨w.heap.size + 1, 0, none⟩ = some (.int .i64 0) := BlkI.cell i9 (j := 0) (by simp)
      have z1 : (w5.setRow (w.heap.size + 1) (ia [0, 0])).cell? ⟨w.heap.size + 1, 1, none⟩ = some (.int .i64 0) := BlkI.cell i9 (j := 1) (by simp)
      exact bodyPost_ret (v := .tuple #[.agg #[.int .i64 0, .int .i64 0], .int .i64 17]) (by simp [results, Tryz.f60, go_sem, z0, z1]) rfl ⟨by rw [HR.out]; rfl, below_rowA hB (by omega) _⟩
  · have z : (E == 0) = false := by rw [beq_eq_false_iff_ne]; exact he
    have HNE := Lib.hid z
    go_wp2_with (refine wpList_storeA rfl _ _ _ rfl (w.heap.size + 1) [0, 0] (List.replicate 2 0) rfl rfl i4 rfl Tryz.infoRatio ?_)
    have i9 := BlkI.setRowA i4 [0, 0]
    have z0 : (W4.setRow (w.heap.size + 1) (ia [0, 0])).cell? ⟨w.heap.size + 1, 0, none⟩ = some (.int .i64 0) := BlkI.cell i9 (j := 0) (by simp)
    have z1 : (W4.setRow (w.heap.size + 1) (ia [0, 0])).cell? ⟨w.heap.size + 1, 1, none⟩ = some (.int .i64 0) := BlkI.cell i9 (j := 1) (by simp)
    exact bodyPost_ret (v := .tuple #[.agg #[.int .i64 0, .int .i64 0], .int .i64 E]) (by simp [results, Tryz.f60, go_sem, z0, z1]) rfl ⟨by rw [HR.out, HNE.out]; rfl, below_rowA hB (by omega) _⟩
end Go.Proofs.YtlohcnecehlljaaGreatDoor

/- Wear as words: numbers, equal to themselves. -/
import Derived.Test.YtgdkomgfalkihaaGreatDoorVcN
namespace Go.Proofs.YtgdkomgfalkihaaGreatDoor
section
set_option linter.unusedSimpArgs false
set_option linter.unusedVariables false
open Go.RowKit Flp
def numB (x : Nat) : Bool := match Ieee.single.read x with
 | .number _ _ _ => true
 | _ => false
def numAll (a : Nat) : Bool := (List.range 1024).all fun n => numB (wq ((a + n : Nat) : Int))
set_option maxRecDepth 1000000 in
theorem numAll0 : numAll 0 = true := by decide +kernel
set_option maxRecDepth 1000000 in
theorem numAll1 : numAll 1024 = true := by decide +kernel
set_option maxRecDepth 1000000 in
theorem numAll2 : numAll 2048 = true := by decide +kernel
set_option maxRecDepth 1000000 in
theorem numAll3 : numAll 3072 = true := by decide +kernel
set_option maxRecDepth 1000000 in
theorem numAll4 : numAll 4096 = true := by decide +kernel
set_option maxRecDepth 1000000 in
theorem numAll5 : numAll 5120 = true := by decide +kernel
set_option maxRecDepth 1000000 in
theorem numAll6 : numAll 6144 = true := by decide +kernel
set_option maxRecDepth 1000000 in
theorem numAll7 : numAll 7168 = true := by decide +kernel
set_option maxRecDepth 1000000 in
theorem numAll8 : numAll 8192 = true := by decide +kernel
set_option maxRecDepth 1000000 in
theorem numAll9 : numAll 9216 = true := by decide +kernel
set_option maxRecDepth 1000000 in
theorem numAll10 : numAll 10240 = true := by decide +kernel
set_option maxRecDepth 1000000 in
theorem numAll11 : numAll 11264 = true := by decide +kernel
set_option maxRecDepth 1000000 in
theorem numAll12 : numAll 12288 = true := by decide +kernel
set_option maxRecDepth 1000000 in
theorem numAll13 : numAll 13312 = true := by decide +kernel
set_option maxRecDepth 1000000 in
theorem numAll14 : numAll 14336 = true := by decide +kernel
set_option maxRecDepth 1000000 in
theorem numAll15 : numAll 15360 = true := by decide +kernel
theorem numLast : numB (wq 16384) = true := by decide +kernel
theorem numAll_at {a : Nat} (h : numAll a = true) {n : Nat} (h0 : a ≤ n) (h1 : n < a + 1024) : numB (wq (n : Int)) = true := by
 unfold numAll at h
 rw [List.all_eq_true] at h
 have := h (n - a) (List.mem_range.2 (by omega))
 rw [show a + (n - a) = n by omega] at this
 exact this
theorem wq_num {n : Int} (h : 0 ≤ n ∧ n ≤ 16384) : numB (wq n) = true := by
 obtain ⟨m, rfl⟩ := Int.eq_ofNat_of_zero_le h.1
 show numB (wq (m : Int)) = true
 by_cases h9 : m = 16384
 ·subst h9; exact numLast
 by_cases h0 : m < 1024
 ·exact numAll_at numAll0 (by omega) (by omega)
 by_cases h1 : m < 2048
 ·exact numAll_at numAll1 (by omega) (by omega)
 by_cases h2 : m < 3072
 ·exact numAll_at numAll2 (by omega) (by omega)
 by_cases h3 : m < 4096
 ·exact numAll_at numAll3 (by omega) (by omega)
 by_cases h4 : m < 5120
 ·exact numAll_at numAll4 (by omega) (by omega)
 by_cases h5 : m < 6144
 ·exact numAll_at numAll5 (by omega) (by omega)
 by_cases h6 : m < 7168
 ·exact numAll_at numAll6 (by omega) (by omega)
 by_cases h7 : m < 8192
 ·exact numAll_at numAll7 (by omega) (by omega)
 by_cases h8 : m < 9216
 ·exact numAll_at numAll8 (by omega) (by omega)
 by_cases h9 : m < 10240
 ·exact numAll_at numAll9 (by omega) (by omega)
 by_cases h10 : m < 11264
 ·exact numAll_at numAll10 (by omega) (by omega)
 by_cases h11 : m < 12288
 ·exact numAll_at numAll11 (by omega) (by omega)
 by_cases h12 : m < 13312
 ·exact numAll_at numAll12 (by omega) (by omega)
 by_cases h13 : m < 14336
 ·exact numAll_at numAll13 (by omega) (by omega)
 by_cases h14 : m < 15360
 ·exact numAll_at numAll14 (by omega) (by omega)
 by_cases h15 : m < 16384
 ·exact numAll_at numAll15 (by omega) (by omega)
 omega
end
section
set_option linter.unusedSimpArgs false
set_option linter.unusedVariables false
open Go.RowKit Flp
theorem num_order {x : Nat} (h : numB x = true) : FloatKind.f32.format.order x x = some .eq := by
 unfold numB at h
 cases hr : Ieee.single.read x with
 | infinity s => rw [hr] at h; cases h
 | nan s u => rw [hr] at h; cases h
 | number s m e =>
   have hv : V32 x = some (valU s m e) := by unfold V32; rw [hr]
   have := order32 hv hv
   rw [cmp_eq] at this
   exact this
theorem run_equalIn_float {P : Program} (w : World) (d : Nat) (t : TypeId) (k k' : FloatKind) (a b : Nat) (h : P.underlying t = some (.float k')) : (Op.equalIn (d + 1) t (.float k a) (.float k b)).run P w = .ok (k.format.order a b == some .eq) w := by
 simp [Op.equalIn, run_underlying h, Op.floatEq]
set_option maxRecDepth 100000 in
theorem eqItemsF (l : List Nat) (hl : ∀ x ∈ l, numB x = true) (w : World) : ∀ is : List Nat, (∀ i ∈ is, i < l.length) →
 (Op.eqItems 9999 84 1 (fa l) (fa l) is).run Tryz.prog w = .ok true w := by
 have hu : Tryz.prog.underlying 84 = some (.float .f32) := by kernel_rfl
 have he : ∀ x, numB x = true → (Op.equalIn 9999 84 (.float .f32 x) (.float .f32 x)).run Tryz.prog w = .ok true w := fun x hx => by
  have h9 := run_equalIn_float w 9998 84 .f32 .f32 x x hu
  rw [num_order hx] at h9
  exact h9
 have hp : ∀ (xs : Array Value) (i : Nat) (x : Nat), xs[i]? = some (.float .f32 x) → (part 84 xs i).run Tryz.prog w = .ok (.float .f32 x) w := fun xs i x hx => by
  simp [part, isAgg, run_underlying hu, hx]
 have hg : ∀ i, i < l.length → (fa l)[i]? = some (.float .f32 (l[i]?.getD 0)) := fun i hi => by
  simp [fa, hi]
 intro is
 induction is with
 | nil => intro _; rfl
 | cons i is ih =>
   intro h
   have h1 := h i (by simp)
   simp only [Op.eqItems, Sem.run_bind, Nat.mul_one]
   rw [hp _ _ _ (hg i h1)]
   simp only [Result.andThen_ok]
   rw [hp _ _ _ (hg i h1)]
   have hm : numB (l[i]?.getD 0) = true := by
    rw [List.getElem?_eq_getElem h1]
    exact hl _ (List.getElem_mem h1)
   simp only [Result.andThen_ok, he _ hm, Bool.not_true, Bool.false_eq_true, if_false]
   exact ih (fun j hj => h j (by simp [hj]))
theorem eqF12 (l : List Nat) (hl : l.length = 12) (hn : ∀ x ∈ l, numB x = true) (W : World) : Sem.run Tryz.prog (Op.equalIn 10000 85 (.agg (fa l)) (.agg (fa l))) W = .ok true W := by
 obtain ⟨i0, hi⟩ : ∃ i, Tryz.prog.info? 84 = some i := by
  cases h : Tryz.prog.info? 84 with
  | none => have := Tryz.infoF1; rw [h] at this; cases this
  | some i => exact ⟨i, rfl⟩
 have hc : Tryz.prog.cellsOf 84 = 1 := by kernel_rfl
 rw [run_equalIn_array W 9999 (t := 85) (e := 84) (n := 12) _ _ Tryz.undF12 hi, hc, eqItemsF l hn W _ (fun i hi => by rw [hl]; exact List.mem_range.1 hi)]
theorem wear_num (l : List P2) (ws : List Int) : ∀ x ∈ wearR l ws, numB x = true := by
 have h0 : numB 0 = true := by decide +kernel
 intro x hx
 unfold wearR at hx
 split at hx
 ·rename_i hE
  have h1 : wear1E l ws = 0 := by
   unfold wearE at hE
   split at hE
   ·assumption
   ·assumption
  obtain ⟨hok, hw⟩ := wear1E_ok h1
  have hb : wearB l ws = false := by
   unfold wearE at hE
   rw [if_pos h1] at hE
   cases hc : wearB l ws
   ·rfl
   ·rw [hc] at hE; cases hE
  unfold wearB at hb
  rw [List.any_eq_false] at hb
  obtain ⟨k, hk⟩ := List.getElem?_of_mem hx
  have hk12 : k < 12 := by have := (List.getElem?_eq_some_iff.1 hk).1; rw [wearK_len] at this; exact this
  have hg : (wearK l ws 12)[k]?.getD 0 = wq (usedV l ws k) := by
   unfold wearK
   rw [upto_get _ _ _ hk12, if_pos hk12]; rfl
  rw [hk, Option.getD_some] at hg
  rw [hg]
  have h2 := (usedV_rng hok.len hw k).1
  have h3 := hb k (List.mem_range.2 hk12)
  rw [decide_eq_true_eq] at h3
  exact wq_num (by omega)
 ·unfold zerF at hx
  rw [List.mem_replicate] at hx
  rw [hx.2]; exact h0
end
end Go.Proofs.YtgdkomgfalkihaaGreatDoor

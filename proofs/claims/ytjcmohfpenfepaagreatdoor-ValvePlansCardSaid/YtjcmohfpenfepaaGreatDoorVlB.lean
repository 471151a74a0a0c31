/- The law ValveCheapest: plans (plain facts). -/
import Derived.Test.YtjcmohfpenfepaaGreatDoorVcI
import Derived.Test.YtjcmohfpenfepaaGreatDoorVbJ
import Derived.Test.YtjcmohfpenfepaaGreatDoorVcA
namespace Go.Proofs.YtjcmohfpenfepaaGreatDoor
section
set_option linter.unusedSimpArgs false
set_option linter.unusedVariables false
open Go.RowKit
/-- the hours of the first j modules of a plan that are replaced at outage k. -/
def hrs (ms : List Mo) (pl : List Int) (k : Nat) : Nat → Int
 | 0 => 0
 | j + 1 => hrs ms pl k j + (if pl[j]?.getD 0 = (k : Int) then (ms[j]?.getD noM).2.2.2 else 0)
theorem fitK_at (ms : List Mo) (os : List I3) (pl : List Int) (hp : ∀ x ∈ pl, 0 ≤ x) (k : Nat) : ∀ j, j ≤ pl.length → (fitK ms os pl j)[k]? = (os[k]?).map fun o => o.2.1 - hrs ms pl k j
 | 0, _ => by simp [fitK, hrs]
 | j + 1, hj => by
   have ih := fitK_at ms os pl hp k j (by omega)
   have h0 : 0 ≤ pl[j]?.getD 0 := by
    rw [List.getElem?_eq_getElem (show j < pl.length by omega)]
    exact hp _ (List.getElem_mem _)
   simp only [fitK, hrs]
   rw [List.getElem?_set]
   generalize hx : pl[j]?.getD 0 = x at h0 ⊢
   by_cases hk : x = (k : Int)
   ·have hk2 : x.toNat = k := by omega
    rw [if_pos hk2, if_pos hk, hk2, fitK_len]
    by_cases hlt : k < os.length
    ·rw [if_pos hlt, ih, List.getElem?_eq_getElem hlt]
     simp only [Option.map_some, Option.getD_some, Option.some.injEq]
     show _ - (ms[j]?.getD noM).2.2.2 = _
     omega
    ·rw [if_neg hlt, List.getElem?_eq_none (show os.length ≤ k by omega)]; rfl
   ·have hk2 : ¬ x.toNat = k := by omega
    rw [if_neg hk2, if_neg hk, ih]
    simp
theorem fitB_iff {ms : List Mo} {os : List I3} {pl : List Int} (hp : ∀ x ∈ pl, 0 ≤ x) : fitB ms os pl = true ↔ ∀ (k : Nat) (o : I3), os[k]? = some o → hrs ms pl k pl.length ≤ o.2.1 := by
 unfold fitB
 rw [Bool.not_eq_true', List.any_eq_false]
 constructor
 ·intro h k o ho
  have h1 := fitK_at ms os pl hp k pl.length (Nat.le_refl _)
  rw [ho] at h1
  have := h _ (List.mem_of_getElem? h1)
  simp only [decide_eq_true_eq] at this
  omega
 ·intro h x hx
  obtain ⟨k, hk⟩ := List.getElem?_of_mem hx
  have h1 := fitK_at ms os pl hp k pl.length (Nat.le_refl _)
  rw [hk] at h1
  cases ho : os[k]? with
  | none => rw [ho] at h1; cases h1
  | some o =>
    rw [ho] at h1
    simp only [Option.map_some, Option.some.injEq] at h1
    have := h k o ho
    simp only [decide_eq_true_eq]
    omega
theorem hrs_append (ms : List Mo) (pl t : List Int) (k : Nat) : ∀ j, j ≤ pl.length → hrs ms (pl ++ t) k j = hrs ms pl k j
 | 0, _ => rfl
 | j + 1, h => by
   simp only [hrs]
   rw [hrs_append ms pl t k j (by omega), List.getElem?_append_left (by omega)]
theorem hour0 {ms : List Mo} (hm : ∀ m ∈ ms, 1 ≤ m.2.2.2 ∧ m.2.2.2 ≤ 100) (j : Nat) : 0 ≤ (ms[j]?.getD noM).2.2.2 ∧ (ms[j]?.getD noM).2.2.2 ≤ 100 := by
 cases e : ms[j]? with
 | none => simp [noM]
 | some m => have := hm m (List.mem_of_getElem? e); simp only [Option.getD_some]; omega
theorem hrs_mono {ms : List Mo} (hm : ∀ m ∈ ms, 1 ≤ m.2.2.2 ∧ m.2.2.2 ≤ 100) (pl : List Int) (k j d : Nat) : hrs ms pl k j ≤ hrs ms pl k (j + d) := by
 induction d with
 | zero => exact Int.le_refl _
 | succ d ih =>
   have := hour0 hm (j + d)
   rw [← Nat.add_assoc]
   simp only [hrs]
   split <;> omega
theorem hrs_rng {ms : List Mo} (hm : ∀ m ∈ ms, 1 ≤ m.2.2.2 ∧ m.2.2.2 ≤ 100) (pl : List Int) (k : Nat) : ∀ j, 0 ≤ hrs ms pl k j ∧ hrs ms pl k j ≤ 100 * (j : Int)
 | 0 => by simp [hrs]
 | j + 1 => by
   have := hour0 hm j
   have := hrs_rng hm pl k j
   simp only [hrs]
   split <;> omega
theorem fit_pre {ms : List Mo} {os : List I3} (hm : ∀ m ∈ ms, 1 ≤ m.2.2.2 ∧ m.2.2.2 ≤ 100) {b t : List Int} (hp : ∀ x ∈ b ++ t, 0 ≤ x) (h : fitB ms os (b ++ t) = true) : fitB ms os b = true := by
 rw [fitB_iff hp] at h
 rw [fitB_iff (fun x hx => hp x (by simp [hx]))]
 intro k o ho
 have h1 := h k o ho
 have h2 := hrs_mono hm (b ++ t) k b.length t.length
 rw [List.length_append] at h1
 rw [hrs_append ms b t k _ (Nat.le_refl _)] at h2
 omega
/-- what is a plan. -/
structure PlOk (ms : List Mo) (os : List I3) (pl : List Int) : Prop where
 len : pl.length = ms.length
 rng : ∀ (i : Nat) (k : Int), pl[i]? = some k → (0 ≤ k ∧ k < os.length) ∧ perB (os[k.toNat]?.getD (0, 0, 0)) (ms[i]?.getD noM) = true
 fit : fitB ms os pl = true
theorem PlOk.pos {ms : List Mo} {os : List I3} {pl : List Int} (h : PlOk ms os pl) : ∀ x ∈ pl, 0 ≤ x := fun x hx => by
 obtain ⟨i, hi⟩ := List.getElem?_of_mem hx
 exact (h.rng i x hi).1.1
theorem plnG_zero {ms : List Mo} {os : List I3} {i : Nat} {k : Int} : plnG ms os i k = 0 ↔ (0 ≤ k ∧ k < os.length) ∧ perB (os[k.toNat]?.getD (0, 0, 0)) (ms[i]?.getD noM) = true := by
 unfold plnG
 split
 ·constructor
  ·intro h; cases h
  ·rintro ⟨h, -⟩; omega
 ·rw [whenE_zero (by decide), Bool.not_eq_false']
  constructor
  ·intro h; exact ⟨by omega, h⟩
  ·exact fun h => h.2
theorem plnE_iff {ms : List Mo} {os : List I3} {pl : List Int} : plnE ms os pl = 0 ↔ PlOk ms os pl := by
 unfold plnE
 constructor
 ·intro h
  split at h
  ·next hl =>
   split at h
   ·next h2 =>
    rw [whenE_zero (by decide), Bool.not_eq_false'] at h
    exact ⟨hl, fun i k hk => plnG_zero.1 (eachE_zero h2 i k hk), h⟩
   ·next h2 => exact absurd h h2
  ·cases h
 ·intro h
  rw [if_pos h.len]
  have h2 : plnE2 ms os pl = 0 := eachE_all (fun i k hk => plnG_zero.2 (h.rng i k hk))
  rw [if_pos h2, whenE_zero (by decide), h.fit]; rfl
end
section
set_option linter.unusedSimpArgs false
set_option linter.unusedVariables false
open Go.RowKit
/-- spares. -/
def leF (k : Int) (i : Int) : Int := if i ≤ k then 1 else 0
theorem isF_zero {pl : List Int} (hp : ∀ x ∈ pl, 0 ≤ x) : sumF (isF ((0 : Nat) : Int)) pl = sumF (leF ((0 : Nat) : Int)) pl := by
 induction pl with
 | nil => rfl
 | cons x l ih =>
   have h0 := hp x (by simp)
   show isF ((0 : Nat) : Int) x + sumF _ l = leF ((0 : Nat) : Int) x + sumF _ l
   rw [ih (fun y hy => hp y (by simp [hy]))]
   have : isF ((0 : Nat) : Int) x = leF ((0 : Nat) : Int) x := by
    unfold isF leF
    split <;> split <;> omega
   rw [this]
theorem isF_succ (k : Nat) (pl : List Int) : sumF (leF (k : Int)) pl + sumF (isF ((k + 1 : Nat) : Int)) pl = sumF (leF ((k + 1 : Nat) : Int)) pl := by
 induction pl with
 | nil => rfl
 | cons x l ih =>
   show leF (k : Int) x + sumF _ l + (isF ((k + 1 : Nat) : Int) x + sumF _ l) = leF ((k + 1 : Nat) : Int) x + sumF _ l
   have e : leF (k : Int) x + isF ((k + 1 : Nat) : Int) x = leF ((k + 1 : Nat) : Int) x := by
    unfold isF leF
    split <;> split <;> split <;> omega
   omega
theorem used_le {pl : List Int} (hp : ∀ x ∈ pl, 0 ≤ x) : ∀ (k : Nat), usedK pl (k + 1) = sumF (leF (k : Int)) pl
 | 0 => by
   simp only [usedK, Int.zero_add]
   exact isF_zero hp
 | k + 1 => by
   have e : usedK pl (k + 1 + 1) = usedK pl (k + 1) + sumF (isF ((k + 1 : Nat) : Int)) pl := rfl
   rw [e, used_le hp k]
   exact isF_succ k pl
theorem leF_rng (pl : List Int) (k : Int) : 0 ≤ sumF (leF k) pl ∧ sumF (leF k) pl ≤ pl.length := by
 have := sumF_rng (f := leF k) (l := pl) (lo := 0) (hi := 1) (fun x _ => by unfold leF; split <;> omega)
 omega
theorem sprK_at (os : List I3) (pl : List Int) (ds : List P2) : ∀ {n : Nat}, 0 < sprK os pl ds n → ∃ k, k < n ∧ sprK os pl ds n = usedK pl (k + 1) - therS (os[k]?.getD (0, 0, 0)).1 ds
 | 0, h => by simp [sprK] at h
 | n + 1, h => by
   simp only [sprK] at h ⊢
   by_cases hc : sprK os pl ds n ≤ usedK pl (n + 1) - therS (os[n]?.getD (0, 0, 0)).1 ds
   ·refine ⟨n, by omega, ?_⟩
    unfold mxI; omega
   ·have hm : mxI (sprK os pl ds n) (usedK pl (n + 1) - therS (os[n]?.getD (0, 0, 0)).1 ds) = sprK os pl ds n := by unfold mxI; omega
    rw [hm] at h ⊢
    obtain ⟨k, hk, e⟩ := sprK_at os pl ds h
    exact ⟨k, by omega, e⟩
theorem spr_most (os : List I3) {pl : List Int} (hp : ∀ x ∈ pl, 0 ≤ x) (ds : List P2) (hd : ∀ d ∈ ds, 1 ≤ d.2 ∧ d.2 ≤ 100) (hl : ds.length ≤ 64) (n : Nat) : 0 ≤ sprK os pl ds n ∧ sprK os pl ds n ≤ pl.length := by
 refine ⟨(sprK_rng os pl ds hd hl n).1, ?_⟩
 by_cases h : 0 < sprK os pl ds n
 ·obtain ⟨k, -, e⟩ := sprK_at os pl ds h
  rw [used_le hp] at e
  have h1 := leF_rng pl (k : Int)
  have h2 := therS_rng (os[k]?.getD (0, 0, 0)).1 hd hl ds.length
  rw [List.take_length] at h2
  unfold therS at e
  omega
 ·omega
end
end Go.Proofs.YtjcmohfpenfepaaGreatDoor

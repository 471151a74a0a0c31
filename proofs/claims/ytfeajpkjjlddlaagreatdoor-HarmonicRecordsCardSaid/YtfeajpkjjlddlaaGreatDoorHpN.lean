/- The closed examples of the chapter harmonic. -/
import Derived.Test.YtfeajpkjjlddlaaGreatDoorHpM
namespace Go.Proofs.YtfeajpkjjlddlaaGreatDoor
set_option linter.unusedSimpArgs false
set_option linter.unusedVariables false
open Go.RowKit

theorem aw_prod (w : World) : Calls Tryz.prog 17 #[.agg #[.int .i64 0, .int .i64 0, .int .i64 0, .int .i64 (-1)], .agg #[.int .i64 0, .int .i64 0, .int .i64 0, .int .i64 (-1)]] w fun e w' => e = .returned (.tuple #[.agg #[.int .i64 1, .int .i64 1, .int .i64 0, .int .i64 0], .int .i64 0]) ∧ Below w.heap.size w w' :=
  (ProductH_any 0 0 0 (-1) 0 0 0 (-1) w).mono fun _ _ h => ⟨h.1.trans (by kernel_rfl), h.2⟩
theorem aw_str1 (w : World) : Calls Tryz.prog 18 #[.agg #[.int .i64 1, .int .i64 0, .int .i64 0, .int .i64 1]] w fun e w' => e = .returned (.tuple #[.agg #[.int .i64 2, .int .i64 (-1)], .int .i64 0]) ∧ Below w.heap.size w w' :=
  (StrengthH_any 1 0 0 1 w).mono fun _ _ h => ⟨h.1.trans (by kernel_rfl), h.2⟩
theorem aw_str2 (w : World) : Calls Tryz.prog 18 #[.agg #[.int .i64 1, .int .i64 0, .int .i64 0, .int .i64 (-1)]] w fun e w' => e = .returned (.tuple #[.agg #[.int .i64 2, .int .i64 1], .int .i64 0]) ∧ Below w.heap.size w w' :=
  (StrengthH_any 1 0 0 (-1) w).mono fun _ _ h => ⟨h.1.trans (by kernel_rfl), h.2⟩
theorem aw_sgn1 (w : World) : Calls Tryz.prog 19 #[.agg #[.int .i64 7, .int .i64 (-4)]] w fun e w' => e = .returned (.tuple #[.int .i64 1, .int .i64 0]) ∧ Below w.heap.size w w' :=
  (SignH_any 7 (-4) w).mono fun _ _ h => ⟨h.1.trans (by kernel_rfl), h.2⟩
theorem aw_sgn2 (w : World) : Calls Tryz.prog 19 #[.agg #[.int .i64 12, .int .i64 (-7)]] w fun e w' => e = .returned (.tuple #[.int .i64 (-1), .int .i64 0]) ∧ Below w.heap.size w w' :=
  (SignH_any 12 (-7) w).mono fun _ _ h => ⟨h.1.trans (by kernel_rfl), h.2⟩
def lowS : List Int := specL lowL
theorem aw_spec (w : World) (hw : Powers w) : Calls Tryz.prog 20 #[.agg (ia lowL)] w fun e w' => e = .returned (.tuple #[.agg (ia lowS), .int .i64 0]) ∧ Below w.heap.size w w' :=
  (SpectrumH_any lowL w rfl hw).mono fun _ _ h => ⟨h.1.trans (by rw [show patE lowL = 0 from by kernel_rfl]; rfl), h.2⟩
theorem lowS_at : lowS[4]?.getD 0 = -2 ∧ lowS[5]?.getD 0 = -4 ∧ lowS[6]?.getD 0 = -4 ∧ lowS[7]?.getD 0 = -2 ∧ lowS[12]?.getD 0 = 0 ∧ lowS[13]?.getD 0 = 0 ∧ lowS[14]?.getD 0 = 0 ∧ lowS[15]?.getD 0 = 0 := by
  refine ⟨?_, ?_, ?_, ?_, ?_, ?_, ?_, ?_⟩ <;> kernel_rfl
theorem lowS_len : lowS.length = 48 := upto_length _ _
theorem aw_elim (w : World) (hw : Powers w) : Calls Tryz.prog 22 #[.agg (ia lowL)] w fun e w' => (∃ u, e = .returned (.tuple #[u, .int .i64 0]) ∧ Ints w' u [2, 3, 4, 6]) ∧ Below w.heap.size w w' :=
  (EliminatedH_any lowL w rfl hw).mono fun _ _ h => by
    obtain ⟨⟨u, h1, h2⟩, h3⟩ := h
    rw [show patE lowL = 0 from by kernel_rfl] at h1 h2
    rw [show lsOr 0 (chosenL (fun h => cyIs0 (orderC lowL h)) 1 6) = [2, 3, 4, 6] from by kernel_rfl] at h2
    exact ⟨⟨u, h1, h2⟩, h3⟩
def smallB (x : Int × Int) : Bool := decide (Small x)
def smallPB (l lim : List Int) : Bool := [2, 3, 4, 5, 6].all fun h : Nat => smallB (scR 256 (stC (orderC l h)) (lim[h]?.getD 0) (stC (orderC l 1)))
theorem smallP_of {l lim : List Int} (h : smallPB l lim = true) : SmallP l lim := by
  unfold smallPB at h
  rw [List.all_eq_true] at h
  intro k h2 h7
  have := h k (by simp; omega)
  exact of_decide_eq_true this
theorem aw_exc (l : List Int) (n : Int) (L : List Int) (w : World) (hw : Powers w) (hl : l.length = 12) (hs : smallPB l (sevL n) = true) (he : excE l (sevL n) = 0) (hL : excL l (sevL n) = L) :
    Calls Tryz.prog 23 #[.agg (ia l), .agg (ia (sevL n))] w fun e w' => (∃ u, e = .returned (.tuple #[u, .int .i64 0]) ∧ Ints w' u L) ∧ Below w.heap.size w w' :=
  (ExcessH_any l (sevL n) w hl rfl hw (fun _ => smallP_of hs)).mono fun _ _ h => by
    obtain ⟨⟨u, h1, h2⟩, h3⟩ := h
    rw [he] at h1 h2
    rw [lsOr, if_pos rfl, hL] at h2
    exact ⟨⟨u, h1, h2⟩, h3⟩
def desSmallB (m : Nat) (lim : List Int) : Bool := (List.range ((m + 1) * (m + 1) * (m + 1))).all fun n => smallPB (triQ (triN m n)) lim && smallB (scR 1 (stC (orderC (triQ (triN m n)) 1)) 1 (desS m lim n).2)
theorem desSmall_of {m : Nat} {lim : List Int} (h : desSmallB m lim = true) : DesSmall m lim := by
  unfold desSmallB at h
  rw [List.all_eq_true] at h
  intro n hn
  have := h n (List.mem_range.2 hn)
  rw [Bool.and_eq_true] at this
  exact ⟨smallP_of this.1, of_decide_eq_true this.2⟩
theorem aw_des (w : World) (hw : Powers w) : Calls Tryz.prog 26 #[.int .i64 1, .agg (ia (sevL 19))] w fun e w' => e = .returned (.tuple #[.agg (ia [0, 1, 1]), .int .i64 0]) ∧ Below w.heap.size w w' :=
  (Design_any 1 (sevL 19) w rfl hw (fun _ => desSmall_of (by kernel_rfl))).mono fun _ _ h => ⟨h.1.trans (by kernel_rfl), h.2⟩
theorem aw_x1 (w : World) (hw : Powers w) : Calls Tryz.prog 23 #[.agg (ia lowL), .agg (ia (sevL 18))] w fun e w' => (∃ u, e = .returned (.tuple #[u, .int .i64 0]) ∧ Ints w' u [5]) ∧ Below w.heap.size w w' := aw_exc lowL 18 [5] w hw rfl (by kernel_rfl) (by kernel_rfl) (by kernel_rfl)
theorem aw_x2 (w : World) (hw : Powers w) : Calls Tryz.prog 23 #[.agg (ia lowL), .agg (ia (sevL 19))] w fun e w' => (∃ u, e = .returned (.tuple #[u, .int .i64 0]) ∧ Ints w' u []) ∧ Below w.heap.size w w' := aw_exc lowL 19 [] w hw rfl (by kernel_rfl) (by kernel_rfl) (by kernel_rfl)
theorem aw_x3 (w : World) (hw : Powers w) : Calls Tryz.prog 23 #[.agg (ia squL), .agg (ia (sevL 34))] w fun e w' => (∃ u, e = .returned (.tuple #[u, .int .i64 0]) ∧ Ints w' u [3]) ∧ Below w.heap.size w w' := aw_exc squL 34 [3] w hw rfl (by kernel_rfl) (by kernel_rfl) (by kernel_rfl)
theorem aw_x4 (w : World) (hw : Powers w) : Calls Tryz.prog 23 #[.agg (ia squL), .agg (ia (sevL 35))] w fun e w' => (∃ u, e = .returned (.tuple #[u, .int .i64 0]) ∧ Ints w' u []) ∧ Below w.heap.size w w' := aw_exc squL 35 [] w hw rfl (by kernel_rfl) (by kernel_rfl) (by kernel_rfl)

theorem aw_sus1 (v : Value) (w : World) (hv : Pairs w v pairL) : Calls Tryz.prog 28 #[.agg #[v], .int .i64 1] w fun e w' => e = .returned (.tuple #[.agg #[.int .i64 43, .int .i64 280], .int .i64 0]) ∧ Below w.heap.size w w' :=
  (Susceptance_any v pairL 1 w hv (by decide)).mono fun _ _ h => ⟨h.1.trans (by kernel_rfl), h.2⟩
theorem aw_sus2 (v : Value) (w : World) (hv : Pairs w v pairL) : Calls Tryz.prog 28 #[.agg #[v], .int .i64 4] w fun e w' => e = .returned (.tuple #[.agg #[.int .i64 (-13), .int .i64 35], .int .i64 0]) ∧ Below w.heap.size w w' :=
  (Susceptance_any v pairL 4 w hv (by decide)).mono fun _ _ h => ⟨h.1.trans (by kernel_rfl), h.2⟩
theorem aw_res (v : Value) (w : World) (hv : Pairs w v pairL) : Calls Tryz.prog 30 #[.agg #[v]] w fun e w' => (∃ u, e = .returned (.tuple #[u, .int .i64 0]) ∧ Ints w' u [4]) ∧ Below w.heap.size w w' :=
  (Resonances_any v pairL w hv (by decide)).mono fun _ _ h => by
    obtain ⟨⟨u, h1, h2⟩, h3⟩ := h
    rw [show fltE pairL = 0 from by kernel_rfl] at h1 h2
    rw [show lsOr 0 (resL pairL) = [4] from by kernel_rfl] at h2
    exact ⟨⟨u, h1, h2⟩, h3⟩
theorem aw_meet1 (v u : Value) (w : World) (hv : Pairs w v pairL) (hu : Pairs w u boxL) : Calls Tryz.prog 31 #[.agg #[v], u, .int .i64 5] w fun e w' => e = .returned (.tuple #[.bool true, .int .i64 0]) ∧ Below w.heap.size w w' :=
  (Meets_any v u pairL boxL 5 w hv (by decide) hu (by decide)).mono fun _ _ h => ⟨h.1.trans (by kernel_rfl), h.2⟩
theorem aw_meet2 (v u : Value) (w : World) (hv : Pairs w v pairL) (hu : Pairs w u boxL) : Calls Tryz.prog 31 #[.agg #[v], u, .int .i64 4] w fun e w' => e = .returned (.tuple #[.bool false, .int .i64 0]) ∧ Below w.heap.size w w' :=
  (Meets_any v u pairL boxL 4 w hv (by decide) hu (by decide)).mono fun _ _ h => ⟨h.1.trans (by kernel_rfl), h.2⟩
theorem aw_edge (v u : Value) (w : World) (hv : Pairs w v pairL) (hu : Pairs w u boxL) : Calls Tryz.prog 33 #[.agg #[v], u, .int .i64 4] w fun e w' => e = .returned (.tuple #[.int .i64 2, .int .i64 0]) ∧ Below w.heap.size w w' :=
  (Edge_any v u pairL boxL 4 w hv (by decide) hu (by decide)).mono fun _ _ h => ⟨h.1.trans (by kernel_rfl), h.2⟩
theorem aw_avoid (v u z : Value) (w : World) (hv : Pairs w v pairL) (hu : Pairs w u boxL) (hz : Ints w z [5]) : Calls Tryz.prog 34 #[.agg #[v], .int .i64 0, u, z] w fun e w' => e = .returned (.tuple #[.int .i64 (-1), .int .i64 0]) ∧ Below w.heap.size w w' :=
  (Avoid_any v u z pairL 0 boxL [5] w hv (by decide) hu (by decide) hz (by decide)).mono fun _ _ h => ⟨h.1.trans (by kernel_rfl), h.2⟩
theorem aw_ext (u : Value) (w : World) (hu : Pairs w u boxL) : Calls Tryz.prog 35 #[u, .agg #[.int .i64 1, .int .i64 1]] w fun e w' => e = .returned (.tuple #[.int .i64 2, .int .i64 0]) ∧ Below w.heap.size w w' :=
  (Extreme_any u boxL (1, 1) w hu (by decide)).mono fun _ _ h => ⟨h.1.trans (by kernel_rfl), h.2⟩
theorem aw_print (v : Value) (w : World) (hv : Pairs w v pairL) (hp : Pows w) : Calls Tryz.prog 36 #[.agg #[v]] w fun e w' => e = .returned (.tuple #[.string ⟨#[98, 114, 97, 110, 99, 104, 32, 49, 32, 57, 10, 98, 114, 97, 110, 99, 104, 32, 49, 32, 51, 54, 10]⟩, .int .i64 0]) ∧ Below w.heap.size w w' :=
  (Print_any v pairL w hv (by decide) hp).mono fun _ _ h => ⟨h.1.trans (by kernel_rfl), h.2⟩
end Go.Proofs.YtfeajpkjjlddlaaGreatDoor

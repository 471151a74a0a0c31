/- TopShackleTapped: plain facts of filters and taps (from XLawSep, XLawFlt). -/
import Derived.Test.YtpkaoechbmbolaaGreatDoorHpL
import Derived.Test.YtpkaoechbmbolaaGreatDoorHqD
namespace Go.Proofs.YtpkaoechbmbolaaGreatDoor
set_option linter.unusedSimpArgs false
set_option linter.unusedVariables false
open Go.RowKit

theorem polE_parts {l : List (Int × Int)} (h : polE l = 0) : polN l = 0 ∧ firstE (l.map pointE) = 0 ∧ polC l = 0 := by
  unfold polE orE at h
  by_cases c1 : polN l = 0
  · rw [if_pos c1] at h
    by_cases c2 : firstE (l.map pointE) = 0
    · rw [if_pos c2] at h; exact ⟨c1, c2, h⟩
    · rw [if_neg c2] at h; exact absurd h c2
  · rw [if_neg c1] at h; exact absurd h c1
theorem tapL_zero (ls : List (Int × Int)) (hls : ∀ x ∈ ls, 0 ≤ x.1 ∧ x.1 ≤ 50) : tapL ls 0 0 = ls := by
  unfold tapL
  cases ls with
  | nil => rfl
  | cons x t =>
    have := hls x (by simp)
    obtain ⟨a, b⟩ := x
    simp only at this
    simp only [List.getElem?_cons_zero, Option.getD_some, List.set_cons_zero, Int.add_zero]
    rw [show wrap64 a = a by unfold wrap64; omega]
theorem flt_parts {ls : List (Int × Int)} (h : fltE ls = 0) : (0 < ls.length ∧ ls.length ≤ 3) ∧ ∀ x ∈ ls, 0 ≤ x.1 ∧ x.1 ≤ 50 := by
  unfold fltE orE at h
  by_cases c1 : fltN ls = 0
  · rw [if_pos c1] at h
    refine ⟨?_, fun x hx => ?_⟩
    · unfold fltN at c1
      obtain ⟨a1, a2⟩ := firstE_cons_ok c1
      obtain ⟨a2, _⟩ := firstE_cons_ok a2
      unfold whenE at a1 a2
      refine ⟨?_, ?_⟩
      · rcases Nat.eq_zero_or_pos ls.length with e | e
        · simp [e] at a1
        · exact e
      · by_cases d : (3 : Int) < ls.length
        · simp [d] at a2
        · omega
    · have := firstE_mapOk h x hx
      unfold brE at this
      exact withinE_zero (firstE_cons_ok this).1
  · rw [if_neg c1] at h; exact absurd h c1
theorem avo_facts {ls l : List (Int × Int)} {h : Int} (hf : fltE ls = 0) (hp : polE l = 0) (hh : 1 ≤ h ∧ h ≤ 12) :
    (avoR ls 0 l [h] = (0, 18) ∧ meetB ls l h = true) ∨
    ∃ t : Int, avoR ls 0 l [h] = (t, 0) ∧ (-8 ≤ t ∧ t ≤ 8) ∧ (t = 0 ↔ meetB ls l h = false) ∧ fltE (tapL ls 0 t) = 0 ∧ meetB (tapL ls 0 t) l h = false := by
  have fp := flt_parts hf
  have hb : braE ls 0 = 0 := by
    unfold braE
    rw [hf, show (decide ((0 : Int) < 0) || decide ((ls.length : Int) ≤ 0)) = false by rw [decide_eq_false (show ¬ ((ls.length : Int) ≤ 0) by have := fp.1.1; omega)]; rfl]
    rfl
  have ho : ordE [h] = 0 := by
    have e1 : withinE h 1 12 = 0 := by unfold withinE; rw [if_neg (by omega)]
    have e2 : decide (h ≤ 0) = false := by simp; omega
    simp [ordE, ordN, ordC, ordS, orE, firstE, whenE, e1, e2]
  have he : avoE ls 0 l [h] = 0 := by
    rw [avoE, hb, hp, ho]; rfl
  have ok0 : okT ls 0 l [h] 0 = !(meetB ls l h) := by
    unfold okT
    rw [tapL_zero ls fp.2, hf]
    simp
  rw [avoR, he]
  show (avoT ls 0 l [h] = _ ∧ _) ∨ ∃ t, avoT ls 0 l [h] = _ ∧ _
  unfold avoT
  cases hfi : tapsS.find? (okT ls 0 l [h]) with
  | none =>
    left
    refine ⟨rfl, ?_⟩
    have := List.find?_eq_none.1 hfi 0 (by decide)
    rw [ok0] at this
    simpa using this
  | some t =>
    right
    have ht := List.find?_some hfi
    have hmem := List.mem_of_find?_eq_some hfi
    have hr : -8 ≤ t ∧ t ≤ 8 := by
      have hall : ∀ x ∈ tapsS, -8 ≤ x ∧ x ≤ 8 := by decide
      exact hall t hmem
    refine ⟨t, rfl, hr, ⟨fun h0 => ?_, fun h0 => ?_⟩, ?_⟩
    · subst h0
      rw [ok0] at ht
      simpa using ht
    · have : okT ls 0 l [h] 0 = true := by rw [ok0, h0]; rfl
      unfold tapsS at hfi
      rw [List.find?_cons_of_pos (by exact this)] at hfi
      cases hfi; rfl
    · unfold okT at ht
      by_cases e : fltE (tapL ls 0 t) = 0
      · rw [e] at ht
        refine ⟨e, ?_⟩
        simpa using ht
      · have z : (fltE (tapL ls 0 t) == 0) = false := by rw [beq_eq_false_iff_ne]; exact e
        rw [z] at ht
        simp at ht
theorem tapX_ok {ls : List (Int × Int)} {b tap : Int} (h : tapP ls b tap = 0) : tapX ls b tap = tapE (fltE (tapL ls b.toNat tap)) ∧ tapZ ls b tap = lsIf (fltE (tapL ls b.toNat tap)) (tapL ls b.toNat tap) := by
  unfold tapX tapZ; rw [h]; exact ⟨rfl, rfl⟩
theorem tap_facts {ls : List (Int × Int)} {t : Int} (hf : fltE ls = 0) (ht : -8 ≤ t ∧ t ≤ 8) (hk : fltE (tapL ls 0 t) = 0) : tapX ls 0 t = 0 ∧ tapZ ls 0 t = tapL ls 0 t := by
  have fp := flt_parts hf
  have e : tapP ls 0 t = 0 := by
    have h1 : withinE t (-8) 8 = 0 := by unfold withinE; rw [if_neg (by omega)]
    rw [tapP, braE, hf, show (decide ((0 : Int) < 0) || decide ((ls.length : Int) ≤ 0)) = false by rw [decide_eq_false (show ¬ ((ls.length : Int) ≤ 0) by have := fp.1.1; omega)]; rfl, h1]
    rfl
  obtain ⟨h1, h2⟩ := tapX_ok e
  rw [show (0 : Int).toNat = 0 from rfl, hk] at h1
  rw [show (0 : Int).toNat = 0 from rfl, hk] at h2
  exact ⟨h1, h2⟩
theorem bOr0 (b : Bool) : bOr 0 b = b := rfl
theorem meets_no (v u : Value) (LT l : List (Int × Int)) (h : Int) (w : World) (hv : Pairs w v LT) (hl : LT.length ≤ 1000000) (hu : Pairs w u l) (hlu : l.length ≤ 1000000) (hm : meeE LT l h = 0) (hn : meetB LT l h = false) :
    Calls Tryz.prog 15 #[.agg #[v], u, .int .i64 h] w fun e w' => e = .returned (.tuple #[.bool false, .int .i64 0]) ∧ Below w.heap.size w w' := by
  have := Meets_any v u LT l h w hv hl hu hlu
  rw [hm, hn, bOr0] at this
  exact this
theorem tapped_ok (v : Value) (LT ls : List (Int × Int)) (t : Int) (w : World) (hv : Pairs w v LT) (hl : LT.length ≤ 1000000) (hx : tapX LT 0 t = 0) (hz : tapZ LT 0 t = ls) :
    Calls Tryz.prog 14 #[.agg #[v], .int .i64 0, .int .i64 t] w fun e w' => (∃ u, e = .returned (.tuple #[.agg #[u], .int .i64 0]) ∧ Pairs w' u ls) ∧ Below w.heap.size w w' := by
  have := Tapped_any v LT 0 t w hv hl
  rw [hx, hz] at this
  exact this
end Go.Proofs.YtpkaoechbmbolaaGreatDoor

/- The law HarmonicSeparates, plain facts. -/
import Derived.Test.YtlohcnecehlljaaGreatDoorHtA
import Derived.Test.YtlohcnecehlljaaGreatDoorLawPol
import Derived.Test.YtlohcnecehlljaaGreatDoorLawFlt
namespace Go.Proofs.YtlohcnecehlljaaGreatDoor
section
set_option linter.unusedSimpArgs false
set_option linter.unusedVariables false
open Go.RowKit

theorem polE_parts {l : List (Int × Int)} (h : polE l = 0) : polN l = 0 ∧ firstE (l.map pointE) = 0 ∧ polC l = 0 := by
  unfold polE orE at h
  by_cases c1 : polN l = 0
  · rw [if_pos c1] at h
    by_cases c2 : firstE (l.map pointE) = 0
    · rw [if_pos c2] at h; exact ⟨c1, c2, h⟩
    · rw [if_neg c2] at h; exact absurd h c2
  · rw [if_neg c1] at h; exact absurd h c1
theorem pol_pts {l : List (Int × Int)} (h : polE l = 0) : ∀ x ∈ l, PtOk x := fun x hx => pointE_ok (firstE_mapOk (polE_parts h).2.1 x hx)
theorem pol_left {l : List (Int × Int)} (h : polE l = 0) (k : Nat) (hk : k < l.length) : ∀ p ∈ l, negB (sideE (edgeK l k) p 1) = false := by
  have hc := (polE_parts h).2.2
  intro p hp
  cases hb : negB (sideE (edgeK l k) p 1)
  · rfl
  · have : polBad l k = true := by
      unfold polBad
      rw [Bool.or_eq_true]
      exact .inr (List.any_eq_true.2 ⟨p, hp, hb⟩)
    rw [polC_bad l k hk this] at hc
    exact absurd hc (by decide)
theorem out_none {l : List (Int × Int)} {p : Int × Int} (h : ∀ k, k < l.length → negB (sideE (edgeK l k) p 1) = false) : negB (outL l p 1) = true := by
  have : (edgesL l).any (fun x => negB (sideE x p 1)) = false := by
    rw [edges_any_range, List.any_eq_false]
    intro k hk
    rw [h k (List.mem_range.1 hk)]
    decide
  rw [outL, findX_none this]
  rfl
theorem pointE_of {p : Int × Int} (h : PtOk p) : pointE p = 0 := by
  obtain ⟨⟨a, b⟩, c, d⟩ := h
  have e1 : withinE p.1 (-1000) 1000 = 0 := by unfold withinE; rw [if_neg (by omega)]
  have e2 : withinE p.2 (-1000) 1000 = 0 := by unfold withinE; rw [if_neg (by omega)]
  unfold pointE allE
  simp only [List.map_cons, List.map_nil, e1, e2]
  rfl
theorem insE_of {l : List (Int × Int)} {p : Int × Int} (h : polE l = 0) (hp : PtOk p) : insE l p = 0 := by
  rw [insE, h, pointE_of hp]; rfl
theorem in_corner {l : List (Int × Int)} (h : polE l = 0) {x : Int × Int} (hx : x ∈ l) : insE l x = 0 ∧ negB (outL l x 1) = true :=
  ⟨insE_of h (pol_pts h x hx), out_none fun k hk => pol_left h k hk x hx⟩
/-- the middle of two points to the left of an edge is there too. -/
theorem side_mid {a b p q m : Int × Int} (ha : PtOk a) (hb : PtOk b) (hp : PtOk p) (hq : PtOk q) (h1 : 2 * m.1 = p.1 + q.1) (h2 : 2 * m.2 = p.2 + q.2)
    (n1 : negB (sideE (a.1, a.2, b.1, b.2) p 1) = false) (n2 : negB (sideE (a.1, a.2, b.1, b.2) q 1) = false) : negB (sideE (a.1, a.2, b.1, b.2) m 1) = false := by
  have hm : PtOk m := by
    obtain ⟨⟨_, _⟩, _, _⟩ := hp
    obtain ⟨⟨_, _⟩, _, _⟩ := hq
    exact ⟨by omega, by omega⟩
  rw [side_ex ha hb hp] at n1
  rw [side_ex ha hb hq] at n2
  rw [side_ex ha hb hm]
  unfold negB at *
  have g1 : 0 ≤ (b.1 - a.1) * (p.2 - a.2) - (b.2 - a.2) * (p.1 - a.1) := by
    have := of_decide_eq_false n1; omega
  have g2 : 0 ≤ (b.1 - a.1) * (q.2 - a.2) - (b.2 - a.2) * (q.1 - a.1) := by
    have := of_decide_eq_false n2; omega
  have e : 2 * ((b.1 - a.1) * (m.2 - a.2) - (b.2 - a.2) * (m.1 - a.1)) = ((b.1 - a.1) * (p.2 - a.2) - (b.2 - a.2) * (p.1 - a.1)) + ((b.1 - a.1) * (q.2 - a.2) - (b.2 - a.2) * (q.1 - a.1)) := by
    have t1 : 2 * ((b.1 - a.1) * (m.2 - a.2)) = (b.1 - a.1) * (2 * m.2 - 2 * a.2) := by grind
    have t2 : 2 * ((b.2 - a.2) * (m.1 - a.1)) = (b.2 - a.2) * (2 * m.1 - 2 * a.1) := by grind
    rw [Int.mul_sub, t1, t2, h1, h2]
    grind
  apply decide_eq_false
  omega
theorem in_middle {l : List (Int × Int)} (h : polE l = 0) {p q m : Int × Int} (hp : p ∈ l) (hq : q ∈ l) (h1 : 2 * m.1 = p.1 + q.1) (h2 : 2 * m.2 = p.2 + q.2) : insE l m = 0 ∧ negB (outL l m 1) = true := by
  have op := pol_pts h p hp
  have oq := pol_pts h q hq
  refine ⟨insE_of h ?_, out_none fun k hk => ?_⟩
  · obtain ⟨⟨_, _⟩, _, _⟩ := op
    obtain ⟨⟨_, _⟩, _, _⟩ := oq
    exact ⟨by omega, by omega⟩
  · have hm : (k + 1) % l.length < l.length := Nat.mod_lt _ (by omega)
    have n1 := pol_left h k hk p hp
    have n2 := pol_left h k hk q hq
    rw [edgeK, List.getElem?_eq_getElem hk, List.getElem?_eq_getElem hm] at n1 n2 ⊢
    exact side_mid (pol_pts h _ (List.getElem_mem hk)) (pol_pts h _ (List.getElem_mem hm)) op oq h1 h2 n1 n2
/-- the first edge that separates. -/
theorem findX_spec {α : Type} (g : α → Bool) (l : List α) (h : 0 ≤ findX g l) : ∃ (k : Nat) (x : α), findX g l = (k : Int) ∧ l[k]? = some x ∧ g x = true ∧ ∀ (j : Nat) (y : α), j < k → l[j]? = some y → g y = false := by
  unfold findX at *
  cases hf : l.findIdx? g with
  | none => rw [hf] at h; exact absurd h (by decide)
  | some k =>
    obtain ⟨hk, hg, hj⟩ := List.findIdx?_eq_some_iff_getElem.1 hf
    refine ⟨k, l[k], rfl, List.getElem?_eq_getElem hk, hg, fun j y hjk hy => ?_⟩
    have hjl : j < l.length := by omega
    rw [List.getElem?_eq_getElem hjl] at hy
    cases hy
    have := hj j hjk
    simpa using this
theorem findX_lt {α : Type} (g : α → Bool) (l : List α) (h : findX g l < 0) : ∀ (j : Nat) (y : α), l[j]? = some y → g y = false := by
  have := findX_ge g l
  rw [decide_eq_false (by omega)] at this
  intro j y hy
  cases hg : g y
  · rfl
  · rw [show l.any g = true from List.any_eq_true.2 ⟨y, List.mem_of_getElem? hy, hg⟩] at this
    exact absurd this (by decide)
/-- each edge, asked as a proof. -/
theorem chk_at {ls l : List (Int × Int)} {h : Int} (hm : meeE ls l h = 0) (k : Nat) (hk : k < l.length) : chkE ls l h k = bif sepB (edgeK l k) ls h then 0 else 19 := by
  have e : chkN ls l h k = 0 := by
    unfold chkN
    rw [hm]
    have : (decide ((k : Int) < 0) || decide ((l.length : Int) ≤ k)) = false := by simp; omega
    rw [this]
    rfl
  rw [chkE, orE, e, if_pos rfl, Int.toNat_natCast]
  cases sepB (edgeK l k) ls h <;> rfl
theorem edge_facts {ls l : List (Int × Int)} {h : Int} (hm : meeE ls l h = 0) (h0 : 0 < l.length) :
    (meetB ls l h = true → edgR ls l h = (0, 7) ∧ ∀ k, k < l.length → chkE ls l h k = 19) ∧
    (meetB ls l h = false → ∃ e : Nat, e < l.length ∧ edgR ls l h = ((e : Int), 0) ∧ chkE ls l h e = 0 ∧ ∀ k, k < l.length → chkE ls l h k = 19 ∨ (chkE ls l h k = 0 ∧ e ≤ k)) := by
  rw [meet_edge ls l h h0]
  refine ⟨fun hn => ?_, fun hn => ?_⟩
  · refine ⟨by rw [edgR, hm, hn]; rfl, fun k hk => ?_⟩
    have hlt : findX (fun x => sepB x ls h) (edgesL l) < 0 := by
      have := of_decide_eq_true hn
      exact this
    rw [chk_at hm k hk, findX_lt _ _ hlt k _ (edgesL_get l k hk)]
    rfl
  · have hge : 0 ≤ findX (fun x => sepB x ls h) (edgesL l) := by
      have := of_decide_eq_false hn
      unfold edgL at this
      omega
    obtain ⟨e, x, h1, h2, h3, h4⟩ := findX_spec _ _ hge
    have he : e < l.length := by
      have := (List.getElem?_eq_some_iff.1 h2).1
      rw [edgesL_len] at this
      exact this
    rw [edgesL_get l e he] at h2
    cases h2
    refine ⟨e, he, by rw [edgR, hm, hn]; show (edgL ls l h, (0 : Int)) = _; rw [edgL, h1], by rw [chk_at hm e he, h3]; rfl, fun k hk => ?_⟩
    rw [chk_at hm k hk]
    rcases Nat.lt_or_ge k e with c | c
    · left
      rw [h4 k _ c (edgesL_get l k hk)]; rfl
    · cases sepB (edgeK l k) ls h
      · exact .inl rfl
      · exact .inr ⟨rfl, c⟩
/-- the extreme corner. -/
theorem ext_facts {l : List (Int × Int)} {d : Int × Int} (h : polE l = 0) (hd : PtOk d) (hz : ¬ (d.1 = 0 ∧ d.2 = 0)) :
    extE l d = 0 ∧ ∃ e : Nat, e < l.length ∧ extL l d = (e : Int) ∧ ∀ j, j < l.length → sumG d (l[j]?.getD (0, 0)) ≤ sumG d (l[e]?.getD (0, 0)) := by
  have h3 := (polE_zero h).1
  refine ⟨?_, bestN l d l.length, ?_, extreme_same l d (by omega), fun j hj => ?_⟩
  · have e1 : (d.1 == 0 && d.2 == 0) = false := by
      by_cases c1 : d.1 = 0 <;> by_cases c2 : d.2 = 0 <;> simp [c1, c2] <;> exact hz ⟨c1, c2⟩
    rw [extE, h, pointE_of hd, e1]
    rfl
  · have := bestN_lt l d (l.length - 1)
    obtain ⟨h1, _, _⟩ := best_spec l d (l.length - 1) (by omega)
    rw [show l.length - 1 + 1 = l.length by omega] at h1
    omega
  · obtain ⟨_, h2, _⟩ := best_spec l d (l.length - 1) (by omega)
    rw [show l.length - 1 + 1 = l.length by omega] at h2
    rw [← h2]
    have hg : ∀ k, k < l.length → (l.map (sumG d))[k]?.getD 0 = sumG d (l[k]?.getD (0, 0)) := fun k hk => by
      rw [List.getElem?_map, List.getElem?_eq_getElem hk]; rfl
    have hle : ∀ k, k < l.length → ∀ j, j ≤ k → sumG d (l[j]?.getD (0, 0)) ≤ maxN (l.map (sumG d)) k := by
      intro k
      induction k with
      | zero => intro hk j hj; obtain rfl : j = 0 := by omega
                rw [maxN, hg 0 hk]; exact Int.le_refl _
      | succ k ih =>
        intro hk j hj
        have := ih (by omega)
        rw [maxN, hg (k + 1) hk]
        by_cases c : j = k + 1
        · subst c; split <;> omega
        · have := this j (by omega)
          split <;> omega
    exact hle (l.length - 1) (by omega) j (by omega)
/-- a tap there and back. -/
theorem tapL_zero (ls : List (Int × Int)) (hls : ∀ x ∈ ls, 0 ≤ x.1 ∧ x.1 ≤ 50) : tapL ls 0 0 = ls := by
  unfold tapL
  cases ls with
  | nil => rfl
  | cons x t =>
    have := hls x (by simp)
    obtain ⟨a, b⟩ := x
    simp only at this
    simp only [List.getElem?_cons_zero, Option.getD_some, List.set_cons_zero, Int.add_zero]
    rw [show wrap64 a = a by unfold wrap64; omega]
theorem tapL_back (ls : List (Int × Int)) (t : Int) (ht : -8 ≤ t ∧ t ≤ 8) (hls : ∀ x ∈ ls, 0 ≤ x.1 ∧ x.1 ≤ 50) : tapL (tapL ls 0 t) 0 (-t) = ls := by
  unfold tapL
  cases ls with
  | nil => rfl
  | cons x l =>
    have := hls x (by simp)
    obtain ⟨a, b⟩ := x
    simp only at this
    simp only [List.getElem?_cons_zero, Option.getD_some, List.set_cons_zero]
    rw [show wrap64 (a + t) = a + t by unfold wrap64; omega, show wrap64 (a + t + -t) = a by unfold wrap64; omega]
theorem flt_parts {ls : List (Int × Int)} (h : fltE ls = 0) : (0 < ls.length ∧ ls.length ≤ 3) ∧ ∀ x ∈ ls, 0 ≤ x.1 ∧ x.1 ≤ 50 := by
  unfold fltE orE at h
  by_cases c1 : fltN ls = 0
  · rw [if_pos c1] at h
    refine ⟨?_, fun x hx => ?_⟩
    · unfold fltN at c1
      obtain ⟨a1, a2⟩ := firstE_cons_ok c1
      obtain ⟨a2, _⟩ := firstE_cons_ok a2
      unfold whenE at a1 a2
      refine ⟨?_, ?_⟩
      · rcases Nat.eq_zero_or_pos ls.length with e | e
        · simp [e] at a1
        · exact e
      · by_cases d : (3 : Int) < ls.length
        · simp [d] at a2
        · omega
    · have := firstE_mapOk h x hx
      unfold brE at this
      exact withinE_zero (firstE_cons_ok this).1
  · rw [if_neg c1] at h; exact absurd h c1
/-- what Avoid finds at the first branch and one order. -/
theorem avo_facts {ls l : List (Int × Int)} {h : Int} (hf : fltE ls = 0) (hp : polE l = 0) (hh : 1 ≤ h ∧ h ≤ 12) :
    (avoR ls 0 l [h] = (0, 18) ∧ meetB ls l h = true) ∨
    ∃ t : Int, avoR ls 0 l [h] = (t, 0) ∧ (-8 ≤ t ∧ t ≤ 8) ∧ (t = 0 ↔ meetB ls l h = false) ∧ fltE (tapL ls 0 t) = 0 ∧ meetB (tapL ls 0 t) l h = false := by
  have fp := flt_parts hf
  have hb : braE ls 0 = 0 := by
    unfold braE
    rw [hf, show (decide ((0 : Int) < 0) || decide ((ls.length : Int) ≤ 0)) = false by rw [decide_eq_false (show ¬ ((ls.length : Int) ≤ 0) by have := fp.1.1; omega)]; rfl]
    rfl
  have ho : ordE [h] = 0 := by
    have e1 : withinE h 1 12 = 0 := by unfold withinE; rw [if_neg (by omega)]
    have e2 : decide (h ≤ 0) = false := by simp; omega
    simp [ordE, ordN, ordC, ordS, orE, firstE, whenE, e1, e2]
  have he : avoE ls 0 l [h] = 0 := by
    rw [avoE, hb, hp, ho]; rfl
  have ok0 : okT ls 0 l [h] 0 = !(meetB ls l h) := by
    unfold okT
    rw [tapL_zero ls fp.2, hf]
    simp
  rw [avoR, he]
  show (avoT ls 0 l [h] = _ ∧ _) ∨ ∃ t, avoT ls 0 l [h] = _ ∧ _
  unfold avoT
  cases hfi : tapsS.find? (okT ls 0 l [h]) with
  | none =>
    left
    refine ⟨rfl, ?_⟩
    have := List.find?_eq_none.1 hfi 0 (by decide)
    rw [ok0] at this
    simpa using this
  | some t =>
    right
    have ht := List.find?_some hfi
    have hmem := List.mem_of_find?_eq_some hfi
    have hr : -8 ≤ t ∧ t ≤ 8 := by
      have hall : ∀ x ∈ tapsS, -8 ≤ x ∧ x ≤ 8 := by decide
      exact hall t hmem
    refine ⟨t, rfl, hr, ⟨fun h0 => ?_, fun h0 => ?_⟩, ?_⟩
    · subst h0
      rw [ok0] at ht
      simpa using ht
    · have : okT ls 0 l [h] 0 = true := by rw [ok0, h0]; rfl
      unfold tapsS at hfi
      rw [List.find?_cons_of_pos (by exact this)] at hfi
      cases hfi; rfl
    · unfold okT at ht
      by_cases e : fltE (tapL ls 0 t) = 0
      · rw [e] at ht
        refine ⟨e, ?_⟩
        simpa using ht
      · have z : (fltE (tapL ls 0 t) == 0) = false := by rw [beq_eq_false_iff_ne]; exact e
        rw [z] at ht
        simp at ht
theorem tap_facts {ls : List (Int × Int)} {t : Int} (hf : fltE ls = 0) (ht : -8 ≤ t ∧ t ≤ 8) (hk : fltE (tapL ls 0 t) = 0) : tapX ls 0 t = 0 ∧ tapZ ls 0 t = tapL ls 0 t := by
  have fp := flt_parts hf
  have e : tapP ls 0 t = 0 := by
    have h1 : withinE t (-8) 8 = 0 := by unfold withinE; rw [if_neg (by omega)]
    rw [tapP, braE, hf, show (decide ((0 : Int) < 0) || decide ((ls.length : Int) ≤ 0)) = false by rw [decide_eq_false (show ¬ ((ls.length : Int) ≤ 0) by have := fp.1.1; omega)]; rfl, h1]
    rfl
  obtain ⟨h1, h2⟩ := tapX_ok e
  rw [show (0 : Int).toNat = 0 from rfl, hk] at h1
  rw [show (0 : Int).toNat = 0 from rfl, hk] at h2
  exact ⟨h1, h2⟩
theorem half_facts {s : Int} (h : s.tmod 2 = 0) (hb : -2000 ≤ s ∧ s ≤ 2000) : ∃ m : Int, 2 * m = s ∧ IntKind.i64.wrap (s.tdiv 2) = m := by
  have h1 := Int.mul_tdiv_add_tmod s 2
  rw [h, Int.add_zero] at h1
  generalize s.tdiv 2 = m at h1 ⊢
  exact ⟨m, h1, IntWalk.i64_in _ (by omega)⟩
end

section
set_option linter.unusedSimpArgs false
set_option linter.unusedVariables false
open Go.RowKit

theorem neqGauss (a b : Int) (W : World) : Sem.run Tryz.prog (binOp .neq 98 (.agg #[.int .i64 a, .int .i64 b]) (.agg #[.int .i64 0, .int .i64 0])) W = .ok (.bool (!(a == 0 && b == 0))) W := by
  go_simp
  by_cases h1 : a = 0 <;> by_cases h2 : b = 0 <;> simp [h1, h2]
theorem bOr0 (b : Bool) : bOr 0 b = b := rfl
theorem meets_no (v u : Value) (LT l : List (Int × Int)) (h : Int) (w : World) (hv : Pairs w v LT) (hl : LT.length ≤ 1000000) (hu : Pairs w u l) (hlu : l.length ≤ 1000000) (hm : meeE LT l h = 0) (hn : meetB LT l h = false) :
    Calls Tryz.prog 23 #[.agg #[v], u, .int .i64 h] w fun e w' => e = .returned (.tuple #[.bool false, .int .i64 0]) ∧ Below w.heap.size w w' := by
  have := Meets_any v u LT l h w hv hl hu hlu
  rw [hm, hn, bOr0] at this
  exact this
theorem tapped_ok (v : Value) (LT ls : List (Int × Int)) (t : Int) (w : World) (hv : Pairs w v LT) (hl : LT.length ≤ 1000000) (hx : tapX LT 0 t = 0) (hz : tapZ LT 0 t = ls) :
    Calls Tryz.prog 48 #[.agg #[v], .int .i64 0, .int .i64 t] w fun e w' => (∃ u, e = .returned (.tuple #[.agg #[u], .int .i64 0]) ∧ Pairs w' u ls) ∧ Below w.heap.size w w' := by
  have := Tapped_any v LT 0 t w hv hl
  rw [hx, hz] at this
  exact this
theorem same_self (va vb : Value) (l : List (Int × Int)) (w : World) (ha : Pairs w va l) (hb : Pairs w vb l) (hl : l.length ≤ 1000000) :
    Calls Tryz.prog 50 #[.agg #[va], .agg #[vb]] w fun e w' => e = .returned (.bool true) ∧ Below w.heap.size w w' := by
  have := SameR_any va vb l l w ha hb hl
  rw [decide_eq_true (show l = l from rfl)] at this
  exact this

set_option maxRecDepth 100000 in
set_option maxHeartbeats 40000000 in
theorem sep_law (v u : Value) (ls l : List (Int × Int)) (a b c d : Int) (w : World) (hw : Powers w) (hp : Pows w) (hv : Pairs w v ls) (hu : Pairs w u l) (ha : -128 ≤ a ∧ a ≤ 127) (hb : -128 ≤ b ∧ b ≤ 127) (hc : -128 ≤ c ∧ c ≤ 127) (hd : -128 ≤ d ∧ d ≤ 127) :
    Calls Tryz.prog 6 #[.agg #[v], u, .agg #[.int .i8 a, .int .i8 b, .int .i8 c, .int .i8 d]] w fun e w' => e = .returned (.bool true) ∧ Below w.heap.size w w' := by
  have S0 := Lib.hid (fun W hP => ShortR_any v ls W hP)
  have S1 := Lib.hid (fun W hP => ShortPolygonR_any u l W hP)
  obtain ⟨x, cp, rfl, _, _⟩ := id hv
  obtain ⟨x2, cp2, rfl, hcp2, hcs0⟩ := id hu
  have HV := Lib.hid hv
  have HU := Lib.hid hu
  have HCS := Lib.hid hcs0
  have TAW := Lib.hid (fun W hP hQ => awake_any W hP hQ)
  clear hv hu hcs0 hcp2
  by_cases hc4 : (ls.length : Int) ≤ 4
  · have hd4 : decide ((ls.length : Int) ≤ 4) = true := decide_eq_true hc4
    by_cases hc9 : (l.length : Int) ≤ 9
    · have hd9 : decide ((l.length : Int) ≤ 9) = true := decide_eq_true hc9
      have hl : ls.length ≤ 1000000 := by omega
      have hlu : l.length ≤ 1000000 := by omega
      have R0 := Lib.hid (fun W hP => CheckFilterR_any (.slice x ls.length cp) ls W hP hl)
      have R1 := Lib.hid (fun W hP => CheckPolygonR_any (.slice x2 l.length cp2) l W hP hlu)
      by_cases hf : fltE ls = 0
      · rw [hf] at R0
        by_cases hpl : polE l = 0
        · rw [hpl] at R1
          obtain ⟨hn3, hn8⟩ := polE_zero hpl
          have fp := flt_parts hf
          obtain ⟨b2, o2, rfl, hc2⟩ := HCS.out (by omega)
          clear HCS
          obtain ⟨na, hna⟩ : ∃ na : Nat, (na : Int) = a + 128 := ⟨(a + 128).toNat, by omega⟩
          obtain ⟨nb, hnb⟩ : ∃ nb : Nat, (nb : Int) = b + 128 := ⟨(b + 128).toNat, by omega⟩
          obtain ⟨h, hh⟩ : ∃ h : Int, h = 1 + ((na % 12 : Nat) : Int) := ⟨_, rfl⟩
          have hh1 : 1 ≤ h ∧ h ≤ 12 := by omega
          have hm : meeE ls l h = 0 := by
            have e1 : withinE h 1 12 = 0 := by unfold withinE; rw [if_neg (by omega)]
            rw [meeE, hf, hpl, e1]; rfl
          have TG := Lib.hid (fun W hP => given_any (.slice x ls.length cp) ls W hP hl)
          have TP := Lib.hid (fun W hP => points_any (.slice (some ⟨b2, o2, none⟩) l.length cp2) l W hP hlu)
          have TM := Lib.hid (fun v u W hP hQ => by
            have := Meets_any v u ls l h W hP hl hQ hlu
            rw [hm, bOr0] at this
            exact this)
          have TE := Lib.hid (fun v u W hP hQ => Edge_any v u ls l h W hP hl hQ hlu)
          have TC := Lib.hid (fun v u (k : Nat) W hP hQ => CheckEdge_any v u ls l h k W hP hl hQ hlu)
          have TIc := Lib.hid (fun (y : Int × Int) (hy : y ∈ l) v W hP => by
            have := Inside_any v l y W hP hlu
            rw [(in_corner hpl hy).1, (in_corner hpl hy).2, bOr0] at this
            exact this)
          have TIm := Lib.hid (fun (y z m : Int × Int) (hy : y ∈ l) (hz : z ∈ l) (h1 : 2 * m.1 = y.1 + z.1) (h2 : 2 * m.2 = y.2 + z.2) v W hP => by
            have := Inside_any v l m W hP hlu
            rw [(in_middle hpl hy hz h1 h2).1, (in_middle hpl hy hz h1 h2).2, bOr0] at this
            exact this)
          have EX := Lib.hid (fun (hz : ¬ (c = 0 ∧ d = 0)) => ext_facts (d := (c, d)) hpl ⟨by simp only; omega, by simp only; omega⟩ hz)
          have TX := Lib.hid (fun v W hP => Extreme_any v l (c, d) W hP hlu)
          have TA := Lib.hid (fun v u z W hP hQ hR => Avoid_any v u z ls 0 l [h] W hP hl hQ hlu hR (by simp))
          have AF := Lib.hid (avo_facts hf hpl hh1)
          have TT := Lib.hid (fun t (ht : -8 ≤ t ∧ t ≤ 8) (hk : fltE (tapL ls 0 t) = 0) v W hP => by
            have := Tapped_any v ls 0 t W hP hl
            rw [(tap_facts hf ht hk).1, (tap_facts hf ht hk).2] at this
            exact this)
          have TL := Lib.hid (fun t (ht : -8 ≤ t ∧ t ≤ 8) (hk : fltE (tapL ls 0 t) = 0) => by
            have hb := tapL_back ls t ht fp.2
            have := tap_facts (ls := tapL ls 0 t) (t := -t) hk (by omega) (by rw [hb]; exact hf)
            rw [hb] at this
            have hlen : (tapL ls 0 t).length = ls.length := by rw [tapL, List.length_set]
            have hmt : meeE (tapL ls 0 t) l h = 0 := by
              have e1 : withinE h 1 12 = 0 := by unfold withinE; rw [if_neg (by omega)]
              rw [meeE, hk, hpl, e1]; rfl
            exact And.intro hlen (And.intro this hmt))
          have EF := Lib.hid (edge_facts hm (by omega))
          obtain ⟨g, hg⟩ : ∃ g, g = edgR ls l h := ⟨_, rfl⟩
          rw [← hg] at TE EF
          obtain ⟨g1, g2⟩ := g
          obtain ⟨ck, hck⟩ : ∃ f : Nat → Int, f = fun (k : Nat) => chkE ls l h (k : Int) := ⟨_, rfl⟩
          have hck2 : ∀ k : Nat, chkE ls l h k = ck k := fun k => by rw [hck]
          simp only [hck2] at TC EF
          generalize hmb : meetB ls l h = mb at TM EF AF
          obtain ⟨n, hn⟩ : ∃ n, n = l.length := ⟨_, rfl⟩
          obtain ⟨av, hav⟩ : ∃ g, g = avoR ls 0 l [h] := ⟨_, rfl⟩
          rw [← hav] at TA AF
          obtain ⟨av1, av2⟩ := av
          simp only at TE TA
          have HCC := Lib.hid hc2
          have HLS := Lib.hid hl
          have HFP := Lib.hid fp
          have HNN := Lib.hid hn
          have HHH := Lib.hid hh
          have HPT := Lib.hid (pol_pts hpl)
          have HHL := Lib.hid hlu
          have HNB := Lib.hid hnb
          clear hc2 hl hlu fp hh hg hck hck2 hmb hav hm hf hpl hnb
          go_enter Tryz.func6, Tryz.ntmps6
          go_upto_region 1 with fail
          obtain ⟨W1, hW1⟩ : ∃ v, v = World.alloc w (Obj.cells #[.slice x ls.length cp] 47) := ⟨_, rfl⟩
          have kW1 : Below w.heap.size w W1 := by rw [hW1]; exact below_new _ _
          have iW1 : Blk W1 (w.heap.size) 47 [.slice x ls.length cp] := by rw [hW1]; exact Blk.new _ _ _
          have sW1 : W1.heap.size = w.heap.size + 1 := by rw [hW1]; simp
          rw [← hW1]
          clear hW1
          obtain ⟨Wa, hWa⟩ : ∃ v, v = World.alloc W1 (Obj.cells #[.int .i8 a, .int .i8 b, .int .i8 c, .int .i8 d] 95) := ⟨_, rfl⟩
          have kWa : Below W1.heap.size W1 Wa := by rw [hWa]; exact below_new _ _
          have iWa : Blk Wa (w.heap.size + 1) 95 [.int .i8 a, .int .i8 b, .int .i8 c, .int .i8 d] := by rw [hWa, ← sW1]; exact Blk.new _ _ _
          have sWa : Wa.heap.size = w.heap.size + 1 + 1 := by rw [hWa]; simp [sW1]
          rw [← hWa]
          clear hWa
          have a0 := (iW1.carry kWa).cell (j := 0) (v := .slice x ls.length cp) rfl
          have q0 := iWa.cell (j := 0) (v := .int .i8 a) rfl
          have q1 := iWa.cell (j := 1) (v := .int .i8 b) rfl
          have q2 := iWa.cell (j := 2) (v := .int .i8 c) rfl
          have q3 := iWa.cell (j := 3) (v := .int .i8 d) rfl
          obtain ⟨G1, hG1⟩ : ∃ G, G = w.heap.size + 1 := ⟨_, rfl⟩
          rw [← hG1] at q0 q1 q2 q3 ⊢
          obtain ⟨G0, hG0⟩ : ∃ G, G = w.heap.size := ⟨_, rfl⟩
          rw [← hG0] at a0 ⊢
          have hB := bthen kW1 kWa
          clear iW1 kW1 sW1 iWa kWa sWa hG0 hG1
          have HVa := Lib.hid (HV.out.carry hB)
          have HUa := Lib.hid (HU.out.carry hB)
          have HWa := Lib.hid (hw.carry hB)
          have HPa := Lib.hid (hp.carry hB)
          have HB := Lib.hid hB
          have S0b := Lib.hid (S0.out Wa HVa.out)
          clear S0
          rw [hd4] at S0b
          have A0 := Lib.hid a0
          have Q0 := Lib.hid q0
          have Q1 := Lib.hid q1
          have Q2 := Lib.hid q2
          have Q3 := Lib.hid q3
          have HC := Lib.hid (fun j (hj : j < n) => show ∃ y0 y1, (y0, y1) ∈ l ∧ l[j]? = some (y0, y1) ∧ Wa.cell? ⟨b2, o2 + j * 2, none⟩ = some (.int .i64 y0) ∧ Wa.cell? ⟨b2, o2 + j * 2 + 1, none⟩ = some (.int .i64 y1) from by
            have hj2 : j < l.length := by rw [← HNN.out]; exact hj
            have e := HCC.out j (l[j]'hj2) (List.getElem?_eq_getElem hj2)
            exact ⟨(l[j]'hj2).1, (l[j]'hj2).2, List.getElem_mem hj2, List.getElem?_eq_getElem hj2, cellb e.1 hB, cellb e.2 hB⟩)
          rw [← hn] at EF TP HUa hn3 hn8 R1 S1 hc9 hd9 ⊢
          clear HCC hB hn hc9 hc4
          go_wp2_with fail
          refine (S0b.out).mono ?_
          rintro e Wb ⟨rfl, hA⟩
          have a0 := cellb a0 hA
          have q0 := cellb q0 hA
          have S1b := Lib.hid (S1.out Wb (HUa.out.carry hA))
          rw [hd9] at S1b
          clear S0b S1 hd4 hd9
          go_wp2_with fail
          refine (S1b.out).mono ?_
          rintro e Wb ⟨rfl, rfl⟩
          go_wp2_with fail
          refine (R0.out Wb (HVa.out.carry hA)).mono ?_
          rintro e W2 ⟨rfl, hb⟩
          have a0 := cellb a0 hb
          have q0 := cellb q0 hb
          clear S1b
          replace hA := bthen hA hb
          clear hb
          go_wp2_with fail
          refine (R1.out W2 (HUa.out.carry hA)).mono ?_
          rintro e W3 ⟨rfl, hb⟩
          have a0 := cellb a0 hb
          have q0 := cellb q0 hb
          replace hA := bthen hA hb
          clear hb
          clear q1 q2 q3 R1
          have e0 : IntKind.i64.wrap a = a := IntWalk.i64_in _ (by omega)
          have e1 : IntKind.i64.wrap (a + 128) = (na : Int) := (IntWalk.i64_in _ (by omega)).trans hna.symm
          have e2 : (na : Int).tmod 12 = ((na % 12 : Nat) : Int) := rfl
          have e3 : IntKind.i64.wrap (1 + ((na % 12 : Nat) : Int)) = h := (IntWalk.i64_in _ (by omega)).trans HHH.out.symm
          generalize na % 12 = n12 at e2 e3
          clear hna HHH
          go_wp2_with fail
          refine (TG.out W3 (HVa.out.carry hA)).mono ?_
          rintro e W4 ⟨⟨u1, rfl, hu1⟩, hb⟩
          clear a0 q0 e0 e1 e2 e3
          replace hA := bthen hA hb
          clear hb
          go_wp2_with fail
          refine (TP.out W4 (HUa.out.carry hA)).mono ?_
          rintro e W5 ⟨⟨u2, rfl, hu2⟩, hb⟩
          have hu1 := hu1.carry hb
          replace hA := bthen hA hb
          clear hb
          go_wp2_with fail
          refine (TM.out u1 u2 W5 hu1 hu2).mono ?_
          rintro e W6 ⟨rfl, hb⟩
          clear hu1 hu2
          replace hA := bthen hA hb
          clear hb
          have a0 := cellb A0.out hA
          go_wp2_with fail
          refine (TG.out W6 (HVa.out.carry hA)).mono ?_
          rintro e W7 ⟨⟨u1, rfl, hu1⟩, hb⟩
          clear a0
          replace hA := bthen hA hb
          clear hb
          go_wp2_with fail
          refine (TP.out W7 (HUa.out.carry hA)).mono ?_
          rintro e W8 ⟨⟨u2, rfl, hu2⟩, hb⟩
          have hu1 := hu1.carry hb
          replace hA := bthen hA hb
          clear hb
          go_wp2_with fail
          refine (TE.out u1 u2 W8 hu1 hu2).mono ?_
          rintro e W9 ⟨rfl, hb⟩
          clear hu1 hu2
          replace hA := bthen hA hb
          clear hb
          clear TM TE
          go_upto_region 6 with fail
          go_cut [101] from 76 to 101 (fun u101 wn => u101 = .bool false ∧ Below Wa.heap.size Wa wn)
          case first =>
            have a0 := cellb A0.out hA
            obtain ⟨ef1, ef2⟩ := EF.out
            cases mb
            · obtain ⟨e, he, hge, hce, _⟩ := ef2 rfl
              obtain ⟨rfl, rfl⟩ : g1 = (e : Int) ∧ g2 = 0 := by simpa using hge
              have TCe := Lib.hid (TC.out)
              have HCE := Lib.hid hce
              clear ef1 ef2 hge hce
              go_wp2_with fail
              refine (TG.out W9 (HVa.out.carry hA)).mono ?_
              rintro e X1 ⟨⟨u1, rfl, hu1⟩, hb⟩
              clear a0
              replace hA := bthen hA hb
              clear hb
              go_wp2_with fail
              refine (TP.out X1 (HUa.out.carry hA)).mono ?_
              rintro e X2 ⟨⟨u2, rfl, hu2⟩, hb⟩
              have hu1 := hu1.carry hb
              replace hA := bthen hA hb
              clear hb
              have TC2 := Lib.hid (TC.out u1 u2 e X2 hu1 hu2)
              rw [HCE.out] at TC2
              go_wp2_with fail
              refine (TC2.out).mono ?_
              rintro e X3 ⟨rfl, hb⟩
              go_wp2_with fail
              go_meet
              exact ⟨rfl, bthen hA hb⟩
            · obtain ⟨hge, _⟩ := ef1 rfl
              obtain ⟨rfl, rfl⟩ : g1 = 0 ∧ g2 = 7 := by simpa using hge
              clear ef1 ef2 hge
              go_wp2_with fail
              go_meet
              exact ⟨rfl, hA⟩
          case rest =>
            clear hA
            obtain ⟨rfl, hA⟩ := hcut
            go_wp2_with fail
            go_loopw [104] (fun i wr => ∃ k : Nat, k ≤ n ∧ i = .int .i64 k ∧ Below Wa.heap.size Wa wr) (fun i _ => n - (intOf i).toNat)
            case atStart => exact ⟨0, by omega, rfl, hA⟩
            case round =>
              clear hA
              obtain ⟨k, hk, rfl, hA⟩ := hrel
              by_cases hlt : k < n
              · have d1 : (k : Int) < (n : Int) := by omega
                have a0 := cellb A0.out hA
                go_wp2_with fail
                refine (TG.out wr (HVa.out.carry hA)).mono ?_
                rintro e X1 ⟨⟨u1, rfl, hu1⟩, hb⟩
                clear a0
                replace hA := bthen hA hb
                clear hb
                go_wp2_with fail
                refine (TP.out X1 (HUa.out.carry hA)).mono ?_
                rintro e X2 ⟨⟨u2, rfl, hu2⟩, hb⟩
                have hu1 := hu1.carry hb
                replace hA := bthen hA hb
                clear hb
                have TC2 := Lib.hid (TC.out u1 u2 k X2 hu1 hu2)
                go_wp2_with fail
                refine (TC2.out).mono ?_
                rintro e X3 ⟨rfl, hb⟩
                clear hu1 hu2 TC2
                replace hA := bthen hA hb
                clear hb
                obtain ⟨ef1, ef2⟩ := EF.out
                have hck : ck k = 19 ∨ (ck k = 0 ∧ mb = false ∧ g1 ≤ (k : Int)) := by
                  cases mb
                  · obtain ⟨e, he, hge, _, hall⟩ := ef2 rfl
                    obtain ⟨rfl, rfl⟩ : g1 = (e : Int) ∧ g2 = 0 := by simpa using hge
                    rcases hall k hlt with h1 | ⟨h1, h2⟩
                    · exact .inl h1
                    · exact .inr ⟨h1, rfl, by omega⟩
                  · exact .inl ((ef1 rfl).2 k hlt)
                clear ef1 ef2
                generalize ck k = ckk at hck ⊢
                have HCK := Lib.hid hck
                clear hck
                go_upto_region 12 with fail
                go_cut [131] from 114 to 131 (fun u131 wn => u131 = .bool false ∧ Below Wa.heap.size Wa wn)
                case first =>
                  rcases HCK.out with rfl | ⟨rfl, rfl, hgk⟩
                  · go_wp2_with fail
                    go_meet
                    exact ⟨rfl, hA⟩
                  · have hgk2 : decide ((k : Int) < g1) = false := decide_eq_false (by omega)
                    go_wp2_with fail
                    go_meet
                    exact ⟨rfl, hA⟩
                case rest =>
                  clear hA
                  obtain ⟨rfl, hA⟩ := hcut
                  obtain ⟨y0, y1, hy, hyk, c0, c1⟩ := HC.out k hlt
                  have HY := Lib.hid hy
                  have TI1 := Lib.hid (TIc.out (y0, y1) hy)
                  simp only at TI1
                  have C0 := Lib.hid c0
                  have C1 := Lib.hid c1
                  clear hy hyk c0 c1
                  go_upto_region 14 with fail
                  refine wp_region_held_drew (S := (fun W => W.cell? ⟨b2, o2 + k * 2, none⟩ = some (.int .i64 y0) ∧ W.cell? ⟨b2, o2 + k * 2 + 1, none⟩ = some (.int .i64 y1))) (by kernel_rfl) ⟨cellb C0.out hA.drew, cellb C1.out hA.drew⟩ (fun hHeld0 => ?_)
                  obtain ⟨wzd, hwz⟩ : ∃ v, v = wc.drew := ⟨_, rfl⟩
                  rw [← hwz] at hHeld0 ⊢
                  have hbzd : Below Wa.heap.size Wa wzd := by rw [hwz]; exact hA.drew
                  have hlzd : Below wc.heap.size wc wzd := by rw [hwz]; exact (Below.refl _ _).drew
                  clear hwz hlzd
                  refine wpAnyH_take (i := 0) (oi := { dst := some 133, op := Op.move (Operand.tmp 1), type := 48, pos := "law.go:436", after := #[], guard := none }) (v := ?_) rfl (by kernel_rfl) (by kernel_rfl) (by kernel_rfl) (fun _ _ _ h => h) (Or.inl ⟨by rfl, ?_⟩) (by assumption) ?_
                  rotate_left
                  · (intro w hSw; (try dsimp only at hSw); go_simp); (try with_reducible rfl)
                  try simp only [Act.put, List.setIfInBounds_toArray, List.set_cons_zero, List.set_cons_succ]
                  refine wpAnyH_take (i := 2) (oi := { dst := some 135, op := Op.move (Operand.tmp 1), type := 48, pos := "law.go:436", after := #[], guard := none }) (v := ?_) rfl (by kernel_rfl) (by kernel_rfl) (by kernel_rfl) (fun _ _ _ h => h) (Or.inl ⟨by rfl, ?_⟩) (by assumption) ?_
                  rotate_left
                  · (intro w hSw; (try dsimp only at hSw); go_simp); (try with_reducible rfl)
                  try simp only [Act.put, List.setIfInBounds_toArray, List.set_cons_zero, List.set_cons_succ]
                  refine wpAnyH_take (i := 3) (oi := { dst := some 136, op := Op.move (Operand.tmp 12), type := 3, pos := "law.go:436", after := #[], guard := none }) (v := ?_) rfl (by kernel_rfl) (by kernel_rfl) (by kernel_rfl) (fun _ _ _ h => h) (Or.inl ⟨by rfl, ?_⟩) (by assumption) ?_
                  rotate_left
                  · (intro w hSw; (try dsimp only at hSw); go_simp); (try with_reducible rfl)
                  try simp only [Act.put, List.setIfInBounds_toArray, List.set_cons_zero, List.set_cons_succ]
                  refine wpAnyH_take (i := 4) (oi := { dst := some 137, op := Op.indexAddr 48 (Operand.tmp 135) (Operand.tmp 136), type := 0, pos := "law.go:436", after := #[{ on := 2, ground := Ground.data }, { on := 3, ground := Ground.data }], guard := none }) (v := ?_) rfl (by kernel_rfl) (by kernel_rfl) (by kernel_rfl) (fun _ _ _ h => h) (Or.inl ⟨by rfl, ?_⟩) (by assumption) ?_
                  rotate_left
                  · (intro w hSw; (try dsimp only at hSw); go_simp); (try with_reducible rfl)
                  try simp only [Act.put, List.setIfInBounds_toArray, List.set_cons_zero, List.set_cons_succ]
                  refine wpAnyH_take (i := 5) (oi := { dst := some 138, op := Op.load 98 (Operand.tmp 137), type := 98, pos := "law.go:436", after := #[{ on := 4, ground := Ground.data }], guard := none }) (v := ?_) rfl (by kernel_rfl) (by kernel_rfl) (by kernel_rfl) (fun _ _ _ h => h) (Or.inl ⟨by rfl, ?_⟩) (by assumption) ?_
                  rotate_left
                  · (intro w hSw; (try dsimp only at hSw); go_simp); (try with_reducible rfl)
                  try simp only [Act.put, List.setIfInBounds_toArray, List.set_cons_zero, List.set_cons_succ]
                  refine wpAnyH_ready (rs := [1]) (by kernel_rfl) (by simp) ?_
                  refine (AllReadyH.cons (o := { dst := some 134, op := Op.call { callee := Callee.value (Operand.func 25), args := #[Operand.tmp 133], argTypes := #[48] }, type := 48, pos := "law.go:436", after := #[{ on := 0, ground := Ground.data }], guard := none }) rfl (fun K hK => ?_) AllReadyH.nil)
                  go_simp
                  refine (TP.out wzd (HUa.out.carry hbzd)).mono ?_
                  rintro e wz1 ⟨⟨u2, rfl, hu2⟩, hl2⟩
                  have hl := hl2
                  clear hl2
                  (try go_wp2_with fail)
                  have hbz1 := bthen hbzd hl
                  clear hl
                  refine hK.out _ _ ⟨cellb C0.out hbz1, cellb C1.out hbz1⟩ (fun hHeld1 => ?_)
                  clear hK K hHeld0
                  try simp only [Act.put, List.setIfInBounds_toArray, List.set_cons_zero, List.set_cons_succ]
                  refine wpAnyH_ready (rs := [6]) (by kernel_rfl) (by simp) ?_
                  refine (AllReadyH.cons (o := { dst := some 139, op := Op.call { callee := Callee.value (Operand.func 46), args := #[Operand.tmp 134, Operand.tmp 138], argTypes := #[48, 98] }, type := 53, pos := "law.go:436", after := #[{ on := 1, ground := Ground.data }, { on := 5, ground := Ground.data }, { on := 1, ground := Ground.chain }], guard := none }) rfl (fun K hK => ?_) AllReadyH.nil)
                  go_simp
                  refine (TI1.out u2 wz1 hu2).mono ?_
                  rintro e wz6 ⟨rfl, hl⟩
                  (try go_wp2_with fail)
                  have hbz6 := bthen hbz1 hl
                  have hu2 := hu2.carry hl
                  clear hl
                  refine hK.out _ _ ⟨cellb C0.out hbz6, cellb C1.out hbz6⟩ (fun hHeld2 => ?_)
                  clear hK K hHeld1
                  try simp only [Act.put, List.setIfInBounds_toArray, List.set_cons_zero, List.set_cons_succ]
                  refine wpAnyH_take (i := 7) (oi := { dst := some 132, op := Op.move (Operand.tmp 139), type := 53, pos := "law.go:436", after := #[{ on := 6, ground := Ground.data }], guard := none }) (v := ?_) rfl (by kernel_rfl) (by kernel_rfl) (by kernel_rfl) (fun _ _ _ h => h) (Or.inl ⟨by rfl, ?_⟩) (by assumption) ?_
                  rotate_left
                  · (intro w hSw; (try dsimp only at hSw); go_simp); (try with_reducible rfl)
                  try simp only [Act.put, List.setIfInBounds_toArray, List.set_cons_zero, List.set_cons_succ]
                  refine wpAnyH_take (i := 8) (oi := { dst := some 140, op := Op.extract (Operand.tmp 132) 0, type := 4, pos := "law.go:436", after := #[{ on := 7, ground := Ground.data }], guard := none }) (v := ?_) rfl (by kernel_rfl) (by kernel_rfl) (by kernel_rfl) (fun _ _ _ h => h) (Or.inl ⟨by rfl, ?_⟩) (by assumption) ?_
                  rotate_left
                  · (intro w hSw; (try dsimp only at hSw); go_simp); (try with_reducible rfl)
                  try simp only [Act.put, List.setIfInBounds_toArray, List.set_cons_zero, List.set_cons_succ]
                  refine wpAnyH_take (i := 9) (oi := { dst := some 141, op := Op.extract (Operand.tmp 132) 1, type := 28, pos := "law.go:436", after := #[{ on := 7, ground := Ground.data }, { on := 10, ground := Ground.gcOnly Departure.lateStores }], guard := none }) (v := ?_) rfl (by kernel_rfl) (by kernel_rfl) (by kernel_rfl) (fun _ _ _ h => h) (Or.inl ⟨by rfl, ?_⟩) (by assumption) ?_
                  rotate_left
                  · (intro w hSw; (try dsimp only at hSw); go_simp); (try with_reducible rfl)
                  try simp only [Act.put, List.setIfInBounds_toArray, List.set_cons_zero, List.set_cons_succ]
                  refine wpAnyH_take (i := 10) (oi := { dst := some 14, op := Op.assign (Operand.tmp 140), type := 4, pos := "law.go:436", after := #[{ on := 8, ground := Ground.data }, { on := 6, ground := Ground.chain }, { on := 0, ground := Ground.phase }, { on := 1, ground := Ground.phase }, { on := 2, ground := Ground.phase }, { on := 3, ground := Ground.phase }, { on := 4, ground := Ground.phase }, { on := 5, ground := Ground.phase }, { on := 6, ground := Ground.phase }, { on := 7, ground := Ground.phase }, { on := 8, ground := Ground.phase }, { on := 9, ground := Ground.textOnly Departure.lateStores }], guard := none }) (v := ?_) rfl (by kernel_rfl) (by kernel_rfl) (by kernel_rfl) (fun _ _ _ h => h) (Or.inl ⟨by rfl, ?_⟩) (by assumption) ?_
                  rotate_left
                  · (intro w hSw; (try dsimp only at hSw); go_simp); (try with_reducible rfl)
                  try simp only [Act.put, List.setIfInBounds_toArray, List.set_cons_zero, List.set_cons_succ]
                  refine wpAnyH_take (i := 11) (oi := { dst := some 15, op := Op.assign (Operand.tmp 141), type := 28, pos := "law.go:436", after := #[{ on := 9, ground := Ground.data }, { on := 10, ground := Ground.chain }, { on := 0, ground := Ground.phase }, { on := 1, ground := Ground.phase }, { on := 2, ground := Ground.phase }, { on := 3, ground := Ground.phase }, { on := 4, ground := Ground.phase }, { on := 5, ground := Ground.phase }, { on := 6, ground := Ground.phase }, { on := 7, ground := Ground.phase }, { on := 8, ground := Ground.phase }, { on := 9, ground := Ground.phase }, { on := 10, ground := Ground.phase }], guard := none }) (v := ?_) rfl (by kernel_rfl) (by kernel_rfl) (by kernel_rfl) (fun _ _ _ h => h) (Or.inl ⟨by rfl, ?_⟩) (by assumption) ?_
                  rotate_left
                  · (intro w hSw; (try dsimp only at hSw); go_simp); (try with_reducible rfl)
                  try simp only [Act.put, List.setIfInBounds_toArray, List.set_cons_zero, List.set_cons_succ]
                  refine wpAnyH_done (by kernel_rfl) ?_ _
                  clear hHeld2
                  clear hA
                  have hA := hbz6
                  obtain ⟨Y1, hY1⟩ : ∃ v, v = wz6 := ⟨_, rfl⟩
                  rw [← hY1] at hA ⊢
                  clear hY1 hu2
                  obtain ⟨j, hj⟩ : ∃ j, j = (k + 1 + nb % n) % n := ⟨_, rfl⟩
                  have hjn : j < n := by rw [hj]; exact Nat.mod_lt _ (by omega)
                  have d2 : (j : Int) < (n : Int) := by omega
                  have q1 := cellb Q1.out hA
                  have f0 : IntKind.i64.wrap b = b := IntWalk.i64_in _ (by omega)
                  have f1 : IntKind.i64.wrap (b + 128) = (nb : Int) := (IntWalk.i64_in _ (by omega)).trans HNB.out.symm
                  have f2 : (nb : Int).tmod (n : Int) = ((nb % n : Nat) : Int) := rfl
                  have f3 : ((k : Int) + 1 + ((nb % n : Nat) : Int)).tmod (n : Int) = (((k + 1 + nb % n) % n : Nat) : Int) := rfl
                  have f6 : nb % n < n := Nat.mod_lt _ (by omega)
                  have f4 : IntKind.i64.wrap ((k : Int) + 1) = (k : Int) + 1 := IntWalk.i64_in _ (by omega)
                  rw [← hj] at f3
                  generalize nb % n = nbn at f2 f3 f6 hj
                  have f5 : IntKind.i64.wrap ((k : Int) + 1 + (nbn : Int)) = (k : Int) + 1 + (nbn : Int) := IntWalk.i64_in _ (by omega)
                  have f7 : n ≠ 0 := by omega
                  clear hj
                  go_upto_region 16 with fail
                  clear f0 f1 f2 f3 f4 f5 f6 q1
                  obtain ⟨z0, z1, hz, hzk, c2, c3⟩ := HC.out j hjn
                  have HZ := Lib.hid hz
                  have C2 := Lib.hid c2
                  have C3 := Lib.hid c3
                  have py := HPT.out _ HY.out
                  have pz := HPT.out _ HZ.out
                  obtain ⟨⟨_, _⟩, _, _⟩ := py
                  obtain ⟨⟨_, _⟩, _, _⟩ := pz
                  simp only at *
                  obtain ⟨s0, hs0⟩ : ∃ s, s = y0 + z0 := ⟨_, rfl⟩
                  obtain ⟨s1, hs1⟩ : ∃ s, s = y1 + z1 := ⟨_, rfl⟩
                  have g0 : IntKind.i64.wrap (y0 + z0) = s0 := (IntWalk.i64_in _ (by omega)).trans hs0.symm
                  have g1' : IntKind.i64.wrap (y1 + z1) = s1 := (IntWalk.i64_in _ (by omega)).trans hs1.symm
                  have hs2 : -2000 ≤ s0 ∧ s0 ≤ 2000 := by omega
                  have hs3 : -2000 ≤ s1 ∧ s1 ≤ 2000 := by omega
                  have HS0 := Lib.hid hs0
                  have HS1 := Lib.hid hs1
                  clear hz hzk c2 c3 hs0 hs1
                  refine wp_region_held_drew (S := (fun W => W.cell? ⟨b2, o2 + k * 2, none⟩ = some (.int .i64 y0) ∧ W.cell? ⟨b2, o2 + k * 2 + 1, none⟩ = some (.int .i64 y1) ∧ W.cell? ⟨b2, o2 + j * 2, none⟩ = some (.int .i64 z0) ∧ W.cell? ⟨b2, o2 + j * 2 + 1, none⟩ = some (.int .i64 z1))) (by kernel_rfl) ⟨cellb C0.out hA.drew, cellb C1.out hA.drew, cellb C2.out hA.drew, cellb C3.out hA.drew⟩ (fun hHeld0 => ?_)
                  obtain ⟨wzd, hwz⟩ : ∃ v, v = Y1.drew := ⟨_, rfl⟩
                  rw [← hwz] at hHeld0 ⊢
                  have hbzd : Below Wa.heap.size Wa wzd := by rw [hwz]; exact hA.drew
                  have hlzd : Below Y1.heap.size Y1 wzd := by rw [hwz]; exact (Below.refl _ _).drew
                  clear hwz hlzd
                  refine wpAnyH_take (i := 0) (oi := { dst := some 155, op := Op.move (Operand.tmp 1), type := 48, pos := "law.go:438", after := #[], guard := none }) (v := ?_) rfl (by kernel_rfl) (by kernel_rfl) (by kernel_rfl) (fun _ _ _ h => h) (Or.inl ⟨by rfl, ?_⟩) (by assumption) ?_
                  rotate_left
                  · (intro w hSw; (try dsimp only at hSw); go_simp); (try with_reducible rfl)
                  try simp only [Act.put, List.setIfInBounds_toArray, List.set_cons_zero, List.set_cons_succ]
                  refine wpAnyH_take (i := 1) (oi := { dst := some 156, op := Op.move (Operand.tmp 12), type := 3, pos := "law.go:438", after := #[], guard := none }) (v := ?_) rfl (by kernel_rfl) (by kernel_rfl) (by kernel_rfl) (fun _ _ _ h => h) (Or.inl ⟨by rfl, ?_⟩) (by assumption) ?_
                  rotate_left
                  · (intro w hSw; (try dsimp only at hSw); go_simp); (try with_reducible rfl)
                  try simp only [Act.put, List.setIfInBounds_toArray, List.set_cons_zero, List.set_cons_succ]
                  refine wpAnyH_take (i := 2) (oi := { dst := some 157, op := Op.indexAddr 48 (Operand.tmp 155) (Operand.tmp 156), type := 0, pos := "law.go:438", after := #[{ on := 0, ground := Ground.data }, { on := 1, ground := Ground.data }], guard := none }) (v := ?_) rfl (by kernel_rfl) (by kernel_rfl) (by kernel_rfl) (fun _ _ _ h => h) (Or.inl ⟨by rfl, ?_⟩) (by assumption) ?_
                  rotate_left
                  · (intro w hSw; (try dsimp only at hSw); go_simp); (try with_reducible rfl)
                  try simp only [Act.put, List.setIfInBounds_toArray, List.set_cons_zero, List.set_cons_succ]
                  refine wpAnyH_take (i := 3) (oi := { dst := some 158, op := Op.fieldAddr 98 (Operand.tmp 157) 0, type := 0, pos := "law.go:438", after := #[{ on := 2, ground := Ground.data }], guard := none }) (v := ?_) rfl (by kernel_rfl) (by kernel_rfl) (by kernel_rfl) (fun _ _ _ h => h) (Or.inl ⟨by rfl, ?_⟩) (by assumption) ?_
                  rotate_left
                  · (intro w hSw; (try dsimp only at hSw); go_simp); (try with_reducible rfl)
                  try simp only [Act.put, List.setIfInBounds_toArray, List.set_cons_zero, List.set_cons_succ]
                  refine wpAnyH_take (i := 4) (oi := { dst := some 159, op := Op.load 3 (Operand.tmp 158), type := 3, pos := "law.go:438", after := #[{ on := 3, ground := Ground.data }], guard := none }) (v := ?_) rfl (by kernel_rfl) (by kernel_rfl) (by kernel_rfl) (fun _ _ _ h => h) (Or.inl ⟨by rfl, ?_⟩) (by assumption) ?_
                  rotate_left
                  · (intro w hSw; (try dsimp only at hSw); go_simp); (try with_reducible rfl)
                  try simp only [Act.put, List.setIfInBounds_toArray, List.set_cons_zero, List.set_cons_succ]
                  refine wpAnyH_take (i := 5) (oi := { dst := some 160, op := Op.move (Operand.tmp 1), type := 48, pos := "law.go:438", after := #[], guard := none }) (v := ?_) rfl (by kernel_rfl) (by kernel_rfl) (by kernel_rfl) (fun _ _ _ h => h) (Or.inl ⟨by rfl, ?_⟩) (by assumption) ?_
                  rotate_left
                  · (intro w hSw; (try dsimp only at hSw); go_simp); (try with_reducible rfl)
                  try simp only [Act.put, List.setIfInBounds_toArray, List.set_cons_zero, List.set_cons_succ]
                  refine wpAnyH_take (i := 6) (oi := { dst := some 161, op := Op.move (Operand.tmp 16), type := 3, pos := "law.go:438", after := #[], guard := none }) (v := ?_) rfl (by kernel_rfl) (by kernel_rfl) (by kernel_rfl) (fun _ _ _ h => h) (Or.inl ⟨by rfl, ?_⟩) (by assumption) ?_
                  rotate_left
                  · (intro w hSw; (try dsimp only at hSw); go_simp); (try with_reducible rfl)
                  try simp only [Act.put, List.setIfInBounds_toArray, List.set_cons_zero, List.set_cons_succ]
                  refine wpAnyH_take (i := 7) (oi := { dst := some 162, op := Op.indexAddr 48 (Operand.tmp 160) (Operand.tmp 161), type := 0, pos := "law.go:438", after := #[{ on := 5, ground := Ground.data }, { on := 6, ground := Ground.data }], guard := none }) (v := ?_) rfl (by kernel_rfl) (by kernel_rfl) (by kernel_rfl) (fun _ _ _ h => h) (Or.inl ⟨by rfl, ?_⟩) (by assumption) ?_
                  rotate_left
                  · (intro w hSw; (try dsimp only at hSw); go_simp); (try with_reducible rfl)
                  try simp only [Act.put, List.setIfInBounds_toArray, List.set_cons_zero, List.set_cons_succ]
                  refine wpAnyH_take (i := 8) (oi := { dst := some 163, op := Op.fieldAddr 98 (Operand.tmp 162) 0, type := 0, pos := "law.go:438", after := #[{ on := 7, ground := Ground.data }], guard := none }) (v := ?_) rfl (by kernel_rfl) (by kernel_rfl) (by kernel_rfl) (fun _ _ _ h => h) (Or.inl ⟨by rfl, ?_⟩) (by assumption) ?_
                  rotate_left
                  · (intro w hSw; (try dsimp only at hSw); go_simp); (try with_reducible rfl)
                  try simp only [Act.put, List.setIfInBounds_toArray, List.set_cons_zero, List.set_cons_succ]
                  refine wpAnyH_take (i := 9) (oi := { dst := some 164, op := Op.load 3 (Operand.tmp 163), type := 3, pos := "law.go:438", after := #[{ on := 8, ground := Ground.data }], guard := none }) (v := ?_) rfl (by kernel_rfl) (by kernel_rfl) (by kernel_rfl) (fun _ _ _ h => h) (Or.inl ⟨by rfl, ?_⟩) (by assumption) ?_
                  rotate_left
                  · (intro w hSw; (try dsimp only at hSw); go_simp); (try with_reducible rfl)
                  try simp only [Act.put, List.setIfInBounds_toArray, List.set_cons_zero, List.set_cons_succ]
                  refine wpAnyH_take (i := 10) (oi := { dst := some 165, op := Op.binOp BinOp.add 3 (Operand.tmp 159) (Operand.tmp 164) 3, type := 3, pos := "law.go:438", after := #[{ on := 4, ground := Ground.data }, { on := 9, ground := Ground.data }], guard := none }) (v := ?_) rfl (by kernel_rfl) (by kernel_rfl) (by kernel_rfl) (fun _ _ _ h => h) (Or.inl ⟨by rfl, ?_⟩) (by assumption) ?_
                  rotate_left
                  · (intro w hSw; (try dsimp only at hSw); go_simp); (try with_reducible rfl)
                  try simp only [Act.put, List.setIfInBounds_toArray, List.set_cons_zero, List.set_cons_succ]
                  refine wpAnyH_take (i := 11) (oi := { dst := some 166, op := Op.move (Operand.tmp 1), type := 48, pos := "law.go:438", after := #[], guard := none }) (v := ?_) rfl (by kernel_rfl) (by kernel_rfl) (by kernel_rfl) (fun _ _ _ h => h) (Or.inl ⟨by rfl, ?_⟩) (by assumption) ?_
                  rotate_left
                  · (intro w hSw; (try dsimp only at hSw); go_simp); (try with_reducible rfl)
                  try simp only [Act.put, List.setIfInBounds_toArray, List.set_cons_zero, List.set_cons_succ]
                  refine wpAnyH_take (i := 12) (oi := { dst := some 167, op := Op.move (Operand.tmp 12), type := 3, pos := "law.go:438", after := #[], guard := none }) (v := ?_) rfl (by kernel_rfl) (by kernel_rfl) (by kernel_rfl) (fun _ _ _ h => h) (Or.inl ⟨by rfl, ?_⟩) (by assumption) ?_
                  rotate_left
                  · (intro w hSw; (try dsimp only at hSw); go_simp); (try with_reducible rfl)
                  try simp only [Act.put, List.setIfInBounds_toArray, List.set_cons_zero, List.set_cons_succ]
                  refine wpAnyH_take (i := 13) (oi := { dst := some 168, op := Op.indexAddr 48 (Operand.tmp 166) (Operand.tmp 167), type := 0, pos := "law.go:438", after := #[{ on := 11, ground := Ground.data }, { on := 12, ground := Ground.data }], guard := none }) (v := ?_) rfl (by kernel_rfl) (by kernel_rfl) (by kernel_rfl) (fun _ _ _ h => h) (Or.inl ⟨by rfl, ?_⟩) (by assumption) ?_
                  rotate_left
                  · (intro w hSw; (try dsimp only at hSw); go_simp); (try with_reducible rfl)
                  try simp only [Act.put, List.setIfInBounds_toArray, List.set_cons_zero, List.set_cons_succ]
                  refine wpAnyH_take (i := 14) (oi := { dst := some 169, op := Op.fieldAddr 98 (Operand.tmp 168) 1, type := 0, pos := "law.go:438", after := #[{ on := 13, ground := Ground.data }], guard := none }) (v := ?_) rfl (by kernel_rfl) (by kernel_rfl) (by kernel_rfl) (fun _ _ _ h => h) (Or.inl ⟨by rfl, ?_⟩) (by assumption) ?_
                  rotate_left
                  · (intro w hSw; (try dsimp only at hSw); go_simp); (try with_reducible rfl)
                  try simp only [Act.put, List.setIfInBounds_toArray, List.set_cons_zero, List.set_cons_succ]
                  refine wpAnyH_take (i := 15) (oi := { dst := some 170, op := Op.load 3 (Operand.tmp 169), type := 3, pos := "law.go:438", after := #[{ on := 14, ground := Ground.data }], guard := none }) (v := ?_) rfl (by kernel_rfl) (by kernel_rfl) (by kernel_rfl) (fun _ _ _ h => h) (Or.inl ⟨by rfl, ?_⟩) (by assumption) ?_
                  rotate_left
                  · (intro w hSw; (try dsimp only at hSw); go_simp); (try with_reducible rfl)
                  try simp only [Act.put, List.setIfInBounds_toArray, List.set_cons_zero, List.set_cons_succ]
                  refine wpAnyH_take (i := 16) (oi := { dst := some 171, op := Op.move (Operand.tmp 1), type := 48, pos := "law.go:438", after := #[], guard := none }) (v := ?_) rfl (by kernel_rfl) (by kernel_rfl) (by kernel_rfl) (fun _ _ _ h => h) (Or.inl ⟨by rfl, ?_⟩) (by assumption) ?_
                  rotate_left
                  · (intro w hSw; (try dsimp only at hSw); go_simp); (try with_reducible rfl)
                  try simp only [Act.put, List.setIfInBounds_toArray, List.set_cons_zero, List.set_cons_succ]
                  refine wpAnyH_take (i := 17) (oi := { dst := some 172, op := Op.move (Operand.tmp 16), type := 3, pos := "law.go:438", after := #[], guard := none }) (v := ?_) rfl (by kernel_rfl) (by kernel_rfl) (by kernel_rfl) (fun _ _ _ h => h) (Or.inl ⟨by rfl, ?_⟩) (by assumption) ?_
                  rotate_left
                  · (intro w hSw; (try dsimp only at hSw); go_simp); (try with_reducible rfl)
                  try simp only [Act.put, List.setIfInBounds_toArray, List.set_cons_zero, List.set_cons_succ]
                  refine wpAnyH_take (i := 18) (oi := { dst := some 173, op := Op.indexAddr 48 (Operand.tmp 171) (Operand.tmp 172), type := 0, pos := "law.go:438", after := #[{ on := 16, ground := Ground.data }, { on := 17, ground := Ground.data }], guard := none }) (v := ?_) rfl (by kernel_rfl) (by kernel_rfl) (by kernel_rfl) (fun _ _ _ h => h) (Or.inl ⟨by rfl, ?_⟩) (by assumption) ?_
                  rotate_left
                  · (intro w hSw; (try dsimp only at hSw); go_simp); (try with_reducible rfl)
                  try simp only [Act.put, List.setIfInBounds_toArray, List.set_cons_zero, List.set_cons_succ]
                  refine wpAnyH_take (i := 19) (oi := { dst := some 174, op := Op.fieldAddr 98 (Operand.tmp 173) 1, type := 0, pos := "law.go:438", after := #[{ on := 18, ground := Ground.data }], guard := none }) (v := ?_) rfl (by kernel_rfl) (by kernel_rfl) (by kernel_rfl) (fun _ _ _ h => h) (Or.inl ⟨by rfl, ?_⟩) (by assumption) ?_
                  rotate_left
                  · (intro w hSw; (try dsimp only at hSw); go_simp); (try with_reducible rfl)
                  try simp only [Act.put, List.setIfInBounds_toArray, List.set_cons_zero, List.set_cons_succ]
                  refine wpAnyH_take (i := 20) (oi := { dst := some 175, op := Op.load 3 (Operand.tmp 174), type := 3, pos := "law.go:438", after := #[{ on := 19, ground := Ground.data }], guard := none }) (v := ?_) rfl (by kernel_rfl) (by kernel_rfl) (by kernel_rfl) (fun _ _ _ h => h) (Or.inl ⟨by rfl, ?_⟩) (by assumption) ?_
                  rotate_left
                  · (intro w hSw; (try dsimp only at hSw); go_simp); (try with_reducible rfl)
                  try simp only [Act.put, List.setIfInBounds_toArray, List.set_cons_zero, List.set_cons_succ]
                  refine wpAnyH_take (i := 21) (oi := { dst := some 176, op := Op.binOp BinOp.add 3 (Operand.tmp 170) (Operand.tmp 175) 3, type := 3, pos := "law.go:438", after := #[{ on := 15, ground := Ground.data }, { on := 20, ground := Ground.data }], guard := none }) (v := ?_) rfl (by kernel_rfl) (by kernel_rfl) (by kernel_rfl) (fun _ _ _ h => h) (Or.inl ⟨by rfl, ?_⟩) (by assumption) ?_
                  rotate_left
                  · (intro w hSw; (try dsimp only at hSw); go_simp); (try with_reducible rfl)
                  try simp only [Act.put, List.setIfInBounds_toArray, List.set_cons_zero, List.set_cons_succ]
                  refine wpAnyH_take (i := 22) (oi := { dst := some 177, op := Op.build 98 #[(0, Operand.tmp 165), (1, Operand.tmp 176)], type := 98, pos := "law.go:438", after := #[{ on := 10, ground := Ground.data }, { on := 21, ground := Ground.data }], guard := none }) (v := ?_) rfl (by kernel_rfl) (by kernel_rfl) (by kernel_rfl) (fun _ _ _ h => h) (Or.inl ⟨by rfl, ?_⟩) (by assumption) ?_
                  rotate_left
                  · (intro w hSw; (try dsimp only at hSw); go_simp); (try with_reducible rfl)
                  try simp only [Act.put, List.setIfInBounds_toArray, List.set_cons_zero, List.set_cons_succ]
                  refine wpAnyH_ready (rs := [23]) (by kernel_rfl) (by simp) ?_
                  refine (AllReadyH.cons (o := { dst := some 17, op := Op.alloc 98, type := 0, pos := "law.go:438", after := #[], guard := none }) rfl (fun K hK => ?_) AllReadyH.nil)
                  go_simp
                  obtain ⟨wz23, hwz⟩ : ∃ v, v = wzd.alloc (Obj.cells #[.int .i64 0, .int .i64 0] 98) := ⟨_, rfl⟩
                  rw [← hwz]
                  have hl : Below wzd.heap.size wzd wz23 := by rw [hwz]; exact below_new _ _
                  have hbz23 := bthen hbzd hl
                  have iN : BlkI wz23 wzd.heap.size 98 (List.replicate 2 0) := by rw [hwz]; exact Blk.new _ _ _
                  have hG : Wa.heap.size ≤ wzd.heap.size := (hbzd).size
                  generalize wzd.heap.size = G17 at iN hG ⊢
                  clear hwz
                  clear hl
                  refine hK.out _ _ ⟨cellb C0.out hbz23, cellb C1.out hbz23, cellb C2.out hbz23, cellb C3.out hbz23⟩ (fun hHeld1 => ?_)
                  clear hK K hHeld0
                  try simp only [Act.put, List.setIfInBounds_toArray, List.set_cons_zero, List.set_cons_succ]
                  refine wpAnyH_ready (rs := [24]) (by kernel_rfl) (by simp) ?_
                  refine (AllReadyH.cons (o := { dst := none, op := Op.store 98 (Operand.tmp 17) (Operand.tmp 177), type := 0, pos := "law.go:438", after := #[{ on := 23, ground := Ground.data }, { on := 22, ground := Ground.data }, { on := 0, ground := Ground.phase }, { on := 1, ground := Ground.phase }, { on := 2, ground := Ground.phase }, { on := 3, ground := Ground.phase }, { on := 4, ground := Ground.phase }, { on := 5, ground := Ground.phase }, { on := 6, ground := Ground.phase }, { on := 7, ground := Ground.phase }, { on := 8, ground := Ground.phase }, { on := 9, ground := Ground.phase }, { on := 10, ground := Ground.phase }, { on := 11, ground := Ground.phase }, { on := 12, ground := Ground.phase }, { on := 13, ground := Ground.phase }, { on := 14, ground := Ground.phase }, { on := 15, ground := Ground.phase }, { on := 16, ground := Ground.phase }, { on := 17, ground := Ground.phase }, { on := 18, ground := Ground.phase }, { on := 19, ground := Ground.phase }, { on := 20, ground := Ground.phase }, { on := 21, ground := Ground.phase }, { on := 22, ground := Ground.phase }, { on := 23, ground := Ground.phase }], guard := none }) rfl (fun K hK => ?_) AllReadyH.nil)
                  refine wp_storeA _ _ _ rfl G17 [s0, s1] (List.replicate 2 0) rfl rfl iN rfl Tryz.infoGauss ?_
                  obtain ⟨wz24, hwz⟩ : ∃ v, v = World.setRow wz23 G17 (ia [s0, s1]) := ⟨_, rfl⟩
                  rw [← hwz]
                  have hbz24 : Below Wa.heap.size Wa wz24 := by rw [hwz]; exact below_rowA hbz23 hG _
                  replace iN := BlkI.setRowA iN [s0, s1]
                  rw [← hwz] at iN
                  clear hwz
                  refine hK.out _ _ ⟨cellb C0.out hbz24, cellb C1.out hbz24, cellb C2.out hbz24, cellb C3.out hbz24⟩ (fun hHeld2 => ?_)
                  clear hK K hHeld1
                  try simp only [Act.put, List.setIfInBounds_toArray, List.set_cons_zero, List.set_cons_succ]
                  refine wpAnyH_done (by kernel_rfl) ?_ _
                  clear hHeld2
                  clear hA
                  have hA := hbz24
                  have m0 : World.cell? wz24 ⟨G17, 0, none⟩ = some (.int .i64 s0) := BlkI.cell iN (j := 0) (by simp)
                  have m1 : World.cell? wz24 ⟨G17, 1, none⟩ = some (.int .i64 s1) := BlkI.cell iN (j := 1) (by simp)
                  obtain ⟨Y2, hY2⟩ : ∃ v, v = wz24 := ⟨_, rfl⟩
                  rw [← hY2] at hA m0 m1 ⊢
                  clear hY2 iN
                  clear g0 g1'
                  by_cases ev0 : s0.tmod 2 = 0
                  · have hev0 : (s0.tmod 2 == 0) = true := by rw [ev0]; rfl
                    by_cases ev1 : s1.tmod 2 = 0
                    · have hev1 : (s1.tmod 2 == 0) = true := by rw [ev1]; rfl
                      obtain ⟨m0v, k0, t0⟩ := half_facts ev0 hs2
                      obtain ⟨m1v, k1, t1⟩ := half_facts ev1 hs3
                      have TI2 := Lib.hid (TIm.out (y0, y1) (z0, z1) (m0v, m1v) HY.out HZ.out (by simp only; rw [k0]; exact HS0.out) (by simp only; rw [k1]; exact HS1.out))
                      simp only at TI2
                      clear k0 k1 ev0 ev1
                      go_upto_region 20 with fail
                      clear hev0 hev1
                      have M0 := Lib.hid m0
                      have M1 := Lib.hid m1
                      have hR := Below.refl Y2.heap.size Y2
                      clear m0 m1
                      refine wp_region_held_drew (S := (fun W => W.cell? ⟨G17, 0, none⟩ = some (.int .i64 s0) ∧ W.cell? ⟨G17, 1, none⟩ = some (.int .i64 s1))) (by kernel_rfl) ⟨cellb M0.out hR.drew, cellb M1.out hR.drew⟩ (fun hHeld0 => ?_)
                      obtain ⟨wzd, hwz⟩ : ∃ v, v = Y2.drew := ⟨_, rfl⟩
                      rw [← hwz] at hHeld0 ⊢
                      have hbzd : Below Y2.heap.size Y2 wzd := by rw [hwz]; exact hR.drew
                      have hlzd : Below Y2.heap.size Y2 wzd := by rw [hwz]; exact (Below.refl _ _).drew
                      clear hwz hlzd
                      refine wpAnyH_take (i := 0) (oi := { dst := some 195, op := Op.move (Operand.tmp 1), type := 48, pos := "law.go:443", after := #[], guard := none }) (v := ?_) rfl (by kernel_rfl) (by kernel_rfl) (by kernel_rfl) (fun _ _ _ h => h) (Or.inl ⟨by rfl, ?_⟩) (by assumption) ?_
                      rotate_left
                      · (intro w hSw; (try dsimp only at hSw); go_simp); (try with_reducible rfl)
                      try simp only [Act.put, List.setIfInBounds_toArray, List.set_cons_zero, List.set_cons_succ]
                      refine wpAnyH_take (i := 2) (oi := { dst := some 197, op := Op.fieldAddr 98 (Operand.tmp 17) 0, type := 0, pos := "law.go:443", after := #[], guard := none }) (v := ?_) rfl (by kernel_rfl) (by kernel_rfl) (by kernel_rfl) (fun _ _ _ h => h) (Or.inl ⟨by rfl, ?_⟩) (by assumption) ?_
                      rotate_left
                      · (intro w hSw; (try dsimp only at hSw); go_simp); (try with_reducible rfl)
                      try simp only [Act.put, List.setIfInBounds_toArray, List.set_cons_zero, List.set_cons_succ]
                      refine wpAnyH_take (i := 3) (oi := { dst := some 198, op := Op.load 3 (Operand.tmp 197), type := 3, pos := "law.go:443", after := #[{ on := 2, ground := Ground.data }], guard := none }) (v := ?_) rfl (by kernel_rfl) (by kernel_rfl) (by kernel_rfl) (fun _ _ _ h => h) (Or.inl ⟨by rfl, ?_⟩) (by assumption) ?_
                      rotate_left
                      · (intro w hSw; (try dsimp only at hSw); go_simp); (try with_reducible rfl)
                      try simp only [Act.put, List.setIfInBounds_toArray, List.set_cons_zero, List.set_cons_succ]
                      refine wpAnyH_take (i := 4) (oi := { dst := some 199, op := Op.binOp BinOp.quo 3 (Operand.tmp 198) (Operand.const (Value.int IntKind.i64 2)) 3, type := 3, pos := "law.go:443", after := #[{ on := 3, ground := Ground.data }], guard := none }) (v := ?_) rfl (by kernel_rfl) (by kernel_rfl) (by kernel_rfl) (fun _ _ _ h => h) (Or.inl ⟨by rfl, ?_⟩) (by assumption) ?_
                      rotate_left
                      · (intro w hSw; (try dsimp only at hSw); go_simp); (try with_reducible rfl)
                      try simp only [Act.put, List.setIfInBounds_toArray, List.set_cons_zero, List.set_cons_succ]
                      refine wpAnyH_take (i := 5) (oi := { dst := some 200, op := Op.fieldAddr 98 (Operand.tmp 17) 1, type := 0, pos := "law.go:443", after := #[], guard := none }) (v := ?_) rfl (by kernel_rfl) (by kernel_rfl) (by kernel_rfl) (fun _ _ _ h => h) (Or.inl ⟨by rfl, ?_⟩) (by assumption) ?_
                      rotate_left
                      · (intro w hSw; (try dsimp only at hSw); go_simp); (try with_reducible rfl)
                      try simp only [Act.put, List.setIfInBounds_toArray, List.set_cons_zero, List.set_cons_succ]
                      refine wpAnyH_take (i := 6) (oi := { dst := some 201, op := Op.load 3 (Operand.tmp 200), type := 3, pos := "law.go:443", after := #[{ on := 5, ground := Ground.data }], guard := none }) (v := ?_) rfl (by kernel_rfl) (by kernel_rfl) (by kernel_rfl) (fun _ _ _ h => h) (Or.inl ⟨by rfl, ?_⟩) (by assumption) ?_
                      rotate_left
                      · (intro w hSw; (try dsimp only at hSw); go_simp); (try with_reducible rfl)
                      try simp only [Act.put, List.setIfInBounds_toArray, List.set_cons_zero, List.set_cons_succ]
                      refine wpAnyH_take (i := 7) (oi := { dst := some 202, op := Op.binOp BinOp.quo 3 (Operand.tmp 201) (Operand.const (Value.int IntKind.i64 2)) 3, type := 3, pos := "law.go:443", after := #[{ on := 6, ground := Ground.data }], guard := none }) (v := ?_) rfl (by kernel_rfl) (by kernel_rfl) (by kernel_rfl) (fun _ _ _ h => h) (Or.inl ⟨by rfl, ?_⟩) (by assumption) ?_
                      rotate_left
                      · (intro w hSw; (try dsimp only at hSw); go_simp); (try with_reducible rfl)
                      try simp only [Act.put, List.setIfInBounds_toArray, List.set_cons_zero, List.set_cons_succ]
                      refine wpAnyH_take (i := 8) (oi := { dst := some 203, op := Op.build 98 #[(0, Operand.tmp 199), (1, Operand.tmp 202)], type := 98, pos := "law.go:443", after := #[{ on := 4, ground := Ground.data }, { on := 7, ground := Ground.data }], guard := none }) (v := ?_) rfl (by kernel_rfl) (by kernel_rfl) (by kernel_rfl) (fun _ _ _ h => h) (Or.inl ⟨by rfl, ?_⟩) (by assumption) ?_
                      rotate_left
                      · (intro w hSw; (try dsimp only at hSw); go_simp); (try with_reducible rfl)
                      try simp only [Act.put, List.setIfInBounds_toArray, List.set_cons_zero, List.set_cons_succ]
                      refine wpAnyH_ready (rs := [1]) (by kernel_rfl) (by simp) ?_
                      refine (AllReadyH.cons (o := { dst := some 196, op := Op.call { callee := Callee.value (Operand.func 25), args := #[Operand.tmp 195], argTypes := #[48] }, type := 48, pos := "law.go:443", after := #[{ on := 0, ground := Ground.data }], guard := none }) rfl (fun K hK => ?_) AllReadyH.nil)
                      go_simp
                      refine (TP.out wzd (HUa.out.carry (bthen hA hbzd))).mono ?_
                      rintro e wz1 ⟨⟨u2, rfl, hu2⟩, hl2⟩
                      have hl := hl2
                      clear hl2
                      (try go_wp2_with fail)
                      have hbz1 := bthen hbzd hl
                      clear hl
                      refine hK.out _ _ ⟨cellb M0.out hbz1, cellb M1.out hbz1⟩ (fun hHeld1 => ?_)
                      clear hK K hHeld0
                      try simp only [Act.put, List.setIfInBounds_toArray, List.set_cons_zero, List.set_cons_succ]
                      refine wpAnyH_ready (rs := [9]) (by kernel_rfl) (by simp) ?_
                      refine (AllReadyH.cons (o := { dst := some 204, op := Op.call { callee := Callee.value (Operand.func 46), args := #[Operand.tmp 196, Operand.tmp 203], argTypes := #[48, 98] }, type := 53, pos := "law.go:443", after := #[{ on := 1, ground := Ground.data }, { on := 8, ground := Ground.data }, { on := 1, ground := Ground.chain }], guard := none }) rfl (fun K hK => ?_) AllReadyH.nil)
                      go_simp
                      refine (TI2.out u2 wz1 hu2).mono ?_
                      rintro e wz9 ⟨rfl, hl⟩
                      (try go_wp2_with fail)
                      have hbz9 := bthen hbz1 hl
                      have hu2 := hu2.carry hl
                      clear hl
                      refine hK.out _ _ ⟨cellb M0.out hbz9, cellb M1.out hbz9⟩ (fun hHeld2 => ?_)
                      clear hK K hHeld1
                      try simp only [Act.put, List.setIfInBounds_toArray, List.set_cons_zero, List.set_cons_succ]
                      refine wpAnyH_take (i := 10) (oi := { dst := some 194, op := Op.move (Operand.tmp 204), type := 53, pos := "law.go:443", after := #[{ on := 9, ground := Ground.data }], guard := none }) (v := ?_) rfl (by kernel_rfl) (by kernel_rfl) (by kernel_rfl) (fun _ _ _ h => h) (Or.inl ⟨by rfl, ?_⟩) (by assumption) ?_
                      rotate_left
                      · (intro w hSw; (try dsimp only at hSw); go_simp); (try with_reducible rfl)
                      try simp only [Act.put, List.setIfInBounds_toArray, List.set_cons_zero, List.set_cons_succ]
                      refine wpAnyH_take (i := 11) (oi := { dst := some 205, op := Op.extract (Operand.tmp 194) 0, type := 4, pos := "law.go:443", after := #[{ on := 10, ground := Ground.data }], guard := none }) (v := ?_) rfl (by kernel_rfl) (by kernel_rfl) (by kernel_rfl) (fun _ _ _ h => h) (Or.inl ⟨by rfl, ?_⟩) (by assumption) ?_
                      rotate_left
                      · (intro w hSw; (try dsimp only at hSw); go_simp); (try with_reducible rfl)
                      try simp only [Act.put, List.setIfInBounds_toArray, List.set_cons_zero, List.set_cons_succ]
                      refine wpAnyH_take (i := 12) (oi := { dst := some 206, op := Op.extract (Operand.tmp 194) 1, type := 28, pos := "law.go:443", after := #[{ on := 10, ground := Ground.data }, { on := 13, ground := Ground.gcOnly Departure.lateStores }], guard := none }) (v := ?_) rfl (by kernel_rfl) (by kernel_rfl) (by kernel_rfl) (fun _ _ _ h => h) (Or.inl ⟨by rfl, ?_⟩) (by assumption) ?_
                      rotate_left
                      · (intro w hSw; (try dsimp only at hSw); go_simp); (try with_reducible rfl)
                      try simp only [Act.put, List.setIfInBounds_toArray, List.set_cons_zero, List.set_cons_succ]
                      refine wpAnyH_take (i := 13) (oi := { dst := some 18, op := Op.assign (Operand.tmp 205), type := 4, pos := "law.go:443", after := #[{ on := 11, ground := Ground.data }, { on := 9, ground := Ground.chain }, { on := 0, ground := Ground.phase }, { on := 1, ground := Ground.phase }, { on := 2, ground := Ground.phase }, { on := 3, ground := Ground.phase }, { on := 4, ground := Ground.phase }, { on := 5, ground := Ground.phase }, { on := 6, ground := Ground.phase }, { on := 7, ground := Ground.phase }, { on := 8, ground := Ground.phase }, { on := 9, ground := Ground.phase }, { on := 10, ground := Ground.phase }, { on := 11, ground := Ground.phase }, { on := 12, ground := Ground.textOnly Departure.lateStores }], guard := none }) (v := ?_) rfl (by kernel_rfl) (by kernel_rfl) (by kernel_rfl) (fun _ _ _ h => h) (Or.inl ⟨by rfl, ?_⟩) (by assumption) ?_
                      rotate_left
                      · (intro w hSw; (try dsimp only at hSw); go_simp); (try with_reducible rfl)
                      try simp only [Act.put, List.setIfInBounds_toArray, List.set_cons_zero, List.set_cons_succ]
                      refine wpAnyH_take (i := 14) (oi := { dst := some 19, op := Op.assign (Operand.tmp 206), type := 28, pos := "law.go:443", after := #[{ on := 12, ground := Ground.data }, { on := 13, ground := Ground.chain }, { on := 0, ground := Ground.phase }, { on := 1, ground := Ground.phase }, { on := 2, ground := Ground.phase }, { on := 3, ground := Ground.phase }, { on := 4, ground := Ground.phase }, { on := 5, ground := Ground.phase }, { on := 6, ground := Ground.phase }, { on := 7, ground := Ground.phase }, { on := 8, ground := Ground.phase }, { on := 9, ground := Ground.phase }, { on := 10, ground := Ground.phase }, { on := 11, ground := Ground.phase }, { on := 12, ground := Ground.phase }, { on := 13, ground := Ground.phase }], guard := none }) (v := ?_) rfl (by kernel_rfl) (by kernel_rfl) (by kernel_rfl) (fun _ _ _ h => h) (Or.inl ⟨by rfl, ?_⟩) (by assumption) ?_
                      rotate_left
                      · (intro w hSw; (try dsimp only at hSw); go_simp); (try with_reducible rfl)
                      try simp only [Act.put, List.setIfInBounds_toArray, List.set_cons_zero, List.set_cons_succ]
                      refine wpAnyH_done (by kernel_rfl) ?_ _
                      clear hHeld2
                      replace hA := bthen hA hbz9
                      obtain ⟨Y3, hY3⟩ : ∃ v, v = wz9 := ⟨_, rfl⟩
                      rw [← hY3] at hA ⊢
                      clear hY3 hu2 t0 t1
                      go_wp2_with fail
                      go_roundw
                      case rel => exact ⟨k + 1, by omega, by go_num, hA⟩
                      case measure => simp [intOf]; omega
                    · have hev1 : (s1.tmod 2 == 0) = false := by rw [beq_eq_false_iff_ne]; exact ev1
                      clear ev0 ev1
                      go_wp2_with fail
                      go_roundw
                      case rel => exact ⟨k + 1, by omega, by go_num, hA⟩
                      case measure => simp [intOf]; omega
                  · have hev0 : (s0.tmod 2 == 0) = false := by rw [beq_eq_false_iff_ne]; exact ev0
                    clear ev0
                    go_wp2_with fail
                    go_roundw
                    case rel => exact ⟨k + 1, by omega, by go_num, hA⟩
                    case measure => simp [intOf]; omega
              · obtain rfl : n = k := by omega
                clear TC TIc TIm hk hlt
                have q2 := cellb Q2.out hA
                have q3 := cellb Q3.out hA
                have e2 : IntKind.i64.wrap c = c := IntWalk.i64_in _ (by omega)
                have e3 : IntKind.i64.wrap d = d := IntWalk.i64_in _ (by omega)
                go_upto_region 25 with (refine wpList_storeA rfl _ _ _ rfl wr.heap.size [c, d] (List.replicate 2 0) rfl rfl (BlkI.new wr 98 (List.replicate 2 0)) rfl Tryz.infoGauss ?_)
                obtain ⟨V1, hV1⟩ : ∃ v, v = World.setRow (World.alloc wr (Obj.cells #[.int .i64 0, .int .i64 0] 98)) wr.heap.size (ia ([c, d])) := ⟨_, rfl⟩
                have kV1 : Below wr.heap.size wr V1 := by rw [hV1]; exact zrow_below _ _ _ _
                have iV1 : BlkI V1 wr.heap.size 98 ([c, d]) := by rw [hV1]; exact zrow_blk wr _ (List.replicate 2 0) _
                rw [← hV1]
                clear hV1
                replace hA := bthen hA kV1
                have i20 := iV1
                obtain ⟨G20, hG⟩ : ∃ G, G = wr.heap.size := ⟨_, rfl⟩
                rw [← hG] at i20 ⊢
                clear kV1 iV1 hG q2 q3 e2 e3
                have r0 : V1.cell? ⟨G20, 0, none⟩ = some (.int .i64 c) := BlkI.cell i20 (j := 0) (by simp)
                have r1 : V1.cell? ⟨G20, 1, none⟩ = some (.int .i64 d) := BlkI.cell i20 (j := 1) (by simp)
                have hne := fun W => neqGauss c d W
                obtain ⟨dz, hdz⟩ : ∃ z, z = !(c == 0 && d == 0) := ⟨_, rfl⟩
                rw [← hdz] at hne
                have HDZ := Lib.hid hdz
                clear hdz
                go_upto_if 223 with fail
                clear hne
                have HBE := Lib.hid i20
                go_cut [] from 224 to 279 (fun wn => Below Wa.heap.size Wa wn)
                case first =>
                  cases dz
                  · go_wp2_with fail
                    go_meet
                    exact hA
                  · have hnz : ¬ (c = 0 ∧ d = 0) := fun hcd => by
                      have := HDZ.out
                      rw [hcd.1, hcd.2] at this
                      exact absurd this (by decide)
                    obtain ⟨hx0, e, hel, hxe, hall⟩ := EX.out hnz
                    have TX2 := Lib.hid (TX.out)
                    rw [hx0, hxe] at TX2
                    simp only [iOr, if_pos] at TX2
                    rw [← HNN.out] at hel
                    have d3 : (e : Int) < (n : Int) := by omega
                    have HALL := Lib.hid hall
                    clear hx0 hxe hall hnz EX
                    go_upto_region 26 with fail
                    refine wp_region_held_drew (S := (fun W => W.cell? ⟨G20, 0, none⟩ = some (.int .i64 c) ∧ W.cell? ⟨G20, 1, none⟩ = some (.int .i64 d))) (by kernel_rfl) ⟨BlkI.cell i20 (j := 0) (by simp), BlkI.cell i20 (j := 1) (by simp)⟩ (fun hHeld0 => ?_)
                    obtain ⟨wzd, hwz⟩ : ∃ v, v = V1.drew := ⟨_, rfl⟩
                    rw [← hwz] at hHeld0 ⊢
                    have hbzd : Below Wa.heap.size Wa wzd := by rw [hwz]; exact hA.drew
                    have hlzd : Below V1.heap.size V1 wzd := by rw [hwz]; exact (Below.refl _ _).drew
                    have i20 := i20.carry hlzd
                    clear hwz hlzd
                    refine wpAnyH_take (i := 0) (oi := { dst := some 225, op := Op.move (Operand.tmp 1), type := 48, pos := "law.go:449", after := #[], guard := none }) (v := ?_) rfl (by kernel_rfl) (by kernel_rfl) (by kernel_rfl) (fun _ _ _ h => h) (Or.inl ⟨by rfl, ?_⟩) (by assumption) ?_
                    rotate_left
                    · (intro w hSw; (try dsimp only at hSw); go_simp); (try with_reducible rfl)
                    try simp only [Act.put, List.setIfInBounds_toArray, List.set_cons_zero, List.set_cons_succ]
                    refine wpAnyH_take (i := 2) (oi := { dst := some 227, op := Op.load 98 (Operand.tmp 20), type := 98, pos := "law.go:449", after := #[], guard := none }) (v := ?_) rfl (by kernel_rfl) (by kernel_rfl) (by kernel_rfl) (fun _ _ _ h => h) (Or.inl ⟨by rfl, ?_⟩) (by assumption) ?_
                    rotate_left
                    · (intro w hSw; (try dsimp only at hSw); go_simp); (try with_reducible rfl)
                    try simp only [Act.put, List.setIfInBounds_toArray, List.set_cons_zero, List.set_cons_succ]
                    refine wpAnyH_ready (rs := [1]) (by kernel_rfl) (by simp) ?_
                    refine (AllReadyH.cons (o := { dst := some 226, op := Op.call { callee := Callee.value (Operand.func 25), args := #[Operand.tmp 225], argTypes := #[48] }, type := 48, pos := "law.go:449", after := #[{ on := 0, ground := Ground.data }], guard := none }) rfl (fun K hK => ?_) AllReadyH.nil)
                    go_simp
                    refine (TP.out wzd (HUa.out.carry hbzd)).mono ?_
                    rintro e' wz1 ⟨⟨u2, rfl, hu2⟩, hl2⟩
                    have hl := hl2
                    clear hl2
                    (try go_wp2_with fail)
                    have hbz1 := bthen hbzd hl
                    have i20 := i20.carry hl
                    clear hl
                    refine hK.out _ _ ⟨BlkI.cell i20 (j := 0) (by simp), BlkI.cell i20 (j := 1) (by simp)⟩ (fun hHeld1 => ?_)
                    clear hK K hHeld0
                    try simp only [Act.put, List.setIfInBounds_toArray, List.set_cons_zero, List.set_cons_succ]
                    refine wpAnyH_ready (rs := [3]) (by kernel_rfl) (by simp) ?_
                    refine (AllReadyH.cons (o := { dst := some 228, op := Op.call { callee := Callee.value (Operand.func 47), args := #[Operand.tmp 226, Operand.tmp 227], argTypes := #[48, 98] }, type := 60, pos := "law.go:449", after := #[{ on := 1, ground := Ground.data }, { on := 2, ground := Ground.data }, { on := 1, ground := Ground.chain }], guard := none }) rfl (fun K hK => ?_) AllReadyH.nil)
                    go_simp
                    refine (TX2.out u2 wz1 hu2).mono ?_
                    rintro e' wz3 ⟨rfl, hl⟩
                    (try go_wp2_with fail)
                    have hbz3 := bthen hbz1 hl
                    have i20 := i20.carry hl
                    have hu2 := hu2.carry hl
                    clear hl
                    refine hK.out _ _ ⟨BlkI.cell i20 (j := 0) (by simp), BlkI.cell i20 (j := 1) (by simp)⟩ (fun hHeld2 => ?_)
                    clear hK K hHeld1
                    try simp only [Act.put, List.setIfInBounds_toArray, List.set_cons_zero, List.set_cons_succ]
                    refine wpAnyH_take (i := 4) (oi := { dst := some 224, op := Op.move (Operand.tmp 228), type := 60, pos := "law.go:449", after := #[{ on := 3, ground := Ground.data }], guard := none }) (v := ?_) rfl (by kernel_rfl) (by kernel_rfl) (by kernel_rfl) (fun _ _ _ h => h) (Or.inl ⟨by rfl, ?_⟩) (by assumption) ?_
                    rotate_left
                    · (intro w hSw; (try dsimp only at hSw); go_simp); (try with_reducible rfl)
                    try simp only [Act.put, List.setIfInBounds_toArray, List.set_cons_zero, List.set_cons_succ]
                    refine wpAnyH_take (i := 5) (oi := { dst := some 229, op := Op.extract (Operand.tmp 224) 0, type := 3, pos := "law.go:449", after := #[{ on := 4, ground := Ground.data }], guard := none }) (v := ?_) rfl (by kernel_rfl) (by kernel_rfl) (by kernel_rfl) (fun _ _ _ h => h) (Or.inl ⟨by rfl, ?_⟩) (by assumption) ?_
                    rotate_left
                    · (intro w hSw; (try dsimp only at hSw); go_simp); (try with_reducible rfl)
                    try simp only [Act.put, List.setIfInBounds_toArray, List.set_cons_zero, List.set_cons_succ]
                    refine wpAnyH_take (i := 6) (oi := { dst := some 230, op := Op.extract (Operand.tmp 224) 1, type := 28, pos := "law.go:449", after := #[{ on := 4, ground := Ground.data }, { on := 7, ground := Ground.gcOnly Departure.lateStores }], guard := none }) (v := ?_) rfl (by kernel_rfl) (by kernel_rfl) (by kernel_rfl) (fun _ _ _ h => h) (Or.inl ⟨by rfl, ?_⟩) (by assumption) ?_
                    rotate_left
                    · (intro w hSw; (try dsimp only at hSw); go_simp); (try with_reducible rfl)
                    try simp only [Act.put, List.setIfInBounds_toArray, List.set_cons_zero, List.set_cons_succ]
                    refine wpAnyH_take (i := 7) (oi := { dst := some 21, op := Op.assign (Operand.tmp 229), type := 3, pos := "law.go:449", after := #[{ on := 5, ground := Ground.data }, { on := 3, ground := Ground.chain }, { on := 0, ground := Ground.phase }, { on := 1, ground := Ground.phase }, { on := 2, ground := Ground.phase }, { on := 3, ground := Ground.phase }, { on := 4, ground := Ground.phase }, { on := 5, ground := Ground.phase }, { on := 6, ground := Ground.textOnly Departure.lateStores }], guard := none }) (v := ?_) rfl (by kernel_rfl) (by kernel_rfl) (by kernel_rfl) (fun _ _ _ h => h) (Or.inl ⟨by rfl, ?_⟩) (by assumption) ?_
                    rotate_left
                    · (intro w hSw; (try dsimp only at hSw); go_simp); (try with_reducible rfl)
                    try simp only [Act.put, List.setIfInBounds_toArray, List.set_cons_zero, List.set_cons_succ]
                    refine wpAnyH_take (i := 8) (oi := { dst := some 22, op := Op.assign (Operand.tmp 230), type := 28, pos := "law.go:449", after := #[{ on := 6, ground := Ground.data }, { on := 7, ground := Ground.chain }, { on := 0, ground := Ground.phase }, { on := 1, ground := Ground.phase }, { on := 2, ground := Ground.phase }, { on := 3, ground := Ground.phase }, { on := 4, ground := Ground.phase }, { on := 5, ground := Ground.phase }, { on := 6, ground := Ground.phase }, { on := 7, ground := Ground.phase }], guard := none }) (v := ?_) rfl (by kernel_rfl) (by kernel_rfl) (by kernel_rfl) (fun _ _ _ h => h) (Or.inl ⟨by rfl, ?_⟩) (by assumption) ?_
                    rotate_left
                    · (intro w hSw; (try dsimp only at hSw); go_simp); (try with_reducible rfl)
                    try simp only [Act.put, List.setIfInBounds_toArray, List.set_cons_zero, List.set_cons_succ]
                    refine wpAnyH_done (by kernel_rfl) ?_ _
                    clear hHeld2
                    clear hA
                    have hA := hbz3
                    obtain ⟨V2, hV2⟩ : ∃ v, v = wz3 := ⟨_, rfl⟩
                    rw [← hV2] at hA i20 ⊢
                    clear hV2 hu2 r0 r1
                    obtain ⟨w0, w1, hwe, hwk, c2, c3⟩ := HC.out e hel
                    have C2 := Lib.hid c2
                    have C3 := Lib.hid c3
                    have HWK := Lib.hid hwk
                    clear hwe hwk c2 c3
                    obtain ⟨P0, hP0⟩ : ∃ P, P = wrap64 (w0 * c) := ⟨_, rfl⟩
                    obtain ⟨P1, hP1⟩ : ∃ P, P = wrap64 (w1 * d) := ⟨_, rfl⟩
                    obtain ⟨SP, hSP⟩ : ∃ P, P = wrap64 (P0 + P1) := ⟨_, rfl⟩
                    have HSP := Lib.hid (show sumG (c, d) (l[e]?.getD (0, 0)) = SP by rw [HWK.out, hSP, hP0, hP1]; rfl)
                    have v0 : IntKind.i64.wrap (w0 * c) = P0 := by rw [wrapEq, hP0]
                    have v1 : IntKind.i64.wrap (w1 * d) = P1 := by rw [wrapEq, hP1]
                    have v2 : IntKind.i64.wrap (P0 + P1) = SP := by rw [wrapEq, hSP]
                    have HV0 := Lib.hid v0
                    have HV1 := Lib.hid v1
                    have HV2 := Lib.hid v2
                    clear hP0 hP1 hSP v0 v1 v2
                    go_wp2_with fail
                    go_loopw [245] (fun i wr => ∃ k : Nat, k ≤ n ∧ i = .int .i64 k ∧ BlkI wr G20 98 [c, d] ∧ Below Wa.heap.size Wa wr) (fun i _ => n - (intOf i).toNat)
                    case atStart => exact ⟨0, by omega, rfl, i20, hA⟩
                    case round =>
                      clear hA i20
                      obtain ⟨k, hk, rfl, i20, hA⟩ := hrel
                      by_cases hlt : k < n
                      · have d1 : (k : Int) < (n : Int) := by omega
                        obtain ⟨y0, y1, hy, hyk, c0, c1⟩ := HC.out k hlt
                        have hle := HALL.out k (by rw [← HNN.out]; exact hlt)
                        rw [HSP.out, hyk] at hle
                        simp only [Option.getD_some] at hle
                        obtain ⟨Q0', hQ0⟩ : ∃ P, P = wrap64 (y0 * c) := ⟨_, rfl⟩
                        obtain ⟨Q1', hQ1⟩ : ∃ P, P = wrap64 (y1 * d) := ⟨_, rfl⟩
                        obtain ⟨SQ, hSQ⟩ : ∃ P, P = wrap64 (Q0' + Q1') := ⟨_, rfl⟩
                        have hle2 : SQ ≤ SP := by have : sumG (c, d) (y0, y1) = SQ := by rw [hSQ, hQ0, hQ1]; rfl
                                                  rw [← this]; exact hle
                        have w0' : IntKind.i64.wrap (y0 * c) = Q0' := by rw [wrapEq, hQ0]
                        have w1' : IntKind.i64.wrap (y1 * d) = Q1' := by rw [wrapEq, hQ1]
                        have w2' : IntKind.i64.wrap (Q0' + Q1') = SQ := by rw [wrapEq, hSQ]
                        have hdec : decide (SP < SQ) = false := decide_eq_false (by omega)
                        clear hy hyk hle hle2 hQ0 hQ1 hSQ
                        have c0 := cellb c0 hA
                        have c1 := cellb c1 hA
                        go_upto_region 32 with (refine wpList_storeA rfl _ _ _ rfl wr.heap.size [y0, y1] (List.replicate 2 0) rfl rfl (BlkI.new wr 98 (List.replicate 2 0)) rfl Tryz.infoGauss ?_)
                        obtain ⟨U1, hU1⟩ : ∃ v, v = World.setRow (World.alloc wr (Obj.cells #[.int .i64 0, .int .i64 0] 98)) wr.heap.size (ia ([y0, y1])) := ⟨_, rfl⟩
                        have kU1 : Below wr.heap.size wr U1 := by rw [hU1]; exact zrow_below _ _ _ _
                        have iU1 : BlkI U1 wr.heap.size 98 ([y0, y1]) := by rw [hU1]; exact zrow_blk wr _ (List.replicate 2 0) _
                        rw [← hU1]
                        clear hU1
                        replace hA := bthen hA kU1
                        replace i20 := i20.carry kU1
                        have r0 : U1.cell? ⟨G20, 0, none⟩ = some (.int .i64 c) := BlkI.cell i20 (j := 0) (by simp)
                        have r1 : U1.cell? ⟨G20, 1, none⟩ = some (.int .i64 d) := BlkI.cell i20 (j := 1) (by simp)
                        have p0 : U1.cell? ⟨wr.heap.size, 0, none⟩ = some (.int .i64 y0) := BlkI.cell iU1 (j := 0) (by simp)
                        have p1 : U1.cell? ⟨wr.heap.size, 1, none⟩ = some (.int .i64 y1) := BlkI.cell iU1 (j := 1) (by simp)
                        have c2 := cellb C2.out hA
                        have c3 := cellb C3.out hA
                        clear kU1 iU1 c0 c1
                        have v0 := HV0.out
                        have v1 := HV1.out
                        have v2 := HV2.out
                        refine wp_region_E 99 (by kernel_rfl) ?_
                        obtain ⟨wz, hwz⟩ : ∃ v, v = U1.drew := ⟨_, rfl⟩
                        rw [← hwz]
                        have hlz : Below U1.heap.size U1 wz := by rw [hwz]; exact (Below.refl _ _).drew
                        have hbz := bthen hA hlz
                        have r0 := cellb r0 hlz
                        have r1 := cellb r1 hlz
                        have p0 := cellb p0 hlz
                        have p1 := cellb p1 hlz
                        have c2 := cellb c2 hlz
                        have c3 := cellb c3 hlz
                        have i20 := i20.carry hlz
                        clear hwz hlz
                        refine wpAnyE_take (i := 0) (oi := { dst := some 249, op := Op.fieldAddr 98 (Operand.tmp 24) 0, type := 0, pos := "law.go:454", after := #[], guard := none }) (v := ?_) rfl (by kernel_rfl) (by kernel_rfl) (by kernel_rfl) (by kernel_rfl) (fun _ _ _ h => h) (Or.inl ⟨by rfl, ?_⟩) ?_
                        rotate_left
                        · (intro w hE; have r0 := cellb r0 hE; have r1 := cellb r1 hE; have p0 := cellb p0 hE; have p1 := cellb p1 hE; have c2 := cellb c2 hE; have c3 := cellb c3 hE; (try dsimp only); go_simp); (try with_reducible rfl)
                        try simp only [Act.put, List.setIfInBounds_toArray, List.set_cons_zero, List.set_cons_succ]
                        refine wpAnyE_take (i := 1) (oi := { dst := some 250, op := Op.load 3 (Operand.tmp 249), type := 3, pos := "law.go:454", after := #[{ on := 0, ground := Ground.data }], guard := none }) (v := ?_) rfl (by kernel_rfl) (by kernel_rfl) (by kernel_rfl) (by kernel_rfl) (fun _ _ _ h => h) (Or.inl ⟨by rfl, ?_⟩) ?_
                        rotate_left
                        · (intro w hE; have r0 := cellb r0 hE; have r1 := cellb r1 hE; have p0 := cellb p0 hE; have p1 := cellb p1 hE; have c2 := cellb c2 hE; have c3 := cellb c3 hE; (try dsimp only); go_simp); (try with_reducible rfl)
                        try simp only [Act.put, List.setIfInBounds_toArray, List.set_cons_zero, List.set_cons_succ]
                        refine wpAnyE_take (i := 2) (oi := { dst := some 251, op := Op.fieldAddr 98 (Operand.tmp 20) 0, type := 0, pos := "law.go:454", after := #[], guard := none }) (v := ?_) rfl (by kernel_rfl) (by kernel_rfl) (by kernel_rfl) (by kernel_rfl) (fun _ _ _ h => h) (Or.inl ⟨by rfl, ?_⟩) ?_
                        rotate_left
                        · (intro w hE; have r0 := cellb r0 hE; have r1 := cellb r1 hE; have p0 := cellb p0 hE; have p1 := cellb p1 hE; have c2 := cellb c2 hE; have c3 := cellb c3 hE; (try dsimp only); go_simp); (try with_reducible rfl)
                        try simp only [Act.put, List.setIfInBounds_toArray, List.set_cons_zero, List.set_cons_succ]
                        refine wpAnyE_take (i := 3) (oi := { dst := some 252, op := Op.load 3 (Operand.tmp 251), type := 3, pos := "law.go:454", after := #[{ on := 2, ground := Ground.data }], guard := none }) (v := ?_) rfl (by kernel_rfl) (by kernel_rfl) (by kernel_rfl) (by kernel_rfl) (fun _ _ _ h => h) (Or.inl ⟨by rfl, ?_⟩) ?_
                        rotate_left
                        · (intro w hE; have r0 := cellb r0 hE; have r1 := cellb r1 hE; have p0 := cellb p0 hE; have p1 := cellb p1 hE; have c2 := cellb c2 hE; have c3 := cellb c3 hE; (try dsimp only); go_simp); (try with_reducible rfl)
                        try simp only [Act.put, List.setIfInBounds_toArray, List.set_cons_zero, List.set_cons_succ]
                        refine wpAnyE_take (i := 4) (oi := { dst := some 253, op := Op.binOp BinOp.mul 3 (Operand.tmp 250) (Operand.tmp 252) 3, type := 3, pos := "law.go:454", after := #[{ on := 1, ground := Ground.data }, { on := 3, ground := Ground.data }], guard := none }) (v := ?_) rfl (by kernel_rfl) (by kernel_rfl) (by kernel_rfl) (by kernel_rfl) (fun _ _ _ h => h) (Or.inl ⟨by rfl, ?_⟩) ?_
                        rotate_left
                        · (intro w hE; have r0 := cellb r0 hE; have r1 := cellb r1 hE; have p0 := cellb p0 hE; have p1 := cellb p1 hE; have c2 := cellb c2 hE; have c3 := cellb c3 hE; (try dsimp only); go_simp); (try with_reducible rfl)
                        try simp only [Act.put, List.setIfInBounds_toArray, List.set_cons_zero, List.set_cons_succ]
                        refine wpAnyE_take (i := 5) (oi := { dst := some 254, op := Op.fieldAddr 98 (Operand.tmp 24) 1, type := 0, pos := "law.go:454", after := #[], guard := none }) (v := ?_) rfl (by kernel_rfl) (by kernel_rfl) (by kernel_rfl) (by kernel_rfl) (fun _ _ _ h => h) (Or.inl ⟨by rfl, ?_⟩) ?_
                        rotate_left
                        · (intro w hE; have r0 := cellb r0 hE; have r1 := cellb r1 hE; have p0 := cellb p0 hE; have p1 := cellb p1 hE; have c2 := cellb c2 hE; have c3 := cellb c3 hE; (try dsimp only); go_simp); (try with_reducible rfl)
                        try simp only [Act.put, List.setIfInBounds_toArray, List.set_cons_zero, List.set_cons_succ]
                        refine wpAnyE_take (i := 6) (oi := { dst := some 255, op := Op.load 3 (Operand.tmp 254), type := 3, pos := "law.go:454", after := #[{ on := 5, ground := Ground.data }], guard := none }) (v := ?_) rfl (by kernel_rfl) (by kernel_rfl) (by kernel_rfl) (by kernel_rfl) (fun _ _ _ h => h) (Or.inl ⟨by rfl, ?_⟩) ?_
                        rotate_left
                        · (intro w hE; have r0 := cellb r0 hE; have r1 := cellb r1 hE; have p0 := cellb p0 hE; have p1 := cellb p1 hE; have c2 := cellb c2 hE; have c3 := cellb c3 hE; (try dsimp only); go_simp); (try with_reducible rfl)
                        try simp only [Act.put, List.setIfInBounds_toArray, List.set_cons_zero, List.set_cons_succ]
                        refine wpAnyE_take (i := 7) (oi := { dst := some 256, op := Op.fieldAddr 98 (Operand.tmp 20) 1, type := 0, pos := "law.go:454", after := #[], guard := none }) (v := ?_) rfl (by kernel_rfl) (by kernel_rfl) (by kernel_rfl) (by kernel_rfl) (fun _ _ _ h => h) (Or.inl ⟨by rfl, ?_⟩) ?_
                        rotate_left
                        · (intro w hE; have r0 := cellb r0 hE; have r1 := cellb r1 hE; have p0 := cellb p0 hE; have p1 := cellb p1 hE; have c2 := cellb c2 hE; have c3 := cellb c3 hE; (try dsimp only); go_simp); (try with_reducible rfl)
                        try simp only [Act.put, List.setIfInBounds_toArray, List.set_cons_zero, List.set_cons_succ]
                        refine wpAnyE_take (i := 8) (oi := { dst := some 257, op := Op.load 3 (Operand.tmp 256), type := 3, pos := "law.go:454", after := #[{ on := 7, ground := Ground.data }], guard := none }) (v := ?_) rfl (by kernel_rfl) (by kernel_rfl) (by kernel_rfl) (by kernel_rfl) (fun _ _ _ h => h) (Or.inl ⟨by rfl, ?_⟩) ?_
                        rotate_left
                        · (intro w hE; have r0 := cellb r0 hE; have r1 := cellb r1 hE; have p0 := cellb p0 hE; have p1 := cellb p1 hE; have c2 := cellb c2 hE; have c3 := cellb c3 hE; (try dsimp only); go_simp); (try with_reducible rfl)
                        try simp only [Act.put, List.setIfInBounds_toArray, List.set_cons_zero, List.set_cons_succ]
                        refine wpAnyE_take (i := 9) (oi := { dst := some 258, op := Op.binOp BinOp.mul 3 (Operand.tmp 255) (Operand.tmp 257) 3, type := 3, pos := "law.go:454", after := #[{ on := 6, ground := Ground.data }, { on := 8, ground := Ground.data }], guard := none }) (v := ?_) rfl (by kernel_rfl) (by kernel_rfl) (by kernel_rfl) (by kernel_rfl) (fun _ _ _ h => h) (Or.inl ⟨by rfl, ?_⟩) ?_
                        rotate_left
                        · (intro w hE; have r0 := cellb r0 hE; have r1 := cellb r1 hE; have p0 := cellb p0 hE; have p1 := cellb p1 hE; have c2 := cellb c2 hE; have c3 := cellb c3 hE; (try dsimp only); go_simp); (try with_reducible rfl)
                        try simp only [Act.put, List.setIfInBounds_toArray, List.set_cons_zero, List.set_cons_succ]
                        refine wpAnyE_take (i := 10) (oi := { dst := some 259, op := Op.binOp BinOp.add 3 (Operand.tmp 253) (Operand.tmp 258) 3, type := 3, pos := "law.go:454", after := #[{ on := 4, ground := Ground.data }, { on := 9, ground := Ground.data }], guard := none }) (v := ?_) rfl (by kernel_rfl) (by kernel_rfl) (by kernel_rfl) (by kernel_rfl) (fun _ _ _ h => h) (Or.inl ⟨by rfl, ?_⟩) ?_
                        rotate_left
                        · (intro w hE; have r0 := cellb r0 hE; have r1 := cellb r1 hE; have p0 := cellb p0 hE; have p1 := cellb p1 hE; have c2 := cellb c2 hE; have c3 := cellb c3 hE; (try dsimp only); go_simp); (try with_reducible rfl)
                        try simp only [Act.put, List.setIfInBounds_toArray, List.set_cons_zero, List.set_cons_succ]
                        refine wpAnyE_take (i := 11) (oi := { dst := some 260, op := Op.move (Operand.tmp 1), type := 48, pos := "law.go:454", after := #[], guard := none }) (v := ?_) rfl (by kernel_rfl) (by kernel_rfl) (by kernel_rfl) (by kernel_rfl) (fun _ _ _ h => h) (Or.inl ⟨by rfl, ?_⟩) ?_
                        rotate_left
                        · (intro w hE; have r0 := cellb r0 hE; have r1 := cellb r1 hE; have p0 := cellb p0 hE; have p1 := cellb p1 hE; have c2 := cellb c2 hE; have c3 := cellb c3 hE; (try dsimp only); go_simp); (try with_reducible rfl)
                        try simp only [Act.put, List.setIfInBounds_toArray, List.set_cons_zero, List.set_cons_succ]
                        refine wpAnyE_take (i := 12) (oi := { dst := some 261, op := Op.move (Operand.tmp 21), type := 3, pos := "law.go:454", after := #[], guard := none }) (v := ?_) rfl (by kernel_rfl) (by kernel_rfl) (by kernel_rfl) (by kernel_rfl) (fun _ _ _ h => h) (Or.inl ⟨by rfl, ?_⟩) ?_
                        rotate_left
                        · (intro w hE; have r0 := cellb r0 hE; have r1 := cellb r1 hE; have p0 := cellb p0 hE; have p1 := cellb p1 hE; have c2 := cellb c2 hE; have c3 := cellb c3 hE; (try dsimp only); go_simp); (try with_reducible rfl)
                        try simp only [Act.put, List.setIfInBounds_toArray, List.set_cons_zero, List.set_cons_succ]
                        refine wpAnyE_take (i := 13) (oi := { dst := some 262, op := Op.indexAddr 48 (Operand.tmp 260) (Operand.tmp 261), type := 0, pos := "law.go:454", after := #[{ on := 11, ground := Ground.data }, { on := 12, ground := Ground.data }], guard := none }) (v := ?_) rfl (by kernel_rfl) (by kernel_rfl) (by kernel_rfl) (by kernel_rfl) (fun _ _ _ h => h) (Or.inl ⟨by rfl, ?_⟩) ?_
                        rotate_left
                        · (intro w hE; have r0 := cellb r0 hE; have r1 := cellb r1 hE; have p0 := cellb p0 hE; have p1 := cellb p1 hE; have c2 := cellb c2 hE; have c3 := cellb c3 hE; (try dsimp only); go_simp); (try with_reducible rfl)
                        try simp only [Act.put, List.setIfInBounds_toArray, List.set_cons_zero, List.set_cons_succ]
                        refine wpAnyE_take (i := 14) (oi := { dst := some 263, op := Op.fieldAddr 98 (Operand.tmp 262) 0, type := 0, pos := "law.go:454", after := #[{ on := 13, ground := Ground.data }], guard := none }) (v := ?_) rfl (by kernel_rfl) (by kernel_rfl) (by kernel_rfl) (by kernel_rfl) (fun _ _ _ h => h) (Or.inl ⟨by rfl, ?_⟩) ?_
                        rotate_left
                        · (intro w hE; have r0 := cellb r0 hE; have r1 := cellb r1 hE; have p0 := cellb p0 hE; have p1 := cellb p1 hE; have c2 := cellb c2 hE; have c3 := cellb c3 hE; (try dsimp only); go_simp); (try with_reducible rfl)
                        try simp only [Act.put, List.setIfInBounds_toArray, List.set_cons_zero, List.set_cons_succ]
                        refine wpAnyE_take (i := 15) (oi := { dst := some 264, op := Op.load 3 (Operand.tmp 263), type := 3, pos := "law.go:454", after := #[{ on := 14, ground := Ground.data }], guard := none }) (v := ?_) rfl (by kernel_rfl) (by kernel_rfl) (by kernel_rfl) (by kernel_rfl) (fun _ _ _ h => h) (Or.inl ⟨by rfl, ?_⟩) ?_
                        rotate_left
                        · (intro w hE; have r0 := cellb r0 hE; have r1 := cellb r1 hE; have p0 := cellb p0 hE; have p1 := cellb p1 hE; have c2 := cellb c2 hE; have c3 := cellb c3 hE; (try dsimp only); go_simp); (try with_reducible rfl)
                        try simp only [Act.put, List.setIfInBounds_toArray, List.set_cons_zero, List.set_cons_succ]
                        refine wpAnyE_take (i := 16) (oi := { dst := some 265, op := Op.fieldAddr 98 (Operand.tmp 20) 0, type := 0, pos := "law.go:454", after := #[], guard := none }) (v := ?_) rfl (by kernel_rfl) (by kernel_rfl) (by kernel_rfl) (by kernel_rfl) (fun _ _ _ h => h) (Or.inl ⟨by rfl, ?_⟩) ?_
                        rotate_left
                        · (intro w hE; have r0 := cellb r0 hE; have r1 := cellb r1 hE; have p0 := cellb p0 hE; have p1 := cellb p1 hE; have c2 := cellb c2 hE; have c3 := cellb c3 hE; (try dsimp only); go_simp); (try with_reducible rfl)
                        try simp only [Act.put, List.setIfInBounds_toArray, List.set_cons_zero, List.set_cons_succ]
                        refine wpAnyE_take (i := 17) (oi := { dst := some 266, op := Op.load 3 (Operand.tmp 265), type := 3, pos := "law.go:454", after := #[{ on := 16, ground := Ground.data }], guard := none }) (v := ?_) rfl (by kernel_rfl) (by kernel_rfl) (by kernel_rfl) (by kernel_rfl) (fun _ _ _ h => h) (Or.inl ⟨by rfl, ?_⟩) ?_
                        rotate_left
                        · (intro w hE; have r0 := cellb r0 hE; have r1 := cellb r1 hE; have p0 := cellb p0 hE; have p1 := cellb p1 hE; have c2 := cellb c2 hE; have c3 := cellb c3 hE; (try dsimp only); go_simp); (try with_reducible rfl)
                        try simp only [Act.put, List.setIfInBounds_toArray, List.set_cons_zero, List.set_cons_succ]
                        refine wpAnyE_take (i := 18) (oi := { dst := some 267, op := Op.binOp BinOp.mul 3 (Operand.tmp 264) (Operand.tmp 266) 3, type := 3, pos := "law.go:454", after := #[{ on := 15, ground := Ground.data }, { on := 17, ground := Ground.data }], guard := none }) (v := ?_) rfl (by kernel_rfl) (by kernel_rfl) (by kernel_rfl) (by kernel_rfl) (fun _ _ _ h => h) (Or.inl ⟨by rfl, ?_⟩) ?_
                        rotate_left
                        · (intro w hE; have r0 := cellb r0 hE; have r1 := cellb r1 hE; have p0 := cellb p0 hE; have p1 := cellb p1 hE; have c2 := cellb c2 hE; have c3 := cellb c3 hE; (try dsimp only); go_simp); (try with_reducible rfl)
                        try simp only [Act.put, List.setIfInBounds_toArray, List.set_cons_zero, List.set_cons_succ]
                        refine wpAnyE_take (i := 19) (oi := { dst := some 268, op := Op.move (Operand.tmp 1), type := 48, pos := "law.go:454", after := #[], guard := none }) (v := ?_) rfl (by kernel_rfl) (by kernel_rfl) (by kernel_rfl) (by kernel_rfl) (fun _ _ _ h => h) (Or.inl ⟨by rfl, ?_⟩) ?_
                        rotate_left
                        · (intro w hE; have r0 := cellb r0 hE; have r1 := cellb r1 hE; have p0 := cellb p0 hE; have p1 := cellb p1 hE; have c2 := cellb c2 hE; have c3 := cellb c3 hE; (try dsimp only); go_simp); (try with_reducible rfl)
                        try simp only [Act.put, List.setIfInBounds_toArray, List.set_cons_zero, List.set_cons_succ]
                        refine wpAnyE_take (i := 20) (oi := { dst := some 269, op := Op.move (Operand.tmp 21), type := 3, pos := "law.go:454", after := #[], guard := none }) (v := ?_) rfl (by kernel_rfl) (by kernel_rfl) (by kernel_rfl) (by kernel_rfl) (fun _ _ _ h => h) (Or.inl ⟨by rfl, ?_⟩) ?_
                        rotate_left
                        · (intro w hE; have r0 := cellb r0 hE; have r1 := cellb r1 hE; have p0 := cellb p0 hE; have p1 := cellb p1 hE; have c2 := cellb c2 hE; have c3 := cellb c3 hE; (try dsimp only); go_simp); (try with_reducible rfl)
                        try simp only [Act.put, List.setIfInBounds_toArray, List.set_cons_zero, List.set_cons_succ]
                        refine wpAnyE_take (i := 21) (oi := { dst := some 270, op := Op.indexAddr 48 (Operand.tmp 268) (Operand.tmp 269), type := 0, pos := "law.go:454", after := #[{ on := 19, ground := Ground.data }, { on := 20, ground := Ground.data }], guard := none }) (v := ?_) rfl (by kernel_rfl) (by kernel_rfl) (by kernel_rfl) (by kernel_rfl) (fun _ _ _ h => h) (Or.inl ⟨by rfl, ?_⟩) ?_
                        rotate_left
                        · (intro w hE; have r0 := cellb r0 hE; have r1 := cellb r1 hE; have p0 := cellb p0 hE; have p1 := cellb p1 hE; have c2 := cellb c2 hE; have c3 := cellb c3 hE; (try dsimp only); go_simp); (try with_reducible rfl)
                        try simp only [Act.put, List.setIfInBounds_toArray, List.set_cons_zero, List.set_cons_succ]
                        refine wpAnyE_take (i := 22) (oi := { dst := some 271, op := Op.fieldAddr 98 (Operand.tmp 270) 1, type := 0, pos := "law.go:454", after := #[{ on := 21, ground := Ground.data }], guard := none }) (v := ?_) rfl (by kernel_rfl) (by kernel_rfl) (by kernel_rfl) (by kernel_rfl) (fun _ _ _ h => h) (Or.inl ⟨by rfl, ?_⟩) ?_
                        rotate_left
                        · (intro w hE; have r0 := cellb r0 hE; have r1 := cellb r1 hE; have p0 := cellb p0 hE; have p1 := cellb p1 hE; have c2 := cellb c2 hE; have c3 := cellb c3 hE; (try dsimp only); go_simp); (try with_reducible rfl)
                        try simp only [Act.put, List.setIfInBounds_toArray, List.set_cons_zero, List.set_cons_succ]
                        refine wpAnyE_take (i := 23) (oi := { dst := some 272, op := Op.load 3 (Operand.tmp 271), type := 3, pos := "law.go:454", after := #[{ on := 22, ground := Ground.data }], guard := none }) (v := ?_) rfl (by kernel_rfl) (by kernel_rfl) (by kernel_rfl) (by kernel_rfl) (fun _ _ _ h => h) (Or.inl ⟨by rfl, ?_⟩) ?_
                        rotate_left
                        · (intro w hE; have r0 := cellb r0 hE; have r1 := cellb r1 hE; have p0 := cellb p0 hE; have p1 := cellb p1 hE; have c2 := cellb c2 hE; have c3 := cellb c3 hE; (try dsimp only); go_simp); (try with_reducible rfl)
                        try simp only [Act.put, List.setIfInBounds_toArray, List.set_cons_zero, List.set_cons_succ]
                        refine wpAnyE_take (i := 24) (oi := { dst := some 273, op := Op.fieldAddr 98 (Operand.tmp 20) 1, type := 0, pos := "law.go:454", after := #[], guard := none }) (v := ?_) rfl (by kernel_rfl) (by kernel_rfl) (by kernel_rfl) (by kernel_rfl) (fun _ _ _ h => h) (Or.inl ⟨by rfl, ?_⟩) ?_
                        rotate_left
                        · (intro w hE; have r0 := cellb r0 hE; have r1 := cellb r1 hE; have p0 := cellb p0 hE; have p1 := cellb p1 hE; have c2 := cellb c2 hE; have c3 := cellb c3 hE; (try dsimp only); go_simp); (try with_reducible rfl)
                        try simp only [Act.put, List.setIfInBounds_toArray, List.set_cons_zero, List.set_cons_succ]
                        refine wpAnyE_take (i := 25) (oi := { dst := some 274, op := Op.load 3 (Operand.tmp 273), type := 3, pos := "law.go:454", after := #[{ on := 24, ground := Ground.data }], guard := none }) (v := ?_) rfl (by kernel_rfl) (by kernel_rfl) (by kernel_rfl) (by kernel_rfl) (fun _ _ _ h => h) (Or.inl ⟨by rfl, ?_⟩) ?_
                        rotate_left
                        · (intro w hE; have r0 := cellb r0 hE; have r1 := cellb r1 hE; have p0 := cellb p0 hE; have p1 := cellb p1 hE; have c2 := cellb c2 hE; have c3 := cellb c3 hE; (try dsimp only); go_simp); (try with_reducible rfl)
                        try simp only [Act.put, List.setIfInBounds_toArray, List.set_cons_zero, List.set_cons_succ]
                        refine wpAnyE_take (i := 26) (oi := { dst := some 275, op := Op.binOp BinOp.mul 3 (Operand.tmp 272) (Operand.tmp 274) 3, type := 3, pos := "law.go:454", after := #[{ on := 23, ground := Ground.data }, { on := 25, ground := Ground.data }], guard := none }) (v := ?_) rfl (by kernel_rfl) (by kernel_rfl) (by kernel_rfl) (by kernel_rfl) (fun _ _ _ h => h) (Or.inl ⟨by rfl, ?_⟩) ?_
                        rotate_left
                        · (intro w hE; have r0 := cellb r0 hE; have r1 := cellb r1 hE; have p0 := cellb p0 hE; have p1 := cellb p1 hE; have c2 := cellb c2 hE; have c3 := cellb c3 hE; (try dsimp only); go_simp); (try with_reducible rfl)
                        try simp only [Act.put, List.setIfInBounds_toArray, List.set_cons_zero, List.set_cons_succ]
                        refine wpAnyE_take (i := 27) (oi := { dst := some 276, op := Op.binOp BinOp.add 3 (Operand.tmp 267) (Operand.tmp 275) 3, type := 3, pos := "law.go:454", after := #[{ on := 18, ground := Ground.data }, { on := 26, ground := Ground.data }], guard := none }) (v := ?_) rfl (by kernel_rfl) (by kernel_rfl) (by kernel_rfl) (by kernel_rfl) (fun _ _ _ h => h) (Or.inl ⟨by rfl, ?_⟩) ?_
                        rotate_left
                        · (intro w hE; have r0 := cellb r0 hE; have r1 := cellb r1 hE; have p0 := cellb p0 hE; have p1 := cellb p1 hE; have c2 := cellb c2 hE; have c3 := cellb c3 hE; (try dsimp only); go_simp); (try with_reducible rfl)
                        try simp only [Act.put, List.setIfInBounds_toArray, List.set_cons_zero, List.set_cons_succ]
                        refine wpAnyE_take (i := 28) (oi := { dst := some 277, op := Op.binOp BinOp.gtr 3 (Operand.tmp 259) (Operand.tmp 276) 3, type := 4, pos := "law.go:454", after := #[{ on := 10, ground := Ground.data }, { on := 27, ground := Ground.data }], guard := none }) (v := ?_) rfl (by kernel_rfl) (by kernel_rfl) (by kernel_rfl) (by kernel_rfl) (fun _ _ _ h => h) (Or.inl ⟨by rfl, ?_⟩) ?_
                        rotate_left
                        · (intro w hE; have r0 := cellb r0 hE; have r1 := cellb r1 hE; have p0 := cellb p0 hE; have p1 := cellb p1 hE; have c2 := cellb c2 hE; have c3 := cellb c3 hE; (try dsimp only); go_simp); (try with_reducible rfl)
                        try simp only [Act.put, List.setIfInBounds_toArray, List.set_cons_zero, List.set_cons_succ]
                        refine wpAnyE_done (by kernel_rfl) (fun wy1 hE => ?_) _
                        have hbz1 := bthen hbz hE
                        have r0 := cellb r0 hE
                        have r1 := cellb r1 hE
                        have p0 := cellb p0 hE
                        have p1 := cellb p1 hE
                        have c2 := cellb c2 hE
                        have c3 := cellb c3 hE
                        have i20 := i20.carry hE
                        clear hE
                        clear hA
                        have hA := hbz1
                        obtain ⟨U2, hU2⟩ : ∃ v, v = wy1 := ⟨_, rfl⟩
                        rw [← hU2] at hA i20 ⊢
                        clear hU2 r0 r1 p0 p1 c2 c3 v0 v1 v2 w0' w1' w2' hdec
                        go_wp2_with fail
                        go_roundw
                        case rel => exact ⟨k + 1, by omega, by go_num, i20, hA⟩
                        case measure => simp [intOf]; omega
                      · obtain rfl : n = k := by omega
                        go_wp2_with fail
                        go_meet
                        exact hA
                case rest =>
                  clear hA
                  have hA := hcut
                  clear hcut r0 r1 i20
                  have a0 := cellb A0.out hA
                  go_wp2_with fail
                  refine (TG.out wc (HVa.out.carry hA)).mono ?_
                  rintro e X1 ⟨⟨u1, rfl, hu1⟩, hb⟩
                  clear a0
                  replace hA := bthen hA hb
                  clear hb
                  go_wp2_with fail
                  refine (TP.out X1 (HUa.out.carry hA)).mono ?_
                  rintro e X2 ⟨⟨u2, rfl, hu2⟩, hb⟩
                  have hu1 := hu1.carry hb
                  replace hA := bthen hA hb
                  clear hb
                  go_wp2_with fail
                  obtain ⟨X3, hX3⟩ : ∃ v, v = World.alloc X2 (Obj.cells #[.int .i64 h] 3) := ⟨_, rfl⟩
                  have kX3 : Below X2.heap.size X2 X3 := by rw [hX3]; exact below_new _ _
                  have iX3 : Blk X3 (X2.heap.size) 3 [.int .i64 h] := by rw [hX3]; exact Blk.new _ _ _
                  have sX3 : X3.heap.size = X2.heap.size + 1 := by rw [hX3]; simp
                  rw [← hX3]
                  clear hX3
                  replace hA := bthen hA kX3
                  refine (TA.out u1 u2 _ X3 (hu1.carry kX3) (hu2.carry kX3) (BlkI.ints (l := [h]) iX3 rfl)).mono ?_
                  rintro e X4 ⟨rfl, hb⟩
                  clear hu1 hu2 iX3 kX3 sX3
                  replace hA := bthen hA hb
                  clear hb
                  rcases AF.out with ⟨hv1, hv2⟩ | ⟨t, hv1, ht, ht0, hk, hms⟩
                  · obtain ⟨rfl, rfl⟩ : av1 = 0 ∧ av2 = 18 := by simpa using hv1
                    subst hv2
                    clear hv1 AF
                    go_wp2_with fail
                    refine (TAW.out X4 (HWa.out.carry hA) (HPa.out.carry hA)).mono ?_
                    rintro e Wc ⟨rfl, hb⟩
                    go_wp2_with fail
                    go_ret
                    exact ⟨rfl, bthen HB.out (bthen hA hb)⟩
                  · obtain ⟨rfl, rfl⟩ : av1 = t ∧ av2 = 0 := by simpa using hv1
                    have TT1 := Lib.hid (TT.out av1 ht hk)
                    obtain ⟨hlen, ⟨htx, htz⟩, hmt⟩ := TL.out av1 ht hk
                    generalize tapL ls 0 av1 = LT at TT1 hlen htx htz hmt hk hms
                    have hlt' : LT.length ≤ 1000000 := by rw [hlen]; exact HLS.out
                    have TD := Lib.hid (fun v W hP => told_any v LT W hP hlt')
                    have TG2 := Lib.hid (fun v W hP => given_any v LT W hP hlt')
                    have TF := Lib.hid (fun v W hP => CheckFilterR_any v LT W hP hlt')
                    rw [hk] at TF
                    have TM2 := Lib.hid (fun (v u : Value) (W : World) (hP : Pairs W v LT) (hQ : Pairs W u l) => meets_no v u LT l h W hP hlt' hQ HHL.out hmt hms)
                    have TT2 := Lib.hid (fun (v : Value) (W : World) (hP : Pairs W v LT) => tapped_ok v LT ls (-av1) W hP hlt' htx htz)
                    have TD2 := Lib.hid (fun v W hP => told_any v ls W hP HLS.out)
                    have TS := Lib.hid (fun (v : Value) (W : World) (hP : Pairs W v ls) (hQ : Pairs W (.slice x ls.length cp) ls) => same_self v (.slice x ls.length cp) ls W hP hQ HLS.out)
                    have HT0 := Lib.hid ht0
                    have HLT := Lib.hid hlt'
                    clear hv1 ht0 hlen htx htz hmt hms hk AF hlt' TT TL
                    have n8 : decide (av1 < -8) = false := decide_eq_false (by omega)
                    have p8 : decide (8 < av1) = false := decide_eq_false (by omega)
                    go_upto_region 38 with fail
                    go_cut [311] from 299 to 311 (fun u311 wn => u311 = .bool false ∧ Below Wa.heap.size Wa wn)
                    case first =>
                      cases mb
                      · obtain rfl : av1 = 0 := HT0.out.2 rfl
                        go_wp2_with fail
                        go_meet
                        exact ⟨rfl, hA⟩
                      · have hz : (av1 == 0) = false := by rw [beq_eq_false_iff_ne]; exact fun h0 => absurd (HT0.out.1 h0) (by decide)
                        go_wp2_with fail
                        go_meet
                        exact ⟨rfl, hA⟩
                    case rest =>
                      clear hA
                      obtain ⟨rfl, hA⟩ := hcut
                      clear n8 p8
                      have a0 := cellb A0.out hA
                      go_wp2_with fail
                      refine (TG.out wc (HVa.out.carry hA)).mono ?_
                      rintro e X1 ⟨⟨u1, rfl, hu1⟩, hb⟩
                      clear a0
                      replace hA := bthen hA hb
                      clear hb
                      go_wp2_with fail
                      refine (TT1.out u1 X1 hu1).mono ?_
                      rintro e X2 ⟨⟨u3, rfl, hu3⟩, hb⟩
                      clear hu1
                      replace hA := bthen hA hb
                      clear hb
                      obtain ⟨xa, xc, rfl, _, _⟩ := id hu3
                      go_upto_region 41 with fail
                      obtain ⟨X3, hX3⟩ : ∃ v, v = World.alloc X2 (Obj.cells #[.slice xa LT.length xc] 57) := ⟨_, rfl⟩
                      have kX3 : Below X2.heap.size X2 X3 := by rw [hX3]; exact below_new _ _
                      have iX3 : Blk X3 (X2.heap.size) 57 [.slice xa LT.length xc] := by rw [hX3]; exact Blk.new _ _ _
                      have sX3 : X3.heap.size = X2.heap.size + 1 := by rw [hX3]; simp
                      rw [← hX3]
                      clear hX3
                      replace hu3 := hu3.carry kX3
                      have i27 := iX3
                      replace hA := bthen hA kX3
                      clear kX3 iX3 sX3
                      obtain ⟨G27, hG⟩ : ∃ G, G = X2.heap.size := ⟨_, rfl⟩
                      rw [← hG] at i27 ⊢
                      clear hG
                      have s0 := i27.cell (j := 0) (v := .slice xa LT.length xc) rfl
                      have HU3 := Lib.hid hu3
                      have HI27 := Lib.hid i27
                      have HA3 := Lib.hid hA
                      have S3 := Lib.hid s0
                      clear hu3 i27 hA
                      have h3 := Below.refl X3.heap.size X3
                      go_wp2_with fail
                      refine (TD.out (.slice xa LT.length xc) X3 (HU3.out.carry h3)).mono ?_
                      rintro e X4 ⟨⟨u4, rfl, hu4⟩, hb⟩
                      clear s0
                      replace h3 := bthen h3 hb
                      clear hb
                      go_wp2_with fail
                      refine (TF.out u4 X4 hu4).mono ?_
                      rintro e X5 ⟨rfl, hb⟩
                      clear hu4
                      replace h3 := bthen h3 hb
                      clear hb
                      have s0 := cellb S3.out h3
                      go_wp2_with fail
                      refine (TD.out (.slice xa LT.length xc) X5 (HU3.out.carry h3)).mono ?_
                      rintro e X6 ⟨⟨u4, rfl, hu4⟩, hb⟩
                      clear s0
                      replace h3 := bthen h3 hb
                      clear hb
                      go_wp2_with fail
                      refine (TG2.out u4 X6 hu4).mono ?_
                      rintro e X7 ⟨⟨u5, rfl, hu5⟩, hb⟩
                      clear hu4
                      replace h3 := bthen h3 hb
                      clear hb
                      go_wp2_with fail
                      refine (TP.out X7 (HUa.out.carry (bthen HA3.out h3))).mono ?_
                      rintro e X8 ⟨⟨u6, rfl, hu6⟩, hb⟩
                      replace hu5 := hu5.carry hb
                      replace h3 := bthen h3 hb
                      clear hb
                      go_wp2_with fail
                      refine (TM2.out u5 u6 X8 hu5 hu6).mono ?_
                      rintro e X9 ⟨rfl, hb⟩
                      clear hu5 hu6
                      replace h3 := bthen h3 hb
                      clear hb
                      have s0 := cellb S3.out h3
                      go_wp2_with fail
                      refine (TD.out (.slice xa LT.length xc) X9 (HU3.out.carry h3)).mono ?_
                      rintro e Z1 ⟨⟨u4, rfl, hu4⟩, hb⟩
                      clear s0
                      replace h3 := bthen h3 hb
                      clear hb
                      have ng : IntKind.i64.wrap (-av1) = -av1 := IntWalk.i64_in _ (by omega)
                      go_wp2_with fail
                      refine (TG2.out u4 Z1 hu4).mono ?_
                      rintro e Z2 ⟨⟨u5, rfl, hu5⟩, hb⟩
                      clear hu4
                      replace h3 := bthen h3 hb
                      clear hb
                      go_wp2_with fail
                      refine (TT2.out u5 Z2 hu5).mono ?_
                      rintro e Z3 ⟨⟨u7, rfl, hu7⟩, hb⟩
                      clear hu5 ng
                      replace h3 := bthen h3 hb
                      clear hb
                      obtain ⟨xb, xd, rfl, _, _⟩ := id hu7
                      go_upto_region 45 with fail
                      obtain ⟨Z4, hZ4⟩ : ∃ v, v = World.alloc Z3 (Obj.cells #[.slice xb ls.length xd] 57) := ⟨_, rfl⟩
                      have kZ4 : Below Z3.heap.size Z3 Z4 := by rw [hZ4]; exact below_new _ _
                      have iZ4 : Blk Z4 (Z3.heap.size) 57 [.slice xb ls.length xd] := by rw [hZ4]; exact Blk.new _ _ _
                      have sZ4 : Z4.heap.size = Z3.heap.size + 1 := by rw [hZ4]; simp
                      rw [← hZ4]
                      clear hZ4
                      replace hu7 := hu7.carry kZ4
                      replace h3 := bthen h3 kZ4
                      have i31 := iZ4
                      clear kZ4 iZ4 sZ4
                      obtain ⟨G31, hG⟩ : ∃ G, G = Z3.heap.size := ⟨_, rfl⟩
                      rw [← hG] at i31 ⊢
                      clear hG
                      have s1 := i31.cell (j := 0) (v := .slice xb ls.length xd) rfl
                      have S4 := Lib.hid s1
                      have HU7 := Lib.hid hu7
                      have HA4 := Lib.hid (bthen HA3.out h3)
                      clear i31 s1 hu7 h3
                      have h4 := Below.refl Z4.heap.size Z4
                      refine wp_region_held_drew (S := (fun W => W.cell? ⟨G31, 0, none⟩ = some (.slice xb ls.length xd) ∧ W.cell? ⟨G0, 0, none⟩ = some (.slice x ls.length cp))) (by kernel_rfl) ⟨cellb S4.out h4.drew, cellb A0.out (bthen HA4.out h4.drew)⟩ (fun hHeld0 => ?_)
                      obtain ⟨wzd, hwz⟩ : ∃ v, v = Z4.drew := ⟨_, rfl⟩
                      rw [← hwz] at hHeld0 ⊢
                      have hbzd : Below Z4.heap.size Z4 wzd := by rw [hwz]; exact h4.drew
                      have hlzd : Below Z4.heap.size Z4 wzd := by rw [hwz]; exact (Below.refl _ _).drew
                      clear hwz hlzd
                      refine wpAnyH_take (i := 0) (oi := { dst := some 346, op := Op.move (Operand.tmp 30), type := 28, pos := "law.go:472", after := #[], guard := none }) (v := ?_) rfl (by kernel_rfl) (by kernel_rfl) (by kernel_rfl) (fun _ _ _ h => h) (Or.inl ⟨by rfl, ?_⟩) (by assumption) ?_
                      rotate_left
                      · (intro w hSw; (try dsimp only at hSw); go_simp); (try with_reducible rfl)
                      try simp only [Act.put, List.setIfInBounds_toArray, List.set_cons_zero, List.set_cons_succ]
                      refine wpAnyH_take (i := 1) (oi := { dst := some 347, op := Op.binOp BinOp.eql 28 (Operand.tmp 346) (Operand.const (Value.int IntKind.i64 0)) 28, type := 4, pos := "law.go:472", after := #[{ on := 0, ground := Ground.data }], guard := none }) (v := ?_) rfl (by kernel_rfl) (by kernel_rfl) (by kernel_rfl) (fun _ _ _ h => h) (Or.inl ⟨by rfl, ?_⟩) (by assumption) ?_
                      rotate_left
                      · (intro w hSw; (try dsimp only at hSw); go_simp); (try with_reducible rfl)
                      try simp only [Act.put, List.setIfInBounds_toArray, List.set_cons_zero, List.set_cons_succ]
                      refine wpAnyH_take (i := 2) (oi := { dst := some 348, op := Op.move (Operand.tmp 347), type := 4, pos := "law.go:472", after := #[{ on := 1, ground := Ground.data }], guard := none }) (v := ?_) rfl (by kernel_rfl) (by kernel_rfl) (by kernel_rfl) (fun _ _ _ h => h) (Or.inl ⟨by rfl, ?_⟩) (by assumption) ?_
                      rotate_left
                      · (intro w hSw; (try dsimp only at hSw); go_simp); (try with_reducible rfl)
                      try simp only [Act.put, List.setIfInBounds_toArray, List.set_cons_zero, List.set_cons_succ]
                      refine wpAnyH_take (i := 3) (oi := { dst := some 349, op := Op.move (Operand.tmp 29), type := 4, pos := "law.go:472", after := #[{ on := 2, ground := Ground.guard }], guard := some (2, true) }) (v := ?_) rfl (by kernel_rfl) (by kernel_rfl) (by kernel_rfl) (fun _ _ _ h => h) (Or.inl ⟨by rfl, ?_⟩) (by assumption) ?_
                      rotate_left
                      · (intro w hSw; (try dsimp only at hSw); go_simp); (try with_reducible rfl)
                      try simp only [Act.put, List.setIfInBounds_toArray, List.set_cons_zero, List.set_cons_succ]
                      refine wpAnyH_take (i := 4) (oi := { dst := some 350, op := Op.unOp UnOp.not 4 (Operand.tmp 349), type := 4, pos := "law.go:472", after := #[{ on := 3, ground := Ground.data }, { on := 2, ground := Ground.guard }], guard := some (2, true) }) (v := ?_) rfl (by kernel_rfl) (by kernel_rfl) (by kernel_rfl) (fun _ _ _ h => h) (Or.inl ⟨by rfl, ?_⟩) (by assumption) ?_
                      rotate_left
                      · (intro w hSw; (try dsimp only at hSw); go_simp); (try with_reducible rfl)
                      try simp only [Act.put, List.setIfInBounds_toArray, List.set_cons_zero, List.set_cons_succ]
                      refine wpAnyH_take (i := 5) (oi := { dst := some 351, op := Op.pick (Operand.tmp 348) (Operand.tmp 350) (Operand.const (Value.bool false)), type := 4, pos := "law.go:472", after := #[{ on := 2, ground := Ground.data }, { on := 4, ground := Ground.data }], guard := none }) (v := ?_) rfl (by kernel_rfl) (by kernel_rfl) (by kernel_rfl) (fun _ _ _ h => h) (Or.inl ⟨by rfl, ?_⟩) (by assumption) ?_
                      rotate_left
                      · (intro w hSw; (try dsimp only at hSw); go_simp); (try with_reducible rfl)
                      try simp only [Act.put, List.setIfInBounds_toArray, List.set_cons_zero, List.set_cons_succ]
                      refine wpAnyH_take (i := 6) (oi := { dst := some 352, op := Op.move (Operand.tmp 351), type := 4, pos := "law.go:472", after := #[{ on := 5, ground := Ground.data }, { on := 2, ground := Ground.chain }], guard := none }) (v := ?_) rfl (by kernel_rfl) (by kernel_rfl) (by kernel_rfl) (fun _ _ _ h => h) (Or.inl ⟨by rfl, ?_⟩) (by assumption) ?_
                      rotate_left
                      · (intro w hSw; (try dsimp only at hSw); go_simp); (try with_reducible rfl)
                      try simp only [Act.put, List.setIfInBounds_toArray, List.set_cons_zero, List.set_cons_succ]
                      refine wpAnyH_take (i := 7) (oi := { dst := some 353, op := Op.move (Operand.tmp 32), type := 28, pos := "law.go:472", after := #[{ on := 6, ground := Ground.guard }], guard := some (6, true) }) (v := ?_) rfl (by kernel_rfl) (by kernel_rfl) (by kernel_rfl) (fun _ _ _ h => h) (Or.inl ⟨by rfl, ?_⟩) (by assumption) ?_
                      rotate_left
                      · (intro w hSw; (try dsimp only at hSw); go_simp); (try with_reducible rfl)
                      try simp only [Act.put, List.setIfInBounds_toArray, List.set_cons_zero, List.set_cons_succ]
                      refine wpAnyH_take (i := 8) (oi := { dst := some 354, op := Op.binOp BinOp.eql 28 (Operand.tmp 353) (Operand.const (Value.int IntKind.i64 0)) 28, type := 4, pos := "law.go:472", after := #[{ on := 7, ground := Ground.data }, { on := 6, ground := Ground.guard }], guard := some (6, true) }) (v := ?_) rfl (by kernel_rfl) (by kernel_rfl) (by kernel_rfl) (fun _ _ _ h => h) (Or.inl ⟨by rfl, ?_⟩) (by assumption) ?_
                      rotate_left
                      · (intro w hSw; (try dsimp only at hSw); go_simp); (try with_reducible rfl)
                      try simp only [Act.put, List.setIfInBounds_toArray, List.set_cons_zero, List.set_cons_succ]
                      refine wpAnyH_take (i := 9) (oi := { dst := some 355, op := Op.pick (Operand.tmp 352) (Operand.tmp 354) (Operand.const (Value.bool false)), type := 4, pos := "law.go:472", after := #[{ on := 6, ground := Ground.data }, { on := 8, ground := Ground.data }], guard := none }) (v := ?_) rfl (by kernel_rfl) (by kernel_rfl) (by kernel_rfl) (fun _ _ _ h => h) (Or.inl ⟨by rfl, ?_⟩) (by assumption) ?_
                      rotate_left
                      · (intro w hSw; (try dsimp only at hSw); go_simp); (try with_reducible rfl)
                      try simp only [Act.put, List.setIfInBounds_toArray, List.set_cons_zero, List.set_cons_succ]
                      refine wpAnyH_take (i := 10) (oi := { dst := some 356, op := Op.move (Operand.tmp 355), type := 4, pos := "law.go:472", after := #[{ on := 9, ground := Ground.data }, { on := 6, ground := Ground.chain }], guard := none }) (v := ?_) rfl (by kernel_rfl) (by kernel_rfl) (by kernel_rfl) (fun _ _ _ h => h) (Or.inl ⟨by rfl, ?_⟩) (by assumption) ?_
                      rotate_left
                      · (intro w hSw; (try dsimp only at hSw); go_simp); (try with_reducible rfl)
                      try simp only [Act.put, List.setIfInBounds_toArray, List.set_cons_zero, List.set_cons_succ]
                      refine wpAnyH_take (i := 11) (oi := { dst := some 357, op := Op.load 57 (Operand.tmp 31), type := 57, pos := "law.go:472", after := #[{ on := 10, ground := Ground.guard }], guard := some (10, true) }) (v := ?_) rfl (by kernel_rfl) (by kernel_rfl) (by kernel_rfl) (fun _ _ _ h => h) (Or.inl ⟨by rfl, ?_⟩) (by assumption) ?_
                      rotate_left
                      · (intro w hSw; (try dsimp only at hSw); go_simp); (try with_reducible rfl)
                      try simp only [Act.put, List.setIfInBounds_toArray, List.set_cons_zero, List.set_cons_succ]
                      refine wpAnyH_take (i := 13) (oi := { dst := some 359, op := Op.load 47 (Operand.tmp 3), type := 47, pos := "law.go:472", after := #[{ on := 10, ground := Ground.guard }], guard := some (10, true) }) (v := ?_) rfl (by kernel_rfl) (by kernel_rfl) (by kernel_rfl) (fun _ _ _ h => h) (Or.inl ⟨by rfl, ?_⟩) (by assumption) ?_
                      rotate_left
                      · (intro w hSw; (try dsimp only at hSw); go_simp); (try with_reducible rfl)
                      try simp only [Act.put, List.setIfInBounds_toArray, List.set_cons_zero, List.set_cons_succ]
                      refine wpAnyH_ready (rs := [12]) (by kernel_rfl) (by simp) ?_
                      refine (AllReadyH.cons (o := { dst := some 358, op := Op.call { callee := Callee.value (Operand.func 49), args := #[Operand.tmp 357], argTypes := #[57] }, type := 47, pos := "law.go:472", after := #[{ on := 11, ground := Ground.data }, { on := 10, ground := Ground.chain }, { on := 10, ground := Ground.guard }], guard := some (10, true) }) rfl (fun K hK => ?_) AllReadyH.nil)
                      go_simp
                      refine (TD2.out (.slice xb ls.length xd) wzd (HU7.out.carry hbzd)).mono ?_
                      rintro e wz12 ⟨⟨u8, rfl, hu8⟩, hl2⟩
                      have hl := hl2
                      clear hl2
                      (try go_wp2_with fail)
                      have hbz12 := bthen hbzd hl
                      clear hl
                      refine hK.out _ _ ⟨cellb S4.out hbz12, cellb A0.out (bthen HA4.out hbz12)⟩ (fun hHeld1 => ?_)
                      clear hK K hHeld0
                      try simp only [Act.put, List.setIfInBounds_toArray, List.set_cons_zero, List.set_cons_succ]
                      refine wpAnyH_ready (rs := [14]) (by kernel_rfl) (by simp) ?_
                      refine (AllReadyH.cons (o := { dst := some 360, op := Op.call { callee := Callee.value (Operand.func 50), args := #[Operand.tmp 358, Operand.tmp 359], argTypes := #[47, 47] }, type := 4, pos := "law.go:472", after := #[{ on := 12, ground := Ground.data }, { on := 13, ground := Ground.data }, { on := 12, ground := Ground.chain }, { on := 10, ground := Ground.guard }], guard := some (10, true) }) rfl (fun K hK => ?_) AllReadyH.nil)
                      go_simp
                      refine (TS.out u8 wz12 hu8 (HVa.out.carry (bthen HA4.out hbz12))).mono ?_
                      rintro e wz14 ⟨rfl, hl⟩
                      (try go_wp2_with fail)
                      have hbz14 := bthen hbz12 hl
                      have hu8 := hu8.carry hl
                      clear hl
                      refine hK.out _ _ ⟨cellb S4.out hbz14, cellb A0.out (bthen HA4.out hbz14)⟩ (fun hHeld2 => ?_)
                      clear hK K hHeld1
                      try simp only [Act.put, List.setIfInBounds_toArray, List.set_cons_zero, List.set_cons_succ]
                      refine wpAnyH_take (i := 15) (oi := { dst := some 361, op := Op.pick (Operand.tmp 356) (Operand.tmp 360) (Operand.const (Value.bool false)), type := 4, pos := "law.go:472", after := #[{ on := 10, ground := Ground.data }, { on := 14, ground := Ground.data }], guard := none }) (v := ?_) rfl (by kernel_rfl) (by kernel_rfl) (by kernel_rfl) (fun _ _ _ h => h) (Or.inl ⟨by rfl, ?_⟩) (by assumption) ?_
                      rotate_left
                      · (intro w hSw; (try dsimp only at hSw); go_simp); (try with_reducible rfl)
                      try simp only [Act.put, List.setIfInBounds_toArray, List.set_cons_zero, List.set_cons_succ]
                      refine wpAnyH_take (i := 16) (oi := { dst := some 362, op := Op.move (Operand.tmp 361), type := 4, pos := "law.go:472", after := #[{ on := 15, ground := Ground.data }, { on := 14, ground := Ground.chain }], guard := none }) (v := ?_) rfl (by kernel_rfl) (by kernel_rfl) (by kernel_rfl) (fun _ _ _ h => h) (Or.inl ⟨by rfl, ?_⟩) (by assumption) ?_
                      rotate_left
                      · (intro w hSw; (try dsimp only at hSw); go_simp); (try with_reducible rfl)
                      try simp only [Act.put, List.setIfInBounds_toArray, List.set_cons_zero, List.set_cons_succ]
                      refine wpAnyH_ready (rs := [17]) (by kernel_rfl) (by simp) ?_
                      refine (AllReadyH.cons (o := { dst := some 363, op := Op.call { callee := Callee.value (Operand.func 9), args := #[], argTypes := #[] }, type := 4, pos := "law.go:472", after := #[{ on := 16, ground := Ground.chain }, { on := 16, ground := Ground.guard }], guard := some (16, true) }) rfl (fun K hK => ?_) AllReadyH.nil)
                      go_simp
                      refine (TAW.out wz14 (HWa.out.carry (bthen HA4.out hbz14)) (HPa.out.carry (bthen HA4.out hbz14))).mono ?_
                      rintro e wz17 ⟨rfl, hl⟩
                      (try go_wp2_with fail)
                      have hbz17 := bthen hbz14 hl
                      have hu8 := hu8.carry hl
                      clear hl
                      refine hK.out _ _ ⟨cellb S4.out hbz17, cellb A0.out (bthen HA4.out hbz17)⟩ (fun hHeld3 => ?_)
                      clear hK K hHeld2
                      try simp only [Act.put, List.setIfInBounds_toArray, List.set_cons_zero, List.set_cons_succ]
                      refine wpAnyH_take (i := 18) (oi := { dst := some 364, op := Op.pick (Operand.tmp 362) (Operand.tmp 363) (Operand.const (Value.bool false)), type := 4, pos := "law.go:472", after := #[{ on := 16, ground := Ground.data }, { on := 17, ground := Ground.data }], guard := none }) (v := ?_) rfl (by kernel_rfl) (by kernel_rfl) (by kernel_rfl) (fun _ _ _ h => h) (Or.inl ⟨by rfl, ?_⟩) (by assumption) ?_
                      rotate_left
                      · (intro w hSw; (try dsimp only at hSw); go_simp); (try with_reducible rfl)
                      try simp only [Act.put, List.setIfInBounds_toArray, List.set_cons_zero, List.set_cons_succ]
                      refine wpAnyH_take (i := 19) (oi := { dst := some 6, op := Op.assign (Operand.tmp 364), type := 4, pos := "law.go:472", after := #[{ on := 18, ground := Ground.data }, { on := 17, ground := Ground.chain }, { on := 0, ground := Ground.phase }, { on := 1, ground := Ground.phase }, { on := 2, ground := Ground.phase }, { on := 3, ground := Ground.phase }, { on := 4, ground := Ground.phase }, { on := 5, ground := Ground.phase }, { on := 6, ground := Ground.phase }, { on := 7, ground := Ground.phase }, { on := 8, ground := Ground.phase }, { on := 9, ground := Ground.phase }, { on := 10, ground := Ground.phase }, { on := 11, ground := Ground.phase }, { on := 12, ground := Ground.phase }, { on := 13, ground := Ground.phase }, { on := 14, ground := Ground.phase }, { on := 15, ground := Ground.phase }, { on := 16, ground := Ground.phase }, { on := 17, ground := Ground.phase }, { on := 18, ground := Ground.phase }], guard := none }) (v := ?_) rfl (by kernel_rfl) (by kernel_rfl) (by kernel_rfl) (fun _ _ _ h => h) (Or.inl ⟨by rfl, ?_⟩) (by assumption) ?_
                      rotate_left
                      · (intro w hSw; (try dsimp only at hSw); go_simp); (try with_reducible rfl)
                      try simp only [Act.put, List.setIfInBounds_toArray, List.set_cons_zero, List.set_cons_succ]
                      refine wpAnyH_done (by kernel_rfl) ?_ _
                      clear hHeld3
                      have hE := bthen HB.out (bthen HA4.out hbz17)
                      obtain ⟨Z5, hZ5⟩ : ∃ v, v = wz17 := ⟨_, rfl⟩
                      rw [← hZ5] at hE ⊢
                      clear hZ5 hu8
                      go_wp2
                      go_ret
                      exact ⟨rfl, hE⟩
        · have hpz : (polE l != 0) = true := by rw [bne_iff_ne]; exact hpl
          generalize polE l = ep at R1 hpz
          clear hpl hf
          go_enter Tryz.func6, Tryz.ntmps6
          go_upto_region 1 with fail
          obtain ⟨W1, hW1⟩ : ∃ v, v = World.alloc w (Obj.cells #[.slice x ls.length cp] 47) := ⟨_, rfl⟩
          have kW1 : Below w.heap.size w W1 := by rw [hW1]; exact below_new _ _
          have iW1 : Blk W1 (w.heap.size) 47 [.slice x ls.length cp] := by rw [hW1]; exact Blk.new _ _ _
          have sW1 : W1.heap.size = w.heap.size + 1 := by rw [hW1]; simp
          rw [← hW1]
          clear hW1
          obtain ⟨Wa, hWa⟩ : ∃ v, v = World.alloc W1 (Obj.cells #[.int .i8 a, .int .i8 b, .int .i8 c, .int .i8 d] 95) := ⟨_, rfl⟩
          have kWa : Below W1.heap.size W1 Wa := by rw [hWa]; exact below_new _ _
          have iWa : Blk Wa (w.heap.size + 1) 95 [.int .i8 a, .int .i8 b, .int .i8 c, .int .i8 d] := by rw [hWa, ← sW1]; exact Blk.new _ _ _
          have sWa : Wa.heap.size = w.heap.size + 1 + 1 := by rw [hWa]; simp [sW1]
          rw [← hWa]
          clear hWa
          have a0 := (iW1.carry kWa).cell (j := 0) (v := .slice x ls.length cp) rfl
          have q0 := iWa.cell (j := 0) (v := .int .i8 a) rfl
          have q1 := iWa.cell (j := 1) (v := .int .i8 b) rfl
          have q2 := iWa.cell (j := 2) (v := .int .i8 c) rfl
          have q3 := iWa.cell (j := 3) (v := .int .i8 d) rfl
          obtain ⟨G1, hG1⟩ : ∃ G, G = w.heap.size + 1 := ⟨_, rfl⟩
          rw [← hG1] at q0 q1 q2 q3 ⊢
          obtain ⟨G0, hG0⟩ : ∃ G, G = w.heap.size := ⟨_, rfl⟩
          rw [← hG0] at a0 ⊢
          have hB := bthen kW1 kWa
          clear iW1 kW1 sW1 iWa kWa sWa hG0 hG1
          have HVa := Lib.hid (HV.out.carry hB)
          have HUa := Lib.hid (HU.out.carry hB)
          have HWa := Lib.hid (hw.carry hB)
          have HPa := Lib.hid (hp.carry hB)
          have HB := Lib.hid hB
          have S0b := Lib.hid (S0.out Wa HVa.out)
          clear S0
          clear HCS
          rw [hd4] at S0b
          go_wp2_with fail
          refine (S0b.out).mono ?_
          rintro e Wb ⟨rfl, hA⟩
          have a0 := cellb a0 hA
          have S1b := Lib.hid (S1.out Wb (HUa.out.carry hA))
          rw [hd9] at S1b
          clear S1
          go_wp2_with fail
          refine (S1b.out).mono ?_
          rintro e Wb ⟨rfl, rfl⟩
          go_wp2_with fail
          refine (R0.out Wb (HVa.out.carry hA)).mono ?_
          rintro e W2 ⟨rfl, hb⟩
          have a0 := cellb a0 hb
          replace hA := bthen hA hb
          clear hb
          go_wp2_with fail
          refine (R1.out W2 (HUa.out.carry hA)).mono ?_
          rintro e W3 ⟨rfl, hb⟩
          replace hA := bthen hA hb
          clear hb
          go_wp2_with fail
          refine (TAW.out W3 (HWa.out.carry hA) (HPa.out.carry hA)).mono ?_
          rintro e Wc ⟨rfl, hb⟩
          go_wp2_with fail
          go_ret
          exact ⟨rfl, bthen HB.out (bthen hA hb)⟩
      · have hfz : (fltE ls != 0) = true := by rw [bne_iff_ne]; exact hf
        generalize fltE ls = ef at R0 hfz
        clear hf
        go_enter Tryz.func6, Tryz.ntmps6
        go_upto_region 1 with fail
        obtain ⟨W1, hW1⟩ : ∃ v, v = World.alloc w (Obj.cells #[.slice x ls.length cp] 47) := ⟨_, rfl⟩
        have kW1 : Below w.heap.size w W1 := by rw [hW1]; exact below_new _ _
        have iW1 : Blk W1 (w.heap.size) 47 [.slice x ls.length cp] := by rw [hW1]; exact Blk.new _ _ _
        have sW1 : W1.heap.size = w.heap.size + 1 := by rw [hW1]; simp
        rw [← hW1]
        clear hW1
        obtain ⟨Wa, hWa⟩ : ∃ v, v = World.alloc W1 (Obj.cells #[.int .i8 a, .int .i8 b, .int .i8 c, .int .i8 d] 95) := ⟨_, rfl⟩
        have kWa : Below W1.heap.size W1 Wa := by rw [hWa]; exact below_new _ _
        have iWa : Blk Wa (w.heap.size + 1) 95 [.int .i8 a, .int .i8 b, .int .i8 c, .int .i8 d] := by rw [hWa, ← sW1]; exact Blk.new _ _ _
        have sWa : Wa.heap.size = w.heap.size + 1 + 1 := by rw [hWa]; simp [sW1]
        rw [← hWa]
        clear hWa
        have a0 := (iW1.carry kWa).cell (j := 0) (v := .slice x ls.length cp) rfl
        have q0 := iWa.cell (j := 0) (v := .int .i8 a) rfl
        have q1 := iWa.cell (j := 1) (v := .int .i8 b) rfl
        have q2 := iWa.cell (j := 2) (v := .int .i8 c) rfl
        have q3 := iWa.cell (j := 3) (v := .int .i8 d) rfl
        obtain ⟨G1, hG1⟩ : ∃ G, G = w.heap.size + 1 := ⟨_, rfl⟩
        rw [← hG1] at q0 q1 q2 q3 ⊢
        obtain ⟨G0, hG0⟩ : ∃ G, G = w.heap.size := ⟨_, rfl⟩
        rw [← hG0] at a0 ⊢
        have hB := bthen kW1 kWa
        clear iW1 kW1 sW1 iWa kWa sWa hG0 hG1
        have HVa := Lib.hid (HV.out.carry hB)
        have HUa := Lib.hid (HU.out.carry hB)
        have HWa := Lib.hid (hw.carry hB)
        have HPa := Lib.hid (hp.carry hB)
        have HB := Lib.hid hB
        have S0b := Lib.hid (S0.out Wa HVa.out)
        clear S0
        clear HCS
        rw [hd4] at S0b
        go_wp2_with fail
        refine (S0b.out).mono ?_
        rintro e Wb ⟨rfl, hA⟩
        have a0 := cellb a0 hA
        have S1b := Lib.hid (S1.out Wb (HUa.out.carry hA))
        rw [hd9] at S1b
        clear S1
        go_wp2_with fail
        refine (S1b.out).mono ?_
        rintro e Wb ⟨rfl, rfl⟩
        go_wp2_with fail
        refine (R0.out Wb (HVa.out.carry hA)).mono ?_
        rintro e W2 ⟨rfl, hb⟩
        have a0 := cellb a0 hb
        replace hA := bthen hA hb
        clear hb
        go_wp2_with fail
        refine (TAW.out W2 (HWa.out.carry hA) (HPa.out.carry hA)).mono ?_
        rintro e Wc ⟨rfl, hb⟩
        go_wp2_with fail
        go_ret
        exact ⟨rfl, bthen HB.out (bthen hA hb)⟩
    · have hd9 : decide ((l.length : Int) ≤ 9) = false := decide_eq_false hc9
      go_enter Tryz.func6, Tryz.ntmps6
      go_upto_region 1 with fail
      obtain ⟨W1, hW1⟩ : ∃ v, v = World.alloc w (Obj.cells #[.slice x ls.length cp] 47) := ⟨_, rfl⟩
      have kW1 : Below w.heap.size w W1 := by rw [hW1]; exact below_new _ _
      have iW1 : Blk W1 (w.heap.size) 47 [.slice x ls.length cp] := by rw [hW1]; exact Blk.new _ _ _
      have sW1 : W1.heap.size = w.heap.size + 1 := by rw [hW1]; simp
      rw [← hW1]
      clear hW1
      obtain ⟨Wa, hWa⟩ : ∃ v, v = World.alloc W1 (Obj.cells #[.int .i8 a, .int .i8 b, .int .i8 c, .int .i8 d] 95) := ⟨_, rfl⟩
      have kWa : Below W1.heap.size W1 Wa := by rw [hWa]; exact below_new _ _
      have iWa : Blk Wa (w.heap.size + 1) 95 [.int .i8 a, .int .i8 b, .int .i8 c, .int .i8 d] := by rw [hWa, ← sW1]; exact Blk.new _ _ _
      have sWa : Wa.heap.size = w.heap.size + 1 + 1 := by rw [hWa]; simp [sW1]
      rw [← hWa]
      clear hWa
      have a0 := (iW1.carry kWa).cell (j := 0) (v := .slice x ls.length cp) rfl
      have q0 := iWa.cell (j := 0) (v := .int .i8 a) rfl
      have q1 := iWa.cell (j := 1) (v := .int .i8 b) rfl
      have q2 := iWa.cell (j := 2) (v := .int .i8 c) rfl
      have q3 := iWa.cell (j := 3) (v := .int .i8 d) rfl
      obtain ⟨G1, hG1⟩ : ∃ G, G = w.heap.size + 1 := ⟨_, rfl⟩
      rw [← hG1] at q0 q1 q2 q3 ⊢
      obtain ⟨G0, hG0⟩ : ∃ G, G = w.heap.size := ⟨_, rfl⟩
      rw [← hG0] at a0 ⊢
      have hB := bthen kW1 kWa
      clear iW1 kW1 sW1 iWa kWa sWa hG0 hG1
      have HVa := Lib.hid (HV.out.carry hB)
      have HUa := Lib.hid (HU.out.carry hB)
      have HWa := Lib.hid (hw.carry hB)
      have HPa := Lib.hid (hp.carry hB)
      have HB := Lib.hid hB
      have S0b := Lib.hid (S0.out Wa HVa.out)
      clear S0
      clear HCS
      rw [hd4] at S0b
      go_wp2_with fail
      refine (S0b.out).mono ?_
      rintro e Wb ⟨rfl, hA⟩
      have a0 := cellb a0 hA
      have S1b := Lib.hid (S1.out Wb (HUa.out.carry hA))
      rw [hd9] at S1b
      clear S1
      go_wp2_with fail
      refine (S1b.out).mono ?_
      rintro e Wb ⟨rfl, rfl⟩
      go_wp2_with fail
      refine (TAW.out Wb (HWa.out.carry hA) (HPa.out.carry hA)).mono ?_
      rintro e Wc ⟨rfl, hb⟩
      go_wp2_with fail
      go_ret
      exact ⟨rfl, bthen HB.out (bthen hA hb)⟩
  · have hd4 : decide ((ls.length : Int) ≤ 4) = false := decide_eq_false hc4
    go_enter Tryz.func6, Tryz.ntmps6
    go_upto_region 1 with fail
    obtain ⟨W1, hW1⟩ : ∃ v, v = World.alloc w (Obj.cells #[.slice x ls.length cp] 47) := ⟨_, rfl⟩
    have kW1 : Below w.heap.size w W1 := by rw [hW1]; exact below_new _ _
    have iW1 : Blk W1 (w.heap.size) 47 [.slice x ls.length cp] := by rw [hW1]; exact Blk.new _ _ _
    have sW1 : W1.heap.size = w.heap.size + 1 := by rw [hW1]; simp
    rw [← hW1]
    clear hW1
    obtain ⟨Wa, hWa⟩ : ∃ v, v = World.alloc W1 (Obj.cells #[.int .i8 a, .int .i8 b, .int .i8 c, .int .i8 d] 95) := ⟨_, rfl⟩
    have kWa : Below W1.heap.size W1 Wa := by rw [hWa]; exact below_new _ _
    have iWa : Blk Wa (w.heap.size + 1) 95 [.int .i8 a, .int .i8 b, .int .i8 c, .int .i8 d] := by rw [hWa, ← sW1]; exact Blk.new _ _ _
    have sWa : Wa.heap.size = w.heap.size + 1 + 1 := by rw [hWa]; simp [sW1]
    rw [← hWa]
    clear hWa
    have a0 := (iW1.carry kWa).cell (j := 0) (v := .slice x ls.length cp) rfl
    have q0 := iWa.cell (j := 0) (v := .int .i8 a) rfl
    have q1 := iWa.cell (j := 1) (v := .int .i8 b) rfl
    have q2 := iWa.cell (j := 2) (v := .int .i8 c) rfl
    have q3 := iWa.cell (j := 3) (v := .int .i8 d) rfl
    obtain ⟨G1, hG1⟩ : ∃ G, G = w.heap.size + 1 := ⟨_, rfl⟩
    rw [← hG1] at q0 q1 q2 q3 ⊢
    obtain ⟨G0, hG0⟩ : ∃ G, G = w.heap.size := ⟨_, rfl⟩
    rw [← hG0] at a0 ⊢
    have hB := bthen kW1 kWa
    clear iW1 kW1 sW1 iWa kWa sWa hG0 hG1
    have HVa := Lib.hid (HV.out.carry hB)
    have HUa := Lib.hid (HU.out.carry hB)
    have HWa := Lib.hid (hw.carry hB)
    have HPa := Lib.hid (hp.carry hB)
    have HB := Lib.hid hB
    have S0b := Lib.hid (S0.out Wa HVa.out)
    clear S0
    clear HCS
    rw [hd4] at S0b
    go_wp2_with fail
    refine (S0b.out).mono ?_
    rintro e Wb ⟨rfl, hA⟩
    have a0 := cellb a0 hA
    go_wp2_with fail
    refine (TAW.out Wb (HWa.out.carry hA) (HPa.out.carry hA)).mono ?_
    rintro e Wc ⟨rfl, hb⟩
    go_wp2_with fail
    go_ret
    exact ⟨rfl, bthen HB.out (bthen hA hb)⟩
end

end Go.Proofs.YtlohcnecehlljaaGreatDoor

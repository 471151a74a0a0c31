import Derived.Test.YtfdehcphmmhjaaaGreatDoorLoopD
namespace Go.Proofs.YtfdehcphmmhjaaaGreatDoor
open Go.RowKit

def trimN (l : List Int) : Nat → Nat
  | 0 => 0
  | m + 1 => if l[m]?.getD 0 = 0 then trimN l m else m + 1
theorem trimN_le (l : List Int) (m : Nat) : trimN l m ≤ m := by
  induction m with
  | zero => exact Nat.le_refl _
  | succ m ih => unfold trimN; split <;> omega
def trimL (l : List Int) : List Int := l.take (trimN l l.length)
theorem trimL_length (l : List Int) : (trimL l).length = trimN l l.length := by
  have := trimN_le l l.length
  simp [trimL]; omega

theorem Ints.take {w : World} {b off n cp : Nat} {l : List Int} (h : Ints w (.slice (some ⟨b, off, none⟩) l.length cp) l) (hn : n ≤ l.length) : Ints w (.slice (some ⟨b, off, none⟩) n cp) (l.take n) := by
  obtain ⟨a, cp', he, hc, h⟩ := h
  cases he
  refine ⟨_, cp, by rw [List.length_take, Nat.min_eq_left hn], by rw [List.length_take]; omega, fun h0 => ?_⟩
  rw [List.length_take] at h0
  obtain ⟨b', off', he, h⟩ := h (by omega)
  cases he
  refine ⟨_, _, rfl, fun j hj => ?_⟩
  rw [List.length_take] at hj
  rw [h j (by omega), List.getElem?_take, if_pos (by omega)]

set_option maxHeartbeats 400000 in
theorem trimmed_any (b off cp : Nat) (l : List Int) (w : World) (hl : l.length ≤ 1000000000) (hv : Ints w (.slice (some ⟨b, off, none⟩) l.length cp) l) :
    Calls Tryz.prog 127 #[.slice (some ⟨b, off, none⟩) l.length cp] w fun r w' => r = .returned (.slice (some ⟨b, off, none⟩) (trimN l l.length) cp) ∧ w = w' := by
  obtain ⟨a, cp', he, hc, hv⟩ := hv
  cases he
  have hcs : ∀ j, j < l.length → w.cell? ⟨b, off + j, none⟩ = some (.int .i64 (l[j]?.getD 0)) := fun j hj => by
    obtain ⟨b', off', he, h⟩ := hv (by omega)
    cases he
    exact h j hj
  clear hv
  go_enter Tryz.func127, Tryz.ntmps127
  go_wp2
  go_loop [0] (fun s => ∃ m : Nat, m ≤ l.length ∧ s = .slice (some ⟨b, off, none⟩) m cp ∧ trimN l m = trimN l l.length) (fun s => match s with | .slice _ n _ => n | _ => 0)
  case atStart => exact ⟨_, Nat.le_refl _, rfl, rfl⟩
  case round =>
    obtain ⟨m, hm, rfl, hT⟩ := hrel
    have HT := Lib.hid hT
    clear hT
    cases m with
    | zero =>
      go_wp2
      go_ret
      exact ⟨by rw [← HT.out]; rfl, rfl⟩
    | succ m =>
      have hcell := hcs m (by omega)
      clear hcs
      generalize hx : l[m]?.getD 0 = x at hcell
      have HX := Lib.hid hx
      clear hx
      by_cases h0 : x = 0
      · subst h0
        go_wp2
        go_round
        case rel => exact ⟨m, by omega, by simp, by have := HT.out; rw [trimN, if_pos HX.out] at this; exact this⟩
        case measure => simp
      · go_wp2
        go_ret
        exact ⟨by have := HT.out; rw [trimN, if_neg (by rw [HX.out]; exact h0)] at this; rw [← this]; rfl, rfl⟩

def pInner (q : List Int) (out : List Int) : Nat → List Int
  | 0 => out
  | k + 1 => (pInner q out k).set k (wrap64 ((pInner q out k)[k]?.getD 0 + q[k]?.getD 0))
theorem pInner_length (q out : List Int) (k : Nat) : (pInner q out k).length = out.length := by
  induction k with
  | zero => rfl
  | succ k ih => simp [pInner, ih]
def sumW (p q : List Int) : List Int := pInner q (p ++ List.replicate (max p.length q.length - p.length) 0) q.length
theorem sumW_length (p q : List Int) : (sumW p q).length = max p.length q.length := by simp [sumW, pInner_length]; omega
def plusW (p q : List Int) : List Int := trimL (sumW p q)

set_option maxHeartbeats 1000000 in
set_option maxHeartbeats 1000000 in
theorem plus_lt (ap aq : Option Addr) (cp cq : Nat) (p q : List Int) (w : World) (hp : Ints w (.slice ap p.length cp) p) (hq : Ints w (.slice aq q.length cq) q) (_hp2 : p.length ≤ 1000000) (hq2 : q.length ≤ 1000000) (hlt : p.length < q.length) :
    Calls Tryz.prog 100 #[.slice ap p.length cp, .slice aq q.length cq] w fun r w' => r = .returned (.slice (some ⟨w.heap.size, 0, none⟩) (trimN (pInner q (p ++ List.replicate (q.length - p.length) 0) q.length) q.length) q.length) ∧ w.alloc (.cells (ia (pInner q (p ++ List.replicate (q.length - p.length) 0) q.length)) 3) = w' := by
  have hmk := run_make_row' (P := Tryz.prog) 30 3 (.int .i64 0) 8 Tryz.underlying30 Tryz.infoInt rfl .i64 .i64 q.length (by omega) (by omega)
  rw [ia_made] at hmk
  have hcopy := run_copy_new (P := Tryz.prog) w 30 30 3 3 3 (List.replicate q.length 0) p q.length ap cp Tryz.underlying30 (by kernel_rfl) hp (by simp; try omega)
  rw [List.length_replicate, List.drop_replicate] at hcopy
  obtain ⟨aq', cq', he, hcq, hqc⟩ := hq
  cases he
  have hz : (p ++ List.replicate (q.length - p.length) (0 : Int)).length = q.length := by simp; try omega
  generalize p ++ List.replicate (q.length - p.length) (0 : Int) = Z at hz hcopy ⊢
  go_enter Tryz.func100, Tryz.ntmps100
  go_wp2
  clear hmk hcopy
  rcases Nat.eq_zero_or_pos q.length with h0 | h0
  · have hq0 : q = [] := List.length_eq_zero_iff.1 h0
    subst hq0
    go_loopw [19] (fun i wr => i = .int .i64 0 ∧ wr = w.alloc (.cells (ia Z) 3)) (fun i _ => 0)
    case atStart => exact ⟨rfl, rfl⟩
    case round =>
      obtain ⟨rfl, rfl⟩ := hrel
      have hpi : pInner [] Z 0 = Z := rfl
      have htr := trimmed_any w.heap.size 0 Z.length Z (w.alloc (.cells (ia Z) 3)) (by omega) (Ints.ofIa w 3 Z)
      rw [hz] at htr
      have HT := Lib.hid htr
      clear htr
      go_wp2_with fail
      refine HT.out.mono ?_
      rintro e w' ⟨rfl, rfl⟩
      go_wp2
      go_ret
      exact ⟨rfl, rfl⟩
  · obtain ⟨bq, oq, rfl, hqd⟩ := hqc h0
    clear hqc
    go_loopw [19] (fun i wr => ∃ k : Nat, k ≤ q.length ∧ i = .int .i64 k ∧ wr = w.alloc (.cells (ia (pInner q Z k)) 3)) (fun i _ => q.length - (intOf i).toNat)
    case atStart => exact ⟨0, by omega, rfl, rfl⟩
    case round =>
      obtain ⟨k, hk, rfl, rfl⟩ := hrel
      have hlen2 := pInner_length q Z k
      by_cases hlk : k < q.length
      · have hcell2 := cell_past (hqd k hlk) (.cells (ia (pInner q Z k)) 3)
        have hnext : ∀ x, x = wrap64 ((pInner q Z k)[k]?.getD 0 + q[k]?.getD 0) → (ia (pInner q Z k)).setIfInBounds k (.int .i64 x) = ia (pInner q Z (k + 1)) := fun x hx => by rw [ia_set, pInner, hx]
        have HN := Lib.hid hnext
        clear hnext hqd
        generalize pInner q Z k = o2 at hcell2 hlen2 HN
        generalize q[k]?.getD 0 = b at hcell2 HN
        have hoc := ia_cell w 3 o2 k (by omega)
        have hof := ia_frozen w 3 o2 k
        generalize o2[k]?.getD 0 = c at hoc HN
        go_wp2
        go_roundw
        case rel => exact ⟨k + 1, by omega, by go_num, by rw [HN.out _ rfl]⟩
        case measure => simp [intOf]; omega
      · obtain rfl : k = q.length := by omega
        generalize ho : pInner q Z q.length = o2 at hlen2 ⊢
        have HO := Lib.hid ho
        clear ho
        have htr := trimmed_any w.heap.size 0 o2.length o2 (w.alloc (.cells (ia o2) 3)) (by omega) (Ints.ofIa w 3 o2)
        rw [hlen2, hz] at htr
        have HT := Lib.hid htr
        clear htr hqd
        go_wp2_with fail
        refine HT.out.mono ?_
        rintro e w' ⟨rfl, rfl⟩
        go_wp2
        go_ret
        exact ⟨by rw [HO.out]; rfl, by rw [HO.out]⟩

set_option maxHeartbeats 1000000 in
theorem plus_ge (ap aq : Option Addr) (cp cq : Nat) (p q : List Int) (w : World) (hp : Ints w (.slice ap p.length cp) p) (hq : Ints w (.slice aq q.length cq) q) (hp2 : p.length ≤ 1000000) (hq2 : q.length ≤ 1000000) (hlt : ¬ p.length < q.length) :
    Calls Tryz.prog 100 #[.slice ap p.length cp, .slice aq q.length cq] w fun r w' => r = .returned (.slice (some ⟨w.heap.size, 0, none⟩) (trimN (pInner q (p ++ List.replicate (p.length - p.length) 0) q.length) p.length) p.length) ∧ w.alloc (.cells (ia (pInner q (p ++ List.replicate (p.length - p.length) 0) q.length)) 3) = w' := by
  have hmk := run_make_row' (P := Tryz.prog) 30 3 (.int .i64 0) 8 Tryz.underlying30 Tryz.infoInt rfl .i64 .i64 p.length (by omega) (by omega)
  rw [ia_made] at hmk
  have hcopy := run_copy_new (P := Tryz.prog) w 30 30 3 3 3 (List.replicate p.length 0) p p.length ap cp Tryz.underlying30 (by kernel_rfl) hp (by simp; try omega)
  rw [List.length_replicate, List.drop_replicate] at hcopy
  obtain ⟨aq', cq', he, hcq, hqc⟩ := hq
  cases he
  have hz : (p ++ List.replicate (p.length - p.length) (0 : Int)).length = p.length := by simp; try omega
  generalize p ++ List.replicate (p.length - p.length) (0 : Int) = Z at hz hcopy ⊢
  go_enter Tryz.func100, Tryz.ntmps100
  go_wp2
  clear hmk hcopy
  rcases Nat.eq_zero_or_pos q.length with h0 | h0
  · have hq0 : q = [] := List.length_eq_zero_iff.1 h0
    subst hq0
    go_loopw [19] (fun i wr => i = .int .i64 0 ∧ wr = w.alloc (.cells (ia Z) 3)) (fun i _ => 0)
    case atStart => exact ⟨rfl, rfl⟩
    case round =>
      obtain ⟨rfl, rfl⟩ := hrel
      have hpi : pInner [] Z 0 = Z := rfl
      have htr := trimmed_any w.heap.size 0 Z.length Z (w.alloc (.cells (ia Z) 3)) (by omega) (Ints.ofIa w 3 Z)
      rw [hz] at htr
      have HT := Lib.hid htr
      clear htr
      go_wp2_with fail
      refine HT.out.mono ?_
      rintro e w' ⟨rfl, rfl⟩
      go_wp2
      go_ret
      exact ⟨rfl, rfl⟩
  · obtain ⟨bq, oq, rfl, hqd⟩ := hqc h0
    clear hqc
    go_loopw [19] (fun i wr => ∃ k : Nat, k ≤ q.length ∧ i = .int .i64 k ∧ wr = w.alloc (.cells (ia (pInner q Z k)) 3)) (fun i _ => q.length - (intOf i).toNat)
    case atStart => exact ⟨0, by omega, rfl, rfl⟩
    case round =>
      obtain ⟨k, hk, rfl, rfl⟩ := hrel
      have hlen2 := pInner_length q Z k
      by_cases hlk : k < q.length
      · have hcell2 := cell_past (hqd k hlk) (.cells (ia (pInner q Z k)) 3)
        have hnext : ∀ x, x = wrap64 ((pInner q Z k)[k]?.getD 0 + q[k]?.getD 0) → (ia (pInner q Z k)).setIfInBounds k (.int .i64 x) = ia (pInner q Z (k + 1)) := fun x hx => by rw [ia_set, pInner, hx]
        have HN := Lib.hid hnext
        clear hnext hqd
        generalize pInner q Z k = o2 at hcell2 hlen2 HN
        generalize q[k]?.getD 0 = b at hcell2 HN
        have hoc := ia_cell w 3 o2 k (by omega)
        have hof := ia_frozen w 3 o2 k
        generalize o2[k]?.getD 0 = c at hoc HN
        go_wp2
        go_roundw
        case rel => exact ⟨k + 1, by omega, by go_num, by rw [HN.out _ rfl]⟩
        case measure => simp [intOf]; omega
      · obtain rfl : k = q.length := by omega
        generalize ho : pInner q Z q.length = o2 at hlen2 ⊢
        have HO := Lib.hid ho
        clear ho
        have htr := trimmed_any w.heap.size 0 o2.length o2 (w.alloc (.cells (ia o2) 3)) (by omega) (Ints.ofIa w 3 o2)
        rw [hlen2, hz] at htr
        have HT := Lib.hid htr
        clear htr hqd
        go_wp2_with fail
        refine HT.out.mono ?_
        rintro e w' ⟨rfl, rfl⟩
        go_wp2
        go_ret
        exact ⟨by rw [HO.out]; rfl, by rw [HO.out]⟩

theorem plus_any (ap aq : Option Addr) (cp cq : Nat) (p q : List Int) (w : World) (hp : Ints w (.slice ap p.length cp) p) (hq : Ints w (.slice aq q.length cq) q) (hp2 : p.length ≤ 1000000) (hq2 : q.length ≤ 1000000) :
    Calls Tryz.prog 100 #[.slice ap p.length cp, .slice aq q.length cq] w fun r w' => r = .returned (.slice (some ⟨w.heap.size, 0, none⟩) (trimN (sumW p q) (max p.length q.length)) (max p.length q.length)) ∧ w.alloc (.cells (ia (sumW p q)) 3) = w' := by
  unfold sumW
  by_cases h : p.length < q.length
  · rw [Nat.max_eq_right (by omega)]; exact plus_lt ap aq cp cq p q w hp hq hp2 hq2 h
  · rw [Nat.max_eq_left (by omega)]; exact plus_ge ap aq cp cq p q w hp hq hp2 hq2 h

theorem Ints.plus (w : World) (T : TypeId) (p q : List Int) (n m : Nat) (hn : n = trimN (sumW p q) (max p.length q.length)) (hm : m = max p.length q.length) :
    Ints (w.alloc (.cells (ia (sumW p q)) T)) (.slice (some ⟨w.heap.size, 0, none⟩) n m) (plusW p q) := by
  have hl := sumW_length p q
  subst hn hm
  rw [← hl]
  exact (Ints.ofIa w T (sumW p q)).take (trimN_le _ _)

/-- a call that hands back a slice that holds l, in new memory. -/
def GivesInts (w : World) (l : List Int) (r : Ending) (w' : World) : Prop := (∃ u, r = .returned u ∧ Ints w' u l) ∧ Below w.heap.size w w'

theorem times_i (vp vq : Value) (p q : List Int) (w : World) (hp : Ints w vp p) (hq : Ints w vq q) (hp1 : 1 ≤ p.length) (hq1 : 1 ≤ q.length) (hp2 : p.length ≤ 1000000) (hq2 : q.length ≤ 1000000) :
    Calls Tryz.prog 99 #[vp, vq] w (GivesInts w (timesW p q)) :=
  (times_any vp vq p q w hp hq hp1 hq1 hp2 hq2).mono fun _ _ ⟨h1, h2⟩ => by
    subst h2
    refine ⟨⟨_, h1, ?_⟩, (Below.refl _ _).alloc (Nat.le_refl _) _⟩
    rw [← timesW_length]
    exact Ints.ofIa w _ _

theorem plus_i (vp vq : Value) (p q : List Int) (w : World) (hp : Ints w vp p) (hq : Ints w vq q) (hp2 : p.length ≤ 1000000) (hq2 : q.length ≤ 1000000) :
    Calls Tryz.prog 100 #[vp, vq] w (GivesInts w (plusW p q)) := by
  have hp' := hp
  have hq' := hq
  obtain ⟨ap, cp, rfl, _⟩ := hp'
  obtain ⟨aq, cq, rfl, _⟩ := hq'
  exact (plus_any ap aq cp cq p q w hp hq hp2 hq2).mono fun _ _ ⟨h1, h2⟩ => by
    subst h2
    exact ⟨⟨_, h1, Ints.plus w _ p q _ _ rfl rfl⟩, (Below.refl _ _).alloc (Nat.le_refl _) _⟩

def closedW (a b c d : List Int) : List Int := plusW (timesW b d) (timesW a c)

set_option maxHeartbeats 1000000 in
theorem closed_any (va vb vc vd : Value) (a b c d : List Int) (w : World) (ha : Ints w va a) (hb : Ints w vb b) (hc : Ints w vc c) (hd : Ints w vd d)
    (ha1 : 1 ≤ a.length) (hb1 : 1 ≤ b.length) (hc1 : 1 ≤ c.length) (hd1 : 1 ≤ d.length) (ha2 : a.length ≤ 100000) (hb2 : b.length ≤ 100000) (hc2 : c.length ≤ 100000) (hd2 : d.length ≤ 100000) :
    Calls Tryz.prog 59 #[.agg #[va, vb, vc, vd]] w (GivesInts w (closedW a b c d)) := by
  go_enter Tryz.func59, Tryz.ntmps59
  go_wp2_with fail
  have hbW : Below w.heap.size w (w.alloc (.cells #[va, vb, vc, vd] 32)) := (Below.refl _ _).alloc (Nat.le_refl _) _
  have h4 := Four.new w 32 va vb vc vd
  obtain ⟨W, hW⟩ : ∃ W, W = w.alloc (.cells #[va, vb, vc, vd] 32) := ⟨_, rfl⟩
  rw [← hW] at hbW h4 ⊢
  clear hW
  have hF := Lib.hid h4
  obtain ⟨k0, k1, k2, k3⟩ := h4
  have hT1 := times_i vb vd b d W.drew (hb.below hbW).drew (hd.below hbW).drew hb1 hd1 (by omega) (by omega)
  go_region_held3 (fun w' => w'.cell? ⟨w.heap.size, 0, none⟩ = some va ∧ w'.cell? ⟨w.heap.size, 1, none⟩ = some vb ∧ w'.cell? ⟨w.heap.size, 2, none⟩ = some vc ∧ w'.cell? ⟨w.heap.size, 3, none⟩ = some vd) (first | go_keep | exact Four.below hF.out hb2 | exact (Four.below hF.out hb2).below hb3 | exact ((Four.below hF.out hb2).below hb3).below hb4)
    (first | (go_at_call 99; (with_reducible refine hT1.mono ?_); rintro e w2 ⟨⟨u, rfl, hu⟩, hb2'⟩; have hb2 := below_drew hb2'; clear hb2') | (go_at_call 99; (with_reducible refine (times_i va vc a c _ ?_ ?_ ha1 hc1 ?_ ?_).mono ?_); (exact ha.below (hbW.trans (hb2.mono hbW.size))); (exact hc.below (hbW.trans (hb2.mono hbW.size))); omega; omega; rintro e w3 ⟨⟨u', rfl, hu'⟩, hb3⟩) | (go_at_call 100; (with_reducible refine (plus_i _ _ _ _ _ (hu.below hb3) hu' ?_ ?_).mono ?_); (rw [timesW_length]; omega); (rw [timesW_length]; omega); rintro e w4 ⟨⟨u2, rfl, hu2⟩, hb4⟩))
  go_wp2
  go_ret
  exact ⟨⟨_, rfl, hu2⟩, ((hbW.trans (hb2.mono hbW.size)).trans (hb3.mono (Nat.le_trans hbW.size hb2.size))).trans (hb4.mono (Nat.le_trans (Nat.le_trans hbW.size hb2.size) hb3.size))⟩

theorem bthen {w w1 w2 : World} (h1 : Below w.heap.size w w1) (h2 : Below w1.heap.size w1 w2) : Below w.heap.size w w2 := h1.trans (h2.mono h1.size)

theorem degree_i {v : Value} {l : List Int} {w0 : World} (h : Ints w0 v l) (hn : l.length ≤ 1000000) (w : World) :
    Calls Tryz.prog 69 #[v] w fun r w' => r = .returned (.int .i64 ((l.length : Int) - 1)) ∧ w = w' := by
  obtain ⟨a, cp, rfl, _⟩ := h
  exact degree_any a _ cp w hn

theorem closedW_length (a b c d : List Int) : (closedW a b c d).length ≤ max (b.length + d.length - 1) (a.length + c.length - 1) := by
  unfold closedW plusW
  rw [trimL_length]
  have := trimN_le (sumW (timesW b d) (timesW a c)) (sumW (timesW b d) (timesW a c)).length
  rw [sumW_length, timesW_length, timesW_length] at this
  rw [sumW_length, timesW_length, timesW_length]
  exact this

def loop1E (a b c d : List Int) : Int := firstE [checkPolyE a, checkPolyE b, checkPolyE c, checkPolyE d]
def loop2E (a b c d : List Int) : Int :=
  firstE [whenE (decide ((2 : Int) < max ((b.length : Int) - 1) ((d.length : Int) - 1))) 20, whenE (decide (b.length ≤ a.length) || decide (d.length < c.length)) 2, whenE ((closedW a b c d).any largeB) 4]
def checkLoopE (a b c d : List Int) : Int := if loop1E a b c d ≠ 0 then loop1E a b c d else loop2E a b c d

theorem checkPolyE_ok {l : List Int} (h : checkPolyE l = 0) : 1 ≤ l.length ∧ l.length ≤ 5 := by
  unfold checkPolyE at h
  split at h
  · simp at h
  · split at h
    · simp at h
    · omega
theorem firstE_cons_ok {x : Int} {l : List Int} (h : firstE (x :: l) = 0) : x = 0 ∧ firstE l = 0 := by
  unfold firstE at h
  split at h
  · exact ⟨by assumption, h⟩
  · exact absurd h (by assumption)
theorem loop1E_ok {a b c d : List Int} (h : loop1E a b c d = 0) : checkPolyE a = 0 ∧ checkPolyE b = 0 ∧ checkPolyE c = 0 ∧ checkPolyE d = 0 := by
  obtain ⟨h1, h⟩ := firstE_cons_ok h
  obtain ⟨h2, h⟩ := firstE_cons_ok h
  obtain ⟨h3, h⟩ := firstE_cons_ok h
  obtain ⟨h4, h⟩ := firstE_cons_ok h
  exact ⟨h1, h2, h3, h4⟩

set_option maxHeartbeats 2000000 in
theorem CheckLoop_any (va vb vc vd : Value) (a b c d : List Int) (w : World) (ha : Ints w va a) (hb : Ints w vb b) (hc : Ints w vc c) (hd : Ints w vd d)
    (ha2 : a.length ≤ 100000) (hb2 : b.length ≤ 100000) (hc2 : c.length ≤ 100000) (hd2 : d.length ≤ 100000) :
    Calls Tryz.prog 34 #[.agg #[va, vb, vc, vd]] w fun r w' => r = .returned (.int .i64 (checkLoopE a b c d)) ∧ Below w.heap.size w w' := by
  go_enter Tryz.func34, Tryz.ntmps34
  go_wp2_with fail
  have hbW : Below w.heap.size w (w.alloc (.cells #[va, vb, vc, vd] 32)) := (Below.refl _ _).alloc (Nat.le_refl _) _
  have h4 := Four.new w 32 va vb vc vd
  obtain ⟨W, hW⟩ : ∃ W, W = w.alloc (.cells #[va, vb, vc, vd] 32) := ⟨_, rfl⟩
  rw [← hW] at hbW h4 ⊢
  clear hW
  have hF := Lib.hid h4
  obtain ⟨k0, k1, k2, k3⟩ := h4
  have hbD : Below w.heap.size w W.drew := hbW.drew
  have hT1 := CheckPoly_any va a W.drew (by omega) (ha.below hbD)
  go_region_held3 (fun w' => w'.cell? ⟨w.heap.size, 0, none⟩ = some va ∧ w'.cell? ⟨w.heap.size, 1, none⟩ = some vb ∧ w'.cell? ⟨w.heap.size, 2, none⟩ = some vc ∧ w'.cell? ⟨w.heap.size, 3, none⟩ = some vd)
    (first | go_keep | exact Four.below hF.out h2 | exact Four.below hF.out h3 | exact Four.below hF.out h4 | exact Four.below hF.out h5)
    (first | (go_at_call 54; (with_reducible refine hT1.mono ?_); clear hT1; rintro e w2 ⟨rfl, h2'⟩; have h2 := below_drew h2'; have t2 := CheckPoly_any vb b w2 (by omega) (hb.below (bthen hbW h2))) | (go_at_call 54; (with_reducible refine t2.mono ?_); clear t2; rintro e w3 ⟨rfl, h3'⟩; have h3 := bthen h2 h3'; have t3 := CheckPoly_any vc c w3 (by omega) (hc.below (bthen hbW h3))) | (go_at_call 54; (with_reducible refine t3.mono ?_); clear t3; rintro e w4 ⟨rfl, h4'⟩; have h4 := bthen h3 h4'; have t4 := CheckPoly_any vd d w4 (by omega) (hd.below (bthen hbW h4))) | (go_at_call 54; (with_reducible refine t4.mono ?_); clear t4; rintro e w5 ⟨rfl, h5'⟩; have h5 := bthen h4 h5')  | (go_at_call 45; (with_reducible refine (first4 _ _ _ _ _ _).mono ?_); rintro e w' ⟨rfl, rfl⟩))
  have h6 : Below w.heap.size w (w5.alloc (.cells #[.int .i64 (checkPolyE a), .int .i64 (checkPolyE b), .int .i64 (checkPolyE c), .int .i64 (checkPolyE d)] 27)) := bthen hbW (h5.alloc h5.size _)
  have f6 := hF.out.below (h5.alloc h5.size (.cells #[.int .i64 (checkPolyE a), .int .i64 (checkPolyE b), .int .i64 (checkPolyE c), .int .i64 (checkPolyE d)] 27))
  clear h2' h3' h4' h5' h2 h3 h4 k0 k1 k2 k3 hF hbD hbW
  obtain ⟨V, hV⟩ : ∃ V, V = w5.alloc (.cells #[.int .i64 (checkPolyE a), .int .i64 (checkPolyE b), .int .i64 (checkPolyE c), .int .i64 (checkPolyE d)] 27) := ⟨_, rfl⟩
  rw [← hV] at h6 f6 ⊢
  clear hV h5
  have hFV := Lib.hid f6
  obtain ⟨k0, k1, k2, k3⟩ := f6
  rename_i hHeld
  clear hHeld
  generalize hE : firstE [checkPolyE a, checkPolyE b, checkPolyE c, checkPolyE d] = e
  by_cases he : e = 0
  · subst he
    obtain ⟨ea, eb, ec, ed⟩ := loop1E_ok hE
    have HE := Lib.hid hE
    clear hE
    have ⟨a1, a5⟩ := checkPolyE_ok ea
    have ⟨b1, b5⟩ := checkPolyE_ok eb
    have ⟨c1, c5⟩ := checkPolyE_ok ec
    have ⟨d1, d5⟩ := checkPolyE_ok ed
    clear ea eb ec ed
    have tc := closed_any va vb vc vd a b c d V.drew (ha.below h6.drew) (hb.below h6.drew) (hc.below h6.drew) (hd.below h6.drew) a1 b1 c1 d1 ha2 hb2 hc2 hd2
    have da := degree_i ha (by omega)
    have db := degree_i hb (by omega)
    have dc := degree_i hc (by omega)
    have dd := degree_i hd (by omega)
    have DA := Lib.hid da
    have DB := Lib.hid db
    have DC := Lib.hid dc
    have DD := Lib.hid dd
    have TC := Lib.hid tc
    clear da db dc dd tc
    clear ha hb hc hd
    have hcl : (closedW a b c d).length ≤ 1000000000 := by have := closedW_length a b c d; omega
    by_cases hm : b.length < d.length <;> by_cases hg : b.length ≤ a.length
    · go_wp2_with fail
      refine wp_region_held_drew (S := (fun w' => w'.cell? ⟨w.heap.size, 0, none⟩ = some va ∧ w'.cell? ⟨w.heap.size, 1, none⟩ = some vb ∧ w'.cell? ⟨w.heap.size, 2, none⟩ = some vc ∧ w'.cell? ⟨w.heap.size, 3, none⟩ = some vd)) (by kernel_rfl) ?_ (fun hHeld0 => ?_)
      · (try dsimp only); (first | go_keep | exact Four.below hFV.out g1)
      refine wpAnyH_take (i := 0) (oi := { dst := some 21, op := Op.fieldAddr 32 (Operand.tmp 1) 1, type := 0, pos := "loop.go:196", after := #[], guard := none }) (v := ?_) rfl (by kernel_rfl) (by kernel_rfl) (by kernel_rfl) (fun _ _ _ h => h) (Or.inl ⟨by rfl, ?_⟩) (by assumption) ?_
      rotate_left
      · (intro w hSw; (try dsimp only at hSw); go_simp); (try with_reducible rfl)
      try simp only [Act.put, List.setIfInBounds_toArray, List.set_cons_zero, List.set_cons_succ]
      refine wpAnyH_take (i := 1) (oi := { dst := some 22, op := Op.load 30 (Operand.tmp 21), type := 30, pos := "loop.go:196", after := #[{ on := 0, ground := Ground.data }], guard := none }) (v := ?_) rfl (by kernel_rfl) (by kernel_rfl) (by kernel_rfl) (fun _ _ _ h => h) (Or.inl ⟨by rfl, ?_⟩) (by assumption) ?_
      rotate_left
      · (intro w hSw; (try dsimp only at hSw); go_simp); (try with_reducible rfl)
      try simp only [Act.put, List.setIfInBounds_toArray, List.set_cons_zero, List.set_cons_succ]
      refine wpAnyH_take (i := 3) (oi := { dst := some 24, op := Op.fieldAddr 32 (Operand.tmp 1) 3, type := 0, pos := "loop.go:196", after := #[], guard := none }) (v := ?_) rfl (by kernel_rfl) (by kernel_rfl) (by kernel_rfl) (fun _ _ _ h => h) (Or.inl ⟨by rfl, ?_⟩) (by assumption) ?_
      rotate_left
      · (intro w hSw; (try dsimp only at hSw); go_simp); (try with_reducible rfl)
      try simp only [Act.put, List.setIfInBounds_toArray, List.set_cons_zero, List.set_cons_succ]
      refine wpAnyH_take (i := 4) (oi := { dst := some 25, op := Op.load 30 (Operand.tmp 24), type := 30, pos := "loop.go:196", after := #[{ on := 3, ground := Ground.data }], guard := none }) (v := ?_) rfl (by kernel_rfl) (by kernel_rfl) (by kernel_rfl) (fun _ _ _ h => h) (Or.inl ⟨by rfl, ?_⟩) (by assumption) ?_
      rotate_left
      · (intro w hSw; (try dsimp only at hSw); go_simp); (try with_reducible rfl)
      try simp only [Act.put, List.setIfInBounds_toArray, List.set_cons_zero, List.set_cons_succ]
      refine wpAnyH_take (i := 9) (oi := { dst := some 30, op := Op.fieldAddr 32 (Operand.tmp 1) 0, type := 0, pos := "loop.go:196", after := #[], guard := none }) (v := ?_) rfl (by kernel_rfl) (by kernel_rfl) (by kernel_rfl) (fun _ _ _ h => h) (Or.inl ⟨by rfl, ?_⟩) (by assumption) ?_
      rotate_left
      · (intro w hSw; (try dsimp only at hSw); go_simp); (try with_reducible rfl)
      try simp only [Act.put, List.setIfInBounds_toArray, List.set_cons_zero, List.set_cons_succ]
      refine wpAnyH_take (i := 10) (oi := { dst := some 31, op := Op.load 30 (Operand.tmp 30), type := 30, pos := "loop.go:196", after := #[{ on := 9, ground := Ground.data }], guard := none }) (v := ?_) rfl (by kernel_rfl) (by kernel_rfl) (by kernel_rfl) (fun _ _ _ h => h) (Or.inl ⟨by rfl, ?_⟩) (by assumption) ?_
      rotate_left
      · (intro w hSw; (try dsimp only at hSw); go_simp); (try with_reducible rfl)
      try simp only [Act.put, List.setIfInBounds_toArray, List.set_cons_zero, List.set_cons_succ]
      refine wpAnyH_take (i := 12) (oi := { dst := some 33, op := Op.fieldAddr 32 (Operand.tmp 1) 1, type := 0, pos := "loop.go:196", after := #[], guard := none }) (v := ?_) rfl (by kernel_rfl) (by kernel_rfl) (by kernel_rfl) (fun _ _ _ h => h) (Or.inl ⟨by rfl, ?_⟩) (by assumption) ?_
      rotate_left
      · (intro w hSw; (try dsimp only at hSw); go_simp); (try with_reducible rfl)
      try simp only [Act.put, List.setIfInBounds_toArray, List.set_cons_zero, List.set_cons_succ]
      refine wpAnyH_take (i := 13) (oi := { dst := some 34, op := Op.load 30 (Operand.tmp 33), type := 30, pos := "loop.go:196", after := #[{ on := 12, ground := Ground.data }], guard := none }) (v := ?_) rfl (by kernel_rfl) (by kernel_rfl) (by kernel_rfl) (fun _ _ _ h => h) (Or.inl ⟨by rfl, ?_⟩) (by assumption) ?_
      rotate_left
      · (intro w hSw; (try dsimp only at hSw); go_simp); (try with_reducible rfl)
      try simp only [Act.put, List.setIfInBounds_toArray, List.set_cons_zero, List.set_cons_succ]
      refine wpAnyH_take (i := 26) (oi := { dst := some 47, op := Op.load 32 (Operand.tmp 1), type := 32, pos := "loop.go:196", after := #[], guard := none }) (v := ?_) rfl (by kernel_rfl) (by kernel_rfl) (by kernel_rfl) (fun _ _ _ h => h) (Or.inl ⟨by rfl, ?_⟩) (by assumption) ?_
      rotate_left
      · (intro w hSw; (try dsimp only at hSw); go_simp); (try with_reducible rfl)
      try simp only [Act.put, List.setIfInBounds_toArray, List.set_cons_zero, List.set_cons_succ]
      refine wpAnyH_ready (rs := [2]) (by kernel_rfl) (by simp) ?_
      refine (AllReadyH.cons (o := { dst := some 23, op := Op.call { callee := Callee.value (Operand.func 69), args := #[Operand.tmp 22], argTypes := #[30] }, type := 3, pos := "loop.go:197", after := #[{ on := 1, ground := Ground.data }], guard := none }) rfl (fun K hK => ?_) AllReadyH.nil)
      go_simp
      (first | (go_at_call 69; (with_reducible refine (DA.out _).mono ?_); rintro e w' ⟨rfl, rfl⟩) | (go_at_call 69; (with_reducible refine (DB.out _).mono ?_); rintro e w' ⟨rfl, rfl⟩) | (go_at_call 69; (with_reducible refine (DC.out _).mono ?_); rintro e w' ⟨rfl, rfl⟩) | (go_at_call 69; (with_reducible refine (DD.out _).mono ?_); rintro e w' ⟨rfl, rfl⟩) | (go_at_call 46; (with_reducible refine (when_any _ _ _).mono ?_); rintro e w' ⟨rfl, rfl⟩) | (go_at_call 59; (with_reducible refine TC.out.mono ?_); rintro e g ⟨⟨u, rfl, hu⟩, g1'⟩; have g1 := below_drew g1'; clear g1') | (go_at_call 63; (with_reducible refine (isLarge_any _ _ _ ?_ hu).mono ?_); (exact hcl); rintro e w' ⟨rfl, rfl⟩) | (go_at_call 45; (with_reducible refine (first3 _ _ _ _ _).mono ?_); rintro e w' ⟨rfl, rfl⟩))
      (try go_wp2_with fail)
      refine hK.out _ _ ?_ (fun hHeld1 => ?_)
      · (try dsimp only); (first | go_keep | exact Four.below hFV.out g1)
      clear hK K hHeld0
      try simp only [Act.put, List.setIfInBounds_toArray, List.set_cons_zero, List.set_cons_succ]
      refine wpAnyH_ready (rs := [5]) (by kernel_rfl) (by simp) ?_
      refine (AllReadyH.cons (o := { dst := some 26, op := Op.call { callee := Callee.value (Operand.func 69), args := #[Operand.tmp 25], argTypes := #[30] }, type := 3, pos := "loop.go:197", after := #[{ on := 4, ground := Ground.data }, { on := 2, ground := Ground.chain }], guard := none }) rfl (fun K hK => ?_) AllReadyH.nil)
      go_simp
      (first | (go_at_call 69; (with_reducible refine (DA.out _).mono ?_); rintro e w' ⟨rfl, rfl⟩) | (go_at_call 69; (with_reducible refine (DB.out _).mono ?_); rintro e w' ⟨rfl, rfl⟩) | (go_at_call 69; (with_reducible refine (DC.out _).mono ?_); rintro e w' ⟨rfl, rfl⟩) | (go_at_call 69; (with_reducible refine (DD.out _).mono ?_); rintro e w' ⟨rfl, rfl⟩) | (go_at_call 46; (with_reducible refine (when_any _ _ _).mono ?_); rintro e w' ⟨rfl, rfl⟩) | (go_at_call 59; (with_reducible refine TC.out.mono ?_); rintro e g ⟨⟨u, rfl, hu⟩, g1'⟩; have g1 := below_drew g1'; clear g1') | (go_at_call 63; (with_reducible refine (isLarge_any _ _ _ ?_ hu).mono ?_); (exact hcl); rintro e w' ⟨rfl, rfl⟩) | (go_at_call 45; (with_reducible refine (first3 _ _ _ _ _).mono ?_); rintro e w' ⟨rfl, rfl⟩))
      (try go_wp2_with fail)
      refine hK.out _ _ ?_ (fun hHeld2 => ?_)
      · (try dsimp only); (first | go_keep | exact Four.below hFV.out g1)
      clear hK K hHeld1
      try simp only [Act.put, List.setIfInBounds_toArray, List.set_cons_zero, List.set_cons_succ]
      refine wpAnyH_take (i := 6) (oi := { dst := some 27, op := Op.call { callee := Callee.builtin Builtin.max, args := #[Operand.tmp 23, Operand.tmp 26], argTypes := #[3, 3] }, type := 3, pos := "loop.go:196", after := #[{ on := 2, ground := Ground.data }, { on := 5, ground := Ground.data }], guard := none }) (v := ?_) rfl (by kernel_rfl) (by kernel_rfl) (by kernel_rfl) (fun _ _ _ h => h) (Or.inl ⟨by rfl, ?_⟩) (by assumption) ?_
      rotate_left
      · (intro w hSw; (try dsimp only at hSw); go_simp); (try with_reducible rfl)
      try simp only [Act.put, List.setIfInBounds_toArray, List.set_cons_zero, List.set_cons_succ]
      refine wpAnyH_take (i := 7) (oi := { dst := some 28, op := Op.binOp BinOp.gtr 3 (Operand.tmp 27) (Operand.const (Value.int IntKind.i64 2)) 3, type := 4, pos := "loop.go:196", after := #[{ on := 6, ground := Ground.data }], guard := none }) (v := ?_) rfl (by kernel_rfl) (by kernel_rfl) (by kernel_rfl) (fun _ _ _ h => h) (Or.inl ⟨by rfl, ?_⟩) (by assumption) ?_
      rotate_left
      · (intro w hSw; (try dsimp only at hSw); go_simp); (try with_reducible rfl)
      try simp only [Act.put, List.setIfInBounds_toArray, List.set_cons_zero, List.set_cons_succ]
      refine wpAnyH_ready (rs := [8]) (by kernel_rfl) (by simp) ?_
      refine (AllReadyH.cons (o := { dst := some 29, op := Op.call { callee := Callee.value (Operand.func 46), args := #[Operand.tmp 28, Operand.const (Value.int IntKind.i64 20)], argTypes := #[4, 27] }, type := 27, pos := "loop.go:197", after := #[{ on := 7, ground := Ground.data }, { on := 5, ground := Ground.chain }], guard := none }) rfl (fun K hK => ?_) AllReadyH.nil)
      go_simp
      (first | (go_at_call 69; (with_reducible refine (DA.out _).mono ?_); rintro e w' ⟨rfl, rfl⟩) | (go_at_call 69; (with_reducible refine (DB.out _).mono ?_); rintro e w' ⟨rfl, rfl⟩) | (go_at_call 69; (with_reducible refine (DC.out _).mono ?_); rintro e w' ⟨rfl, rfl⟩) | (go_at_call 69; (with_reducible refine (DD.out _).mono ?_); rintro e w' ⟨rfl, rfl⟩) | (go_at_call 46; (with_reducible refine (when_any _ _ _).mono ?_); rintro e w' ⟨rfl, rfl⟩) | (go_at_call 59; (with_reducible refine TC.out.mono ?_); rintro e g ⟨⟨u, rfl, hu⟩, g1'⟩; have g1 := below_drew g1'; clear g1') | (go_at_call 63; (with_reducible refine (isLarge_any _ _ _ ?_ hu).mono ?_); (exact hcl); rintro e w' ⟨rfl, rfl⟩) | (go_at_call 45; (with_reducible refine (first3 _ _ _ _ _).mono ?_); rintro e w' ⟨rfl, rfl⟩))
      (try go_wp2_with fail)
      refine hK.out _ _ ?_ (fun hHeld3 => ?_)
      · (try dsimp only); (first | go_keep | exact Four.below hFV.out g1)
      clear hK K hHeld2
      try simp only [Act.put, List.setIfInBounds_toArray, List.set_cons_zero, List.set_cons_succ]
      refine wpAnyH_ready (rs := [11]) (by kernel_rfl) (by simp) ?_
      refine (AllReadyH.cons (o := { dst := some 32, op := Op.call { callee := Callee.value (Operand.func 69), args := #[Operand.tmp 31], argTypes := #[30] }, type := 3, pos := "loop.go:198", after := #[{ on := 10, ground := Ground.data }, { on := 8, ground := Ground.chain }], guard := none }) rfl (fun K hK => ?_) AllReadyH.nil)
      go_simp
      (first | (go_at_call 69; (with_reducible refine (DA.out _).mono ?_); rintro e w' ⟨rfl, rfl⟩) | (go_at_call 69; (with_reducible refine (DB.out _).mono ?_); rintro e w' ⟨rfl, rfl⟩) | (go_at_call 69; (with_reducible refine (DC.out _).mono ?_); rintro e w' ⟨rfl, rfl⟩) | (go_at_call 69; (with_reducible refine (DD.out _).mono ?_); rintro e w' ⟨rfl, rfl⟩) | (go_at_call 46; (with_reducible refine (when_any _ _ _).mono ?_); rintro e w' ⟨rfl, rfl⟩) | (go_at_call 59; (with_reducible refine TC.out.mono ?_); rintro e g ⟨⟨u, rfl, hu⟩, g1'⟩; have g1 := below_drew g1'; clear g1') | (go_at_call 63; (with_reducible refine (isLarge_any _ _ _ ?_ hu).mono ?_); (exact hcl); rintro e w' ⟨rfl, rfl⟩) | (go_at_call 45; (with_reducible refine (first3 _ _ _ _ _).mono ?_); rintro e w' ⟨rfl, rfl⟩))
      (try go_wp2_with fail)
      refine hK.out _ _ ?_ (fun hHeld4 => ?_)
      · (try dsimp only); (first | go_keep | exact Four.below hFV.out g1)
      clear hK K hHeld3
      try simp only [Act.put, List.setIfInBounds_toArray, List.set_cons_zero, List.set_cons_succ]
      refine wpAnyH_ready (rs := [14]) (by kernel_rfl) (by simp) ?_
      refine (AllReadyH.cons (o := { dst := some 35, op := Op.call { callee := Callee.value (Operand.func 69), args := #[Operand.tmp 34], argTypes := #[30] }, type := 3, pos := "loop.go:198", after := #[{ on := 13, ground := Ground.data }, { on := 11, ground := Ground.chain }], guard := none }) rfl (fun K hK => ?_) AllReadyH.nil)
      go_simp
      (first | (go_at_call 69; (with_reducible refine (DA.out _).mono ?_); rintro e w' ⟨rfl, rfl⟩) | (go_at_call 69; (with_reducible refine (DB.out _).mono ?_); rintro e w' ⟨rfl, rfl⟩) | (go_at_call 69; (with_reducible refine (DC.out _).mono ?_); rintro e w' ⟨rfl, rfl⟩) | (go_at_call 69; (with_reducible refine (DD.out _).mono ?_); rintro e w' ⟨rfl, rfl⟩) | (go_at_call 46; (with_reducible refine (when_any _ _ _).mono ?_); rintro e w' ⟨rfl, rfl⟩) | (go_at_call 59; (with_reducible refine TC.out.mono ?_); rintro e g ⟨⟨u, rfl, hu⟩, g1'⟩; have g1 := below_drew g1'; clear g1') | (go_at_call 63; (with_reducible refine (isLarge_any _ _ _ ?_ hu).mono ?_); (exact hcl); rintro e w' ⟨rfl, rfl⟩) | (go_at_call 45; (with_reducible refine (first3 _ _ _ _ _).mono ?_); rintro e w' ⟨rfl, rfl⟩))
      (try go_wp2_with fail)
      refine hK.out _ _ ?_ (fun hHeld5 => ?_)
      · (try dsimp only); (first | go_keep | exact Four.below hFV.out g1)
      clear hK K hHeld4
      try simp only [Act.put, List.setIfInBounds_toArray, List.set_cons_zero, List.set_cons_succ]
      refine wpAnyH_take (i := 15) (oi := { dst := some 36, op := Op.binOp BinOp.geq 3 (Operand.tmp 32) (Operand.tmp 35) 3, type := 4, pos := "loop.go:196", after := #[{ on := 11, ground := Ground.data }, { on := 14, ground := Ground.data }], guard := none }) (v := ?_) rfl (by kernel_rfl) (by kernel_rfl) (by kernel_rfl) (fun _ _ _ h => h) (Or.inl ⟨by rfl, ?_⟩) (by assumption) ?_
      rotate_left
      · (intro w hSw; (try dsimp only at hSw); go_simp); (try with_reducible rfl)
      try simp only [Act.put, List.setIfInBounds_toArray, List.set_cons_zero, List.set_cons_succ]
      refine wpAnyH_take (i := 16) (oi := { dst := some 37, op := Op.move (Operand.tmp 36), type := 4, pos := "loop.go:196", after := #[{ on := 15, ground := Ground.data }, { on := 14, ground := Ground.chain }], guard := none }) (v := ?_) rfl (by kernel_rfl) (by kernel_rfl) (by kernel_rfl) (fun _ _ _ h => h) (Or.inl ⟨by rfl, ?_⟩) (by assumption) ?_
      rotate_left
      · (intro w hSw; (try dsimp only at hSw); go_simp); (try with_reducible rfl)
      try simp only [Act.put, List.setIfInBounds_toArray, List.set_cons_zero, List.set_cons_succ]
      refine wpAnyH_take (i := 17) (oi := { dst := some 38, op := Op.fieldAddr 32 (Operand.tmp 1) 2, type := 0, pos := "loop.go:196", after := #[{ on := 16, ground := Ground.guard }], guard := some (16, false) }) (v := undef) rfl (by kernel_rfl) (by kernel_rfl) (by kernel_rfl) (fun _ _ _ h => h) (Or.inr ⟨by rfl, rfl⟩) (by assumption) ?_
      try simp only [Act.put, List.setIfInBounds_toArray, List.set_cons_zero, List.set_cons_succ]
      refine wpAnyH_take (i := 18) (oi := { dst := some 39, op := Op.load 30 (Operand.tmp 38), type := 30, pos := "loop.go:196", after := #[{ on := 17, ground := Ground.data }, { on := 16, ground := Ground.guard }], guard := some (16, false) }) (v := undef) rfl (by kernel_rfl) (by kernel_rfl) (by kernel_rfl) (fun _ _ _ h => h) (Or.inr ⟨by rfl, rfl⟩) (by assumption) ?_
      try simp only [Act.put, List.setIfInBounds_toArray, List.set_cons_zero, List.set_cons_succ]
      refine wpAnyH_take (i := 19) (oi := { dst := some 40, op := Op.call { callee := Callee.value (Operand.func 69), args := #[Operand.tmp 39], argTypes := #[30] }, type := 3, pos := "loop.go:198", after := #[{ on := 18, ground := Ground.data }, { on := 16, ground := Ground.chain }, { on := 16, ground := Ground.guard }], guard := some (16, false) }) (v := undef) rfl (by kernel_rfl) (by kernel_rfl) (by kernel_rfl) (fun _ _ _ h => h) (Or.inr ⟨by rfl, rfl⟩) (by assumption) ?_
      try simp only [Act.put, List.setIfInBounds_toArray, List.set_cons_zero, List.set_cons_succ]
      refine wpAnyH_take (i := 20) (oi := { dst := some 41, op := Op.fieldAddr 32 (Operand.tmp 1) 3, type := 0, pos := "loop.go:196", after := #[{ on := 16, ground := Ground.guard }], guard := some (16, false) }) (v := undef) rfl (by kernel_rfl) (by kernel_rfl) (by kernel_rfl) (fun _ _ _ h => h) (Or.inr ⟨by rfl, rfl⟩) (by assumption) ?_
      try simp only [Act.put, List.setIfInBounds_toArray, List.set_cons_zero, List.set_cons_succ]
      refine wpAnyH_take (i := 21) (oi := { dst := some 42, op := Op.load 30 (Operand.tmp 41), type := 30, pos := "loop.go:196", after := #[{ on := 20, ground := Ground.data }, { on := 16, ground := Ground.guard }], guard := some (16, false) }) (v := undef) rfl (by kernel_rfl) (by kernel_rfl) (by kernel_rfl) (fun _ _ _ h => h) (Or.inr ⟨by rfl, rfl⟩) (by assumption) ?_
      try simp only [Act.put, List.setIfInBounds_toArray, List.set_cons_zero, List.set_cons_succ]
      refine wpAnyH_take (i := 22) (oi := { dst := some 43, op := Op.call { callee := Callee.value (Operand.func 69), args := #[Operand.tmp 42], argTypes := #[30] }, type := 3, pos := "loop.go:198", after := #[{ on := 21, ground := Ground.data }, { on := 19, ground := Ground.chain }, { on := 16, ground := Ground.guard }], guard := some (16, false) }) (v := undef) rfl (by kernel_rfl) (by kernel_rfl) (by kernel_rfl) (fun _ _ _ h => h) (Or.inr ⟨by rfl, rfl⟩) (by assumption) ?_
      try simp only [Act.put, List.setIfInBounds_toArray, List.set_cons_zero, List.set_cons_succ]
      refine wpAnyH_take (i := 23) (oi := { dst := some 44, op := Op.binOp BinOp.gtr 3 (Operand.tmp 40) (Operand.tmp 43) 3, type := 4, pos := "loop.go:196", after := #[{ on := 19, ground := Ground.data }, { on := 22, ground := Ground.data }, { on := 16, ground := Ground.guard }], guard := some (16, false) }) (v := undef) rfl (by kernel_rfl) (by kernel_rfl) (by kernel_rfl) (fun _ _ _ h => h) (Or.inr ⟨by rfl, rfl⟩) (by assumption) ?_
      try simp only [Act.put, List.setIfInBounds_toArray, List.set_cons_zero, List.set_cons_succ]
      refine wpAnyH_take (i := 24) (oi := { dst := some 45, op := Op.pick (Operand.tmp 37) (Operand.const (Value.bool true)) (Operand.tmp 44), type := 4, pos := "loop.go:196", after := #[{ on := 16, ground := Ground.data }, { on := 23, ground := Ground.data }], guard := none }) (v := ?_) rfl (by kernel_rfl) (by kernel_rfl) (by kernel_rfl) (fun _ _ _ h => h) (Or.inl ⟨by rfl, ?_⟩) (by assumption) ?_
      rotate_left
      · (intro w hSw; (try dsimp only at hSw); go_simp); (try with_reducible rfl)
      try simp only [Act.put, List.setIfInBounds_toArray, List.set_cons_zero, List.set_cons_succ]
      refine wpAnyH_ready (rs := [25]) (by kernel_rfl) (by simp) ?_
      refine (AllReadyH.cons (o := { dst := some 46, op := Op.call { callee := Callee.value (Operand.func 46), args := #[Operand.tmp 45, Operand.const (Value.int IntKind.i64 2)], argTypes := #[4, 27] }, type := 27, pos := "loop.go:198", after := #[{ on := 24, ground := Ground.data }, { on := 22, ground := Ground.chain }], guard := none }) rfl (fun K hK => ?_) AllReadyH.nil)
      go_simp
      (first | (go_at_call 69; (with_reducible refine (DA.out _).mono ?_); rintro e w' ⟨rfl, rfl⟩) | (go_at_call 69; (with_reducible refine (DB.out _).mono ?_); rintro e w' ⟨rfl, rfl⟩) | (go_at_call 69; (with_reducible refine (DC.out _).mono ?_); rintro e w' ⟨rfl, rfl⟩) | (go_at_call 69; (with_reducible refine (DD.out _).mono ?_); rintro e w' ⟨rfl, rfl⟩) | (go_at_call 46; (with_reducible refine (when_any _ _ _).mono ?_); rintro e w' ⟨rfl, rfl⟩) | (go_at_call 59; (with_reducible refine TC.out.mono ?_); rintro e g ⟨⟨u, rfl, hu⟩, g1'⟩; have g1 := below_drew g1'; clear g1') | (go_at_call 63; (with_reducible refine (isLarge_any _ _ _ ?_ hu).mono ?_); (exact hcl); rintro e w' ⟨rfl, rfl⟩) | (go_at_call 45; (with_reducible refine (first3 _ _ _ _ _).mono ?_); rintro e w' ⟨rfl, rfl⟩))
      (try go_wp2_with fail)
      refine hK.out _ _ ?_ (fun hHeld6 => ?_)
      · (try dsimp only); (first | go_keep | exact Four.below hFV.out g1)
      clear hK K hHeld5
      try simp only [Act.put, List.setIfInBounds_toArray, List.set_cons_zero, List.set_cons_succ]
      refine wpAnyH_ready (rs := [27]) (by kernel_rfl) (by simp) ?_
      refine (AllReadyH.cons (o := { dst := some 48, op := Op.call { callee := Callee.value (Operand.func 59), args := #[Operand.tmp 47], argTypes := #[32] }, type := 30, pos := "loop.go:199", after := #[{ on := 26, ground := Ground.data }, { on := 25, ground := Ground.chain }], guard := none }) rfl (fun K hK => ?_) AllReadyH.nil)
      go_simp
      (first | (go_at_call 69; (with_reducible refine (DA.out _).mono ?_); rintro e w' ⟨rfl, rfl⟩) | (go_at_call 69; (with_reducible refine (DB.out _).mono ?_); rintro e w' ⟨rfl, rfl⟩) | (go_at_call 69; (with_reducible refine (DC.out _).mono ?_); rintro e w' ⟨rfl, rfl⟩) | (go_at_call 69; (with_reducible refine (DD.out _).mono ?_); rintro e w' ⟨rfl, rfl⟩) | (go_at_call 46; (with_reducible refine (when_any _ _ _).mono ?_); rintro e w' ⟨rfl, rfl⟩) | (go_at_call 59; (with_reducible refine TC.out.mono ?_); rintro e g ⟨⟨u, rfl, hu⟩, g1'⟩; have g1 := below_drew g1'; clear g1') | (go_at_call 63; (with_reducible refine (isLarge_any _ _ _ ?_ hu).mono ?_); (exact hcl); rintro e w' ⟨rfl, rfl⟩) | (go_at_call 45; (with_reducible refine (first3 _ _ _ _ _).mono ?_); rintro e w' ⟨rfl, rfl⟩))
      (try go_wp2_with fail)
      refine hK.out _ _ ?_ (fun hHeld7 => ?_)
      · (try dsimp only); (first | go_keep | exact Four.below hFV.out g1)
      clear hK K hHeld6
      try simp only [Act.put, List.setIfInBounds_toArray, List.set_cons_zero, List.set_cons_succ]
      refine wpAnyH_ready (rs := [28]) (by kernel_rfl) (by simp) ?_
      refine (AllReadyH.cons (o := { dst := some 49, op := Op.call { callee := Callee.value (Operand.func 63), args := #[Operand.tmp 48], argTypes := #[30] }, type := 4, pos := "loop.go:199", after := #[{ on := 27, ground := Ground.data }, { on := 27, ground := Ground.chain }], guard := none }) rfl (fun K hK => ?_) AllReadyH.nil)
      go_simp
      (first | (go_at_call 69; (with_reducible refine (DA.out _).mono ?_); rintro e w' ⟨rfl, rfl⟩) | (go_at_call 69; (with_reducible refine (DB.out _).mono ?_); rintro e w' ⟨rfl, rfl⟩) | (go_at_call 69; (with_reducible refine (DC.out _).mono ?_); rintro e w' ⟨rfl, rfl⟩) | (go_at_call 69; (with_reducible refine (DD.out _).mono ?_); rintro e w' ⟨rfl, rfl⟩) | (go_at_call 46; (with_reducible refine (when_any _ _ _).mono ?_); rintro e w' ⟨rfl, rfl⟩) | (go_at_call 59; (with_reducible refine TC.out.mono ?_); rintro e g ⟨⟨u, rfl, hu⟩, g1'⟩; have g1 := below_drew g1'; clear g1') | (go_at_call 63; (with_reducible refine (isLarge_any _ _ _ ?_ hu).mono ?_); (exact hcl); rintro e w' ⟨rfl, rfl⟩) | (go_at_call 45; (with_reducible refine (first3 _ _ _ _ _).mono ?_); rintro e w' ⟨rfl, rfl⟩))
      (try go_wp2_with fail)
      refine hK.out _ _ ?_ (fun hHeld8 => ?_)
      · (try dsimp only); (first | go_keep | exact Four.below hFV.out g1)
      clear hK K hHeld7
      try simp only [Act.put, List.setIfInBounds_toArray, List.set_cons_zero, List.set_cons_succ]
      refine wpAnyH_ready (rs := [29]) (by kernel_rfl) (by simp) ?_
      refine (AllReadyH.cons (o := { dst := some 50, op := Op.call { callee := Callee.value (Operand.func 46), args := #[Operand.tmp 49, Operand.const (Value.int IntKind.i64 4)], argTypes := #[4, 27] }, type := 27, pos := "loop.go:199", after := #[{ on := 28, ground := Ground.data }, { on := 28, ground := Ground.chain }], guard := none }) rfl (fun K hK => ?_) AllReadyH.nil)
      go_simp
      (first | (go_at_call 69; (with_reducible refine (DA.out _).mono ?_); rintro e w' ⟨rfl, rfl⟩) | (go_at_call 69; (with_reducible refine (DB.out _).mono ?_); rintro e w' ⟨rfl, rfl⟩) | (go_at_call 69; (with_reducible refine (DC.out _).mono ?_); rintro e w' ⟨rfl, rfl⟩) | (go_at_call 69; (with_reducible refine (DD.out _).mono ?_); rintro e w' ⟨rfl, rfl⟩) | (go_at_call 46; (with_reducible refine (when_any _ _ _).mono ?_); rintro e w' ⟨rfl, rfl⟩) | (go_at_call 59; (with_reducible refine TC.out.mono ?_); rintro e g ⟨⟨u, rfl, hu⟩, g1'⟩; have g1 := below_drew g1'; clear g1') | (go_at_call 63; (with_reducible refine (isLarge_any _ _ _ ?_ hu).mono ?_); (exact hcl); rintro e w' ⟨rfl, rfl⟩) | (go_at_call 45; (with_reducible refine (first3 _ _ _ _ _).mono ?_); rintro e w' ⟨rfl, rfl⟩))
      (try go_wp2_with fail)
      refine hK.out _ _ ?_ (fun hHeld9 => ?_)
      · (try dsimp only); (first | go_keep | exact Four.below hFV.out g1)
      clear hK K hHeld8
      try simp only [Act.put, List.setIfInBounds_toArray, List.set_cons_zero, List.set_cons_succ]
      refine wpAnyH_ready (rs := [30]) (by kernel_rfl) (by simp) ?_
      refine (AllReadyH.cons (o := { dst := some 51, op := Op.buildSlice 155 3 #[(0, Operand.tmp 29), (1, Operand.tmp 46), (2, Operand.tmp 50)], type := 155, pos := "loop.go:196", after := #[{ on := 8, ground := Ground.data }, { on := 25, ground := Ground.data }, { on := 29, ground := Ground.data }], guard := none }) rfl (fun K hK => ?_) AllReadyH.nil)
      go_simp
      refine hK.out _ _ ?_ (fun hHeld10 => ?_)
      · (try dsimp only); (first | go_keep | exact Four.below hFV.out g1)
      clear hK K hHeld9
      try simp only [Act.put, List.setIfInBounds_toArray, List.set_cons_zero, List.set_cons_succ]
      refine wpAnyH_ready (rs := [31]) (by kernel_rfl) (by simp) ?_
      refine (AllReadyH.cons (o := { dst := some 52, op := Op.call { callee := Callee.value (Operand.func 45), args := #[Operand.tmp 51], argTypes := #[155] }, type := 27, pos := "loop.go:196", after := #[{ on := 30, ground := Ground.data }, { on := 29, ground := Ground.chain }], guard := none }) rfl (fun K hK => ?_) AllReadyH.nil)
      go_simp
      (first | (go_at_call 69; (with_reducible refine (DA.out _).mono ?_); rintro e w' ⟨rfl, rfl⟩) | (go_at_call 69; (with_reducible refine (DB.out _).mono ?_); rintro e w' ⟨rfl, rfl⟩) | (go_at_call 69; (with_reducible refine (DC.out _).mono ?_); rintro e w' ⟨rfl, rfl⟩) | (go_at_call 69; (with_reducible refine (DD.out _).mono ?_); rintro e w' ⟨rfl, rfl⟩) | (go_at_call 46; (with_reducible refine (when_any _ _ _).mono ?_); rintro e w' ⟨rfl, rfl⟩) | (go_at_call 59; (with_reducible refine TC.out.mono ?_); rintro e g ⟨⟨u, rfl, hu⟩, g1'⟩; have g1 := below_drew g1'; clear g1') | (go_at_call 63; (with_reducible refine (isLarge_any _ _ _ ?_ hu).mono ?_); (exact hcl); rintro e w' ⟨rfl, rfl⟩) | (go_at_call 45; (with_reducible refine (first3 _ _ _ _ _).mono ?_); rintro e w' ⟨rfl, rfl⟩))
      (try go_wp2_with fail)
      refine hK.out _ _ ?_ (fun hHeld11 => ?_)
      · (try dsimp only); (first | go_keep | exact Four.below hFV.out g1)
      clear hK K hHeld10
      try simp only [Act.put, List.setIfInBounds_toArray, List.set_cons_zero, List.set_cons_succ]
      refine wpAnyH_take (i := 32) (oi := { dst := some 2, op := Op.assign (Operand.tmp 52), type := 27, pos := "loop.go:196", after := #[{ on := 31, ground := Ground.data }, { on := 31, ground := Ground.chain }, { on := 0, ground := Ground.phase }, { on := 1, ground := Ground.phase }, { on := 2, ground := Ground.phase }, { on := 3, ground := Ground.phase }, { on := 4, ground := Ground.phase }, { on := 5, ground := Ground.phase }, { on := 6, ground := Ground.phase }, { on := 7, ground := Ground.phase }, { on := 8, ground := Ground.phase }, { on := 9, ground := Ground.phase }, { on := 10, ground := Ground.phase }, { on := 11, ground := Ground.phase }, { on := 12, ground := Ground.phase }, { on := 13, ground := Ground.phase }, { on := 14, ground := Ground.phase }, { on := 15, ground := Ground.phase }, { on := 16, ground := Ground.phase }, { on := 17, ground := Ground.phase }, { on := 18, ground := Ground.phase }, { on := 19, ground := Ground.phase }, { on := 20, ground := Ground.phase }, { on := 21, ground := Ground.phase }, { on := 22, ground := Ground.phase }, { on := 23, ground := Ground.phase }, { on := 24, ground := Ground.phase }, { on := 25, ground := Ground.phase }, { on := 26, ground := Ground.phase }, { on := 27, ground := Ground.phase }, { on := 28, ground := Ground.phase }, { on := 29, ground := Ground.phase }, { on := 30, ground := Ground.phase }, { on := 31, ground := Ground.phase }], guard := none }) (v := ?_) rfl (by kernel_rfl) (by kernel_rfl) (by kernel_rfl) (fun _ _ _ h => h) (Or.inl ⟨by rfl, ?_⟩) (by assumption) ?_
      rotate_left
      · (intro w hSw; (try dsimp only at hSw); go_simp); (try with_reducible rfl)
      try simp only [Act.put, List.setIfInBounds_toArray, List.set_cons_zero, List.set_cons_succ]
      refine wpAnyH_done (by kernel_rfl) ?_ _
      clear hHeld11
      go_wp2
      go_ret
      exact ⟨ret_int (by rw [checkLoopE, if_neg (by rw [loop1E, HE.out]; simp), loop2E, Int.max_eq_right (by omega), decide_eq_true hg, Bool.true_or]), bthen h6 (g1.alloc g1.size _)⟩
    · go_wp2_with fail
      refine wp_region_held_drew (S := (fun w' => w'.cell? ⟨w.heap.size, 0, none⟩ = some va ∧ w'.cell? ⟨w.heap.size, 1, none⟩ = some vb ∧ w'.cell? ⟨w.heap.size, 2, none⟩ = some vc ∧ w'.cell? ⟨w.heap.size, 3, none⟩ = some vd)) (by kernel_rfl) ?_ (fun hHeld0 => ?_)
      · (try dsimp only); (first | go_keep | exact Four.below hFV.out g1)
      refine wpAnyH_take (i := 0) (oi := { dst := some 21, op := Op.fieldAddr 32 (Operand.tmp 1) 1, type := 0, pos := "loop.go:196", after := #[], guard := none }) (v := ?_) rfl (by kernel_rfl) (by kernel_rfl) (by kernel_rfl) (fun _ _ _ h => h) (Or.inl ⟨by rfl, ?_⟩) (by assumption) ?_
      rotate_left
      · (intro w hSw; (try dsimp only at hSw); go_simp); (try with_reducible rfl)
      try simp only [Act.put, List.setIfInBounds_toArray, List.set_cons_zero, List.set_cons_succ]
      refine wpAnyH_take (i := 1) (oi := { dst := some 22, op := Op.load 30 (Operand.tmp 21), type := 30, pos := "loop.go:196", after := #[{ on := 0, ground := Ground.data }], guard := none }) (v := ?_) rfl (by kernel_rfl) (by kernel_rfl) (by kernel_rfl) (fun _ _ _ h => h) (Or.inl ⟨by rfl, ?_⟩) (by assumption) ?_
      rotate_left
      · (intro w hSw; (try dsimp only at hSw); go_simp); (try with_reducible rfl)
      try simp only [Act.put, List.setIfInBounds_toArray, List.set_cons_zero, List.set_cons_succ]
      refine wpAnyH_take (i := 3) (oi := { dst := some 24, op := Op.fieldAddr 32 (Operand.tmp 1) 3, type := 0, pos := "loop.go:196", after := #[], guard := none }) (v := ?_) rfl (by kernel_rfl) (by kernel_rfl) (by kernel_rfl) (fun _ _ _ h => h) (Or.inl ⟨by rfl, ?_⟩) (by assumption) ?_
      rotate_left
      · (intro w hSw; (try dsimp only at hSw); go_simp); (try with_reducible rfl)
      try simp only [Act.put, List.setIfInBounds_toArray, List.set_cons_zero, List.set_cons_succ]
      refine wpAnyH_take (i := 4) (oi := { dst := some 25, op := Op.load 30 (Operand.tmp 24), type := 30, pos := "loop.go:196", after := #[{ on := 3, ground := Ground.data }], guard := none }) (v := ?_) rfl (by kernel_rfl) (by kernel_rfl) (by kernel_rfl) (fun _ _ _ h => h) (Or.inl ⟨by rfl, ?_⟩) (by assumption) ?_
      rotate_left
      · (intro w hSw; (try dsimp only at hSw); go_simp); (try with_reducible rfl)
      try simp only [Act.put, List.setIfInBounds_toArray, List.set_cons_zero, List.set_cons_succ]
      refine wpAnyH_take (i := 9) (oi := { dst := some 30, op := Op.fieldAddr 32 (Operand.tmp 1) 0, type := 0, pos := "loop.go:196", after := #[], guard := none }) (v := ?_) rfl (by kernel_rfl) (by kernel_rfl) (by kernel_rfl) (fun _ _ _ h => h) (Or.inl ⟨by rfl, ?_⟩) (by assumption) ?_
      rotate_left
      · (intro w hSw; (try dsimp only at hSw); go_simp); (try with_reducible rfl)
      try simp only [Act.put, List.setIfInBounds_toArray, List.set_cons_zero, List.set_cons_succ]
      refine wpAnyH_take (i := 10) (oi := { dst := some 31, op := Op.load 30 (Operand.tmp 30), type := 30, pos := "loop.go:196", after := #[{ on := 9, ground := Ground.data }], guard := none }) (v := ?_) rfl (by kernel_rfl) (by kernel_rfl) (by kernel_rfl) (fun _ _ _ h => h) (Or.inl ⟨by rfl, ?_⟩) (by assumption) ?_
      rotate_left
      · (intro w hSw; (try dsimp only at hSw); go_simp); (try with_reducible rfl)
      try simp only [Act.put, List.setIfInBounds_toArray, List.set_cons_zero, List.set_cons_succ]
      refine wpAnyH_take (i := 12) (oi := { dst := some 33, op := Op.fieldAddr 32 (Operand.tmp 1) 1, type := 0, pos := "loop.go:196", after := #[], guard := none }) (v := ?_) rfl (by kernel_rfl) (by kernel_rfl) (by kernel_rfl) (fun _ _ _ h => h) (Or.inl ⟨by rfl, ?_⟩) (by assumption) ?_
      rotate_left
      · (intro w hSw; (try dsimp only at hSw); go_simp); (try with_reducible rfl)
      try simp only [Act.put, List.setIfInBounds_toArray, List.set_cons_zero, List.set_cons_succ]
      refine wpAnyH_take (i := 13) (oi := { dst := some 34, op := Op.load 30 (Operand.tmp 33), type := 30, pos := "loop.go:196", after := #[{ on := 12, ground := Ground.data }], guard := none }) (v := ?_) rfl (by kernel_rfl) (by kernel_rfl) (by kernel_rfl) (fun _ _ _ h => h) (Or.inl ⟨by rfl, ?_⟩) (by assumption) ?_
      rotate_left
      · (intro w hSw; (try dsimp only at hSw); go_simp); (try with_reducible rfl)
      try simp only [Act.put, List.setIfInBounds_toArray, List.set_cons_zero, List.set_cons_succ]
      refine wpAnyH_take (i := 26) (oi := { dst := some 47, op := Op.load 32 (Operand.tmp 1), type := 32, pos := "loop.go:196", after := #[], guard := none }) (v := ?_) rfl (by kernel_rfl) (by kernel_rfl) (by kernel_rfl) (fun _ _ _ h => h) (Or.inl ⟨by rfl, ?_⟩) (by assumption) ?_
      rotate_left
      · (intro w hSw; (try dsimp only at hSw); go_simp); (try with_reducible rfl)
      try simp only [Act.put, List.setIfInBounds_toArray, List.set_cons_zero, List.set_cons_succ]
      refine wpAnyH_ready (rs := [2]) (by kernel_rfl) (by simp) ?_
      refine (AllReadyH.cons (o := { dst := some 23, op := Op.call { callee := Callee.value (Operand.func 69), args := #[Operand.tmp 22], argTypes := #[30] }, type := 3, pos := "loop.go:197", after := #[{ on := 1, ground := Ground.data }], guard := none }) rfl (fun K hK => ?_) AllReadyH.nil)
      go_simp
      (first | (go_at_call 69; (with_reducible refine (DA.out _).mono ?_); rintro e w' ⟨rfl, rfl⟩) | (go_at_call 69; (with_reducible refine (DB.out _).mono ?_); rintro e w' ⟨rfl, rfl⟩) | (go_at_call 69; (with_reducible refine (DC.out _).mono ?_); rintro e w' ⟨rfl, rfl⟩) | (go_at_call 69; (with_reducible refine (DD.out _).mono ?_); rintro e w' ⟨rfl, rfl⟩) | (go_at_call 46; (with_reducible refine (when_any _ _ _).mono ?_); rintro e w' ⟨rfl, rfl⟩) | (go_at_call 59; (with_reducible refine TC.out.mono ?_); rintro e g ⟨⟨u, rfl, hu⟩, g1'⟩; have g1 := below_drew g1'; clear g1') | (go_at_call 63; (with_reducible refine (isLarge_any _ _ _ ?_ hu).mono ?_); (exact hcl); rintro e w' ⟨rfl, rfl⟩) | (go_at_call 45; (with_reducible refine (first3 _ _ _ _ _).mono ?_); rintro e w' ⟨rfl, rfl⟩))
      (try go_wp2_with fail)
      refine hK.out _ _ ?_ (fun hHeld1 => ?_)
      · (try dsimp only); (first | go_keep | exact Four.below hFV.out g1)
      clear hK K hHeld0
      try simp only [Act.put, List.setIfInBounds_toArray, List.set_cons_zero, List.set_cons_succ]
      refine wpAnyH_ready (rs := [5]) (by kernel_rfl) (by simp) ?_
      refine (AllReadyH.cons (o := { dst := some 26, op := Op.call { callee := Callee.value (Operand.func 69), args := #[Operand.tmp 25], argTypes := #[30] }, type := 3, pos := "loop.go:197", after := #[{ on := 4, ground := Ground.data }, { on := 2, ground := Ground.chain }], guard := none }) rfl (fun K hK => ?_) AllReadyH.nil)
      go_simp
      (first | (go_at_call 69; (with_reducible refine (DA.out _).mono ?_); rintro e w' ⟨rfl, rfl⟩) | (go_at_call 69; (with_reducible refine (DB.out _).mono ?_); rintro e w' ⟨rfl, rfl⟩) | (go_at_call 69; (with_reducible refine (DC.out _).mono ?_); rintro e w' ⟨rfl, rfl⟩) | (go_at_call 69; (with_reducible refine (DD.out _).mono ?_); rintro e w' ⟨rfl, rfl⟩) | (go_at_call 46; (with_reducible refine (when_any _ _ _).mono ?_); rintro e w' ⟨rfl, rfl⟩) | (go_at_call 59; (with_reducible refine TC.out.mono ?_); rintro e g ⟨⟨u, rfl, hu⟩, g1'⟩; have g1 := below_drew g1'; clear g1') | (go_at_call 63; (with_reducible refine (isLarge_any _ _ _ ?_ hu).mono ?_); (exact hcl); rintro e w' ⟨rfl, rfl⟩) | (go_at_call 45; (with_reducible refine (first3 _ _ _ _ _).mono ?_); rintro e w' ⟨rfl, rfl⟩))
      (try go_wp2_with fail)
      refine hK.out _ _ ?_ (fun hHeld2 => ?_)
      · (try dsimp only); (first | go_keep | exact Four.below hFV.out g1)
      clear hK K hHeld1
      try simp only [Act.put, List.setIfInBounds_toArray, List.set_cons_zero, List.set_cons_succ]
      refine wpAnyH_take (i := 6) (oi := { dst := some 27, op := Op.call { callee := Callee.builtin Builtin.max, args := #[Operand.tmp 23, Operand.tmp 26], argTypes := #[3, 3] }, type := 3, pos := "loop.go:196", after := #[{ on := 2, ground := Ground.data }, { on := 5, ground := Ground.data }], guard := none }) (v := ?_) rfl (by kernel_rfl) (by kernel_rfl) (by kernel_rfl) (fun _ _ _ h => h) (Or.inl ⟨by rfl, ?_⟩) (by assumption) ?_
      rotate_left
      · (intro w hSw; (try dsimp only at hSw); go_simp); (try with_reducible rfl)
      try simp only [Act.put, List.setIfInBounds_toArray, List.set_cons_zero, List.set_cons_succ]
      refine wpAnyH_take (i := 7) (oi := { dst := some 28, op := Op.binOp BinOp.gtr 3 (Operand.tmp 27) (Operand.const (Value.int IntKind.i64 2)) 3, type := 4, pos := "loop.go:196", after := #[{ on := 6, ground := Ground.data }], guard := none }) (v := ?_) rfl (by kernel_rfl) (by kernel_rfl) (by kernel_rfl) (fun _ _ _ h => h) (Or.inl ⟨by rfl, ?_⟩) (by assumption) ?_
      rotate_left
      · (intro w hSw; (try dsimp only at hSw); go_simp); (try with_reducible rfl)
      try simp only [Act.put, List.setIfInBounds_toArray, List.set_cons_zero, List.set_cons_succ]
      refine wpAnyH_ready (rs := [8]) (by kernel_rfl) (by simp) ?_
      refine (AllReadyH.cons (o := { dst := some 29, op := Op.call { callee := Callee.value (Operand.func 46), args := #[Operand.tmp 28, Operand.const (Value.int IntKind.i64 20)], argTypes := #[4, 27] }, type := 27, pos := "loop.go:197", after := #[{ on := 7, ground := Ground.data }, { on := 5, ground := Ground.chain }], guard := none }) rfl (fun K hK => ?_) AllReadyH.nil)
      go_simp
      (first | (go_at_call 69; (with_reducible refine (DA.out _).mono ?_); rintro e w' ⟨rfl, rfl⟩) | (go_at_call 69; (with_reducible refine (DB.out _).mono ?_); rintro e w' ⟨rfl, rfl⟩) | (go_at_call 69; (with_reducible refine (DC.out _).mono ?_); rintro e w' ⟨rfl, rfl⟩) | (go_at_call 69; (with_reducible refine (DD.out _).mono ?_); rintro e w' ⟨rfl, rfl⟩) | (go_at_call 46; (with_reducible refine (when_any _ _ _).mono ?_); rintro e w' ⟨rfl, rfl⟩) | (go_at_call 59; (with_reducible refine TC.out.mono ?_); rintro e g ⟨⟨u, rfl, hu⟩, g1'⟩; have g1 := below_drew g1'; clear g1') | (go_at_call 63; (with_reducible refine (isLarge_any _ _ _ ?_ hu).mono ?_); (exact hcl); rintro e w' ⟨rfl, rfl⟩) | (go_at_call 45; (with_reducible refine (first3 _ _ _ _ _).mono ?_); rintro e w' ⟨rfl, rfl⟩))
      (try go_wp2_with fail)
      refine hK.out _ _ ?_ (fun hHeld3 => ?_)
      · (try dsimp only); (first | go_keep | exact Four.below hFV.out g1)
      clear hK K hHeld2
      try simp only [Act.put, List.setIfInBounds_toArray, List.set_cons_zero, List.set_cons_succ]
      refine wpAnyH_ready (rs := [11]) (by kernel_rfl) (by simp) ?_
      refine (AllReadyH.cons (o := { dst := some 32, op := Op.call { callee := Callee.value (Operand.func 69), args := #[Operand.tmp 31], argTypes := #[30] }, type := 3, pos := "loop.go:198", after := #[{ on := 10, ground := Ground.data }, { on := 8, ground := Ground.chain }], guard := none }) rfl (fun K hK => ?_) AllReadyH.nil)
      go_simp
      (first | (go_at_call 69; (with_reducible refine (DA.out _).mono ?_); rintro e w' ⟨rfl, rfl⟩) | (go_at_call 69; (with_reducible refine (DB.out _).mono ?_); rintro e w' ⟨rfl, rfl⟩) | (go_at_call 69; (with_reducible refine (DC.out _).mono ?_); rintro e w' ⟨rfl, rfl⟩) | (go_at_call 69; (with_reducible refine (DD.out _).mono ?_); rintro e w' ⟨rfl, rfl⟩) | (go_at_call 46; (with_reducible refine (when_any _ _ _).mono ?_); rintro e w' ⟨rfl, rfl⟩) | (go_at_call 59; (with_reducible refine TC.out.mono ?_); rintro e g ⟨⟨u, rfl, hu⟩, g1'⟩; have g1 := below_drew g1'; clear g1') | (go_at_call 63; (with_reducible refine (isLarge_any _ _ _ ?_ hu).mono ?_); (exact hcl); rintro e w' ⟨rfl, rfl⟩) | (go_at_call 45; (with_reducible refine (first3 _ _ _ _ _).mono ?_); rintro e w' ⟨rfl, rfl⟩))
      (try go_wp2_with fail)
      refine hK.out _ _ ?_ (fun hHeld4 => ?_)
      · (try dsimp only); (first | go_keep | exact Four.below hFV.out g1)
      clear hK K hHeld3
      try simp only [Act.put, List.setIfInBounds_toArray, List.set_cons_zero, List.set_cons_succ]
      refine wpAnyH_ready (rs := [14]) (by kernel_rfl) (by simp) ?_
      refine (AllReadyH.cons (o := { dst := some 35, op := Op.call { callee := Callee.value (Operand.func 69), args := #[Operand.tmp 34], argTypes := #[30] }, type := 3, pos := "loop.go:198", after := #[{ on := 13, ground := Ground.data }, { on := 11, ground := Ground.chain }], guard := none }) rfl (fun K hK => ?_) AllReadyH.nil)
      go_simp
      (first | (go_at_call 69; (with_reducible refine (DA.out _).mono ?_); rintro e w' ⟨rfl, rfl⟩) | (go_at_call 69; (with_reducible refine (DB.out _).mono ?_); rintro e w' ⟨rfl, rfl⟩) | (go_at_call 69; (with_reducible refine (DC.out _).mono ?_); rintro e w' ⟨rfl, rfl⟩) | (go_at_call 69; (with_reducible refine (DD.out _).mono ?_); rintro e w' ⟨rfl, rfl⟩) | (go_at_call 46; (with_reducible refine (when_any _ _ _).mono ?_); rintro e w' ⟨rfl, rfl⟩) | (go_at_call 59; (with_reducible refine TC.out.mono ?_); rintro e g ⟨⟨u, rfl, hu⟩, g1'⟩; have g1 := below_drew g1'; clear g1') | (go_at_call 63; (with_reducible refine (isLarge_any _ _ _ ?_ hu).mono ?_); (exact hcl); rintro e w' ⟨rfl, rfl⟩) | (go_at_call 45; (with_reducible refine (first3 _ _ _ _ _).mono ?_); rintro e w' ⟨rfl, rfl⟩))
      (try go_wp2_with fail)
      refine hK.out _ _ ?_ (fun hHeld5 => ?_)
      · (try dsimp only); (first | go_keep | exact Four.below hFV.out g1)
      clear hK K hHeld4
      try simp only [Act.put, List.setIfInBounds_toArray, List.set_cons_zero, List.set_cons_succ]
      refine wpAnyH_take (i := 15) (oi := { dst := some 36, op := Op.binOp BinOp.geq 3 (Operand.tmp 32) (Operand.tmp 35) 3, type := 4, pos := "loop.go:196", after := #[{ on := 11, ground := Ground.data }, { on := 14, ground := Ground.data }], guard := none }) (v := ?_) rfl (by kernel_rfl) (by kernel_rfl) (by kernel_rfl) (fun _ _ _ h => h) (Or.inl ⟨by rfl, ?_⟩) (by assumption) ?_
      rotate_left
      · (intro w hSw; (try dsimp only at hSw); go_simp); (try with_reducible rfl)
      try simp only [Act.put, List.setIfInBounds_toArray, List.set_cons_zero, List.set_cons_succ]
      refine wpAnyH_take (i := 16) (oi := { dst := some 37, op := Op.move (Operand.tmp 36), type := 4, pos := "loop.go:196", after := #[{ on := 15, ground := Ground.data }, { on := 14, ground := Ground.chain }], guard := none }) (v := ?_) rfl (by kernel_rfl) (by kernel_rfl) (by kernel_rfl) (fun _ _ _ h => h) (Or.inl ⟨by rfl, ?_⟩) (by assumption) ?_
      rotate_left
      · (intro w hSw; (try dsimp only at hSw); go_simp); (try with_reducible rfl)
      try simp only [Act.put, List.setIfInBounds_toArray, List.set_cons_zero, List.set_cons_succ]
      refine wpAnyH_take (i := 17) (oi := { dst := some 38, op := Op.fieldAddr 32 (Operand.tmp 1) 2, type := 0, pos := "loop.go:196", after := #[{ on := 16, ground := Ground.guard }], guard := some (16, false) }) (v := ?_) rfl (by kernel_rfl) (by kernel_rfl) (by kernel_rfl) (fun _ _ _ h => h) (Or.inl ⟨by rfl, ?_⟩) (by assumption) ?_
      rotate_left
      · (intro w hSw; (try dsimp only at hSw); go_simp); (try with_reducible rfl)
      try simp only [Act.put, List.setIfInBounds_toArray, List.set_cons_zero, List.set_cons_succ]
      refine wpAnyH_take (i := 18) (oi := { dst := some 39, op := Op.load 30 (Operand.tmp 38), type := 30, pos := "loop.go:196", after := #[{ on := 17, ground := Ground.data }, { on := 16, ground := Ground.guard }], guard := some (16, false) }) (v := ?_) rfl (by kernel_rfl) (by kernel_rfl) (by kernel_rfl) (fun _ _ _ h => h) (Or.inl ⟨by rfl, ?_⟩) (by assumption) ?_
      rotate_left
      · (intro w hSw; (try dsimp only at hSw); go_simp); (try with_reducible rfl)
      try simp only [Act.put, List.setIfInBounds_toArray, List.set_cons_zero, List.set_cons_succ]
      refine wpAnyH_take (i := 20) (oi := { dst := some 41, op := Op.fieldAddr 32 (Operand.tmp 1) 3, type := 0, pos := "loop.go:196", after := #[{ on := 16, ground := Ground.guard }], guard := some (16, false) }) (v := ?_) rfl (by kernel_rfl) (by kernel_rfl) (by kernel_rfl) (fun _ _ _ h => h) (Or.inl ⟨by rfl, ?_⟩) (by assumption) ?_
      rotate_left
      · (intro w hSw; (try dsimp only at hSw); go_simp); (try with_reducible rfl)
      try simp only [Act.put, List.setIfInBounds_toArray, List.set_cons_zero, List.set_cons_succ]
      refine wpAnyH_take (i := 21) (oi := { dst := some 42, op := Op.load 30 (Operand.tmp 41), type := 30, pos := "loop.go:196", after := #[{ on := 20, ground := Ground.data }, { on := 16, ground := Ground.guard }], guard := some (16, false) }) (v := ?_) rfl (by kernel_rfl) (by kernel_rfl) (by kernel_rfl) (fun _ _ _ h => h) (Or.inl ⟨by rfl, ?_⟩) (by assumption) ?_
      rotate_left
      · (intro w hSw; (try dsimp only at hSw); go_simp); (try with_reducible rfl)
      try simp only [Act.put, List.setIfInBounds_toArray, List.set_cons_zero, List.set_cons_succ]
      refine wpAnyH_ready (rs := [19]) (by kernel_rfl) (by simp) ?_
      refine (AllReadyH.cons (o := { dst := some 40, op := Op.call { callee := Callee.value (Operand.func 69), args := #[Operand.tmp 39], argTypes := #[30] }, type := 3, pos := "loop.go:198", after := #[{ on := 18, ground := Ground.data }, { on := 16, ground := Ground.chain }, { on := 16, ground := Ground.guard }], guard := some (16, false) }) rfl (fun K hK => ?_) AllReadyH.nil)
      go_simp
      (first | (go_at_call 69; (with_reducible refine (DA.out _).mono ?_); rintro e w' ⟨rfl, rfl⟩) | (go_at_call 69; (with_reducible refine (DB.out _).mono ?_); rintro e w' ⟨rfl, rfl⟩) | (go_at_call 69; (with_reducible refine (DC.out _).mono ?_); rintro e w' ⟨rfl, rfl⟩) | (go_at_call 69; (with_reducible refine (DD.out _).mono ?_); rintro e w' ⟨rfl, rfl⟩) | (go_at_call 46; (with_reducible refine (when_any _ _ _).mono ?_); rintro e w' ⟨rfl, rfl⟩) | (go_at_call 59; (with_reducible refine TC.out.mono ?_); rintro e g ⟨⟨u, rfl, hu⟩, g1'⟩; have g1 := below_drew g1'; clear g1') | (go_at_call 63; (with_reducible refine (isLarge_any _ _ _ ?_ hu).mono ?_); (exact hcl); rintro e w' ⟨rfl, rfl⟩) | (go_at_call 45; (with_reducible refine (first3 _ _ _ _ _).mono ?_); rintro e w' ⟨rfl, rfl⟩))
      (try go_wp2_with fail)
      refine hK.out _ _ ?_ (fun hHeld6 => ?_)
      · (try dsimp only); (first | go_keep | exact Four.below hFV.out g1)
      clear hK K hHeld5
      try simp only [Act.put, List.setIfInBounds_toArray, List.set_cons_zero, List.set_cons_succ]
      refine wpAnyH_ready (rs := [22]) (by kernel_rfl) (by simp) ?_
      refine (AllReadyH.cons (o := { dst := some 43, op := Op.call { callee := Callee.value (Operand.func 69), args := #[Operand.tmp 42], argTypes := #[30] }, type := 3, pos := "loop.go:198", after := #[{ on := 21, ground := Ground.data }, { on := 19, ground := Ground.chain }, { on := 16, ground := Ground.guard }], guard := some (16, false) }) rfl (fun K hK => ?_) AllReadyH.nil)
      go_simp
      (first | (go_at_call 69; (with_reducible refine (DA.out _).mono ?_); rintro e w' ⟨rfl, rfl⟩) | (go_at_call 69; (with_reducible refine (DB.out _).mono ?_); rintro e w' ⟨rfl, rfl⟩) | (go_at_call 69; (with_reducible refine (DC.out _).mono ?_); rintro e w' ⟨rfl, rfl⟩) | (go_at_call 69; (with_reducible refine (DD.out _).mono ?_); rintro e w' ⟨rfl, rfl⟩) | (go_at_call 46; (with_reducible refine (when_any _ _ _).mono ?_); rintro e w' ⟨rfl, rfl⟩) | (go_at_call 59; (with_reducible refine TC.out.mono ?_); rintro e g ⟨⟨u, rfl, hu⟩, g1'⟩; have g1 := below_drew g1'; clear g1') | (go_at_call 63; (with_reducible refine (isLarge_any _ _ _ ?_ hu).mono ?_); (exact hcl); rintro e w' ⟨rfl, rfl⟩) | (go_at_call 45; (with_reducible refine (first3 _ _ _ _ _).mono ?_); rintro e w' ⟨rfl, rfl⟩))
      (try go_wp2_with fail)
      refine hK.out _ _ ?_ (fun hHeld7 => ?_)
      · (try dsimp only); (first | go_keep | exact Four.below hFV.out g1)
      clear hK K hHeld6
      try simp only [Act.put, List.setIfInBounds_toArray, List.set_cons_zero, List.set_cons_succ]
      refine wpAnyH_take (i := 23) (oi := { dst := some 44, op := Op.binOp BinOp.gtr 3 (Operand.tmp 40) (Operand.tmp 43) 3, type := 4, pos := "loop.go:196", after := #[{ on := 19, ground := Ground.data }, { on := 22, ground := Ground.data }, { on := 16, ground := Ground.guard }], guard := some (16, false) }) (v := ?_) rfl (by kernel_rfl) (by kernel_rfl) (by kernel_rfl) (fun _ _ _ h => h) (Or.inl ⟨by rfl, ?_⟩) (by assumption) ?_
      rotate_left
      · (intro w hSw; (try dsimp only at hSw); go_simp); (try with_reducible rfl)
      try simp only [Act.put, List.setIfInBounds_toArray, List.set_cons_zero, List.set_cons_succ]
      refine wpAnyH_take (i := 24) (oi := { dst := some 45, op := Op.pick (Operand.tmp 37) (Operand.const (Value.bool true)) (Operand.tmp 44), type := 4, pos := "loop.go:196", after := #[{ on := 16, ground := Ground.data }, { on := 23, ground := Ground.data }], guard := none }) (v := ?_) rfl (by kernel_rfl) (by kernel_rfl) (by kernel_rfl) (fun _ _ _ h => h) (Or.inl ⟨by rfl, ?_⟩) (by assumption) ?_
      rotate_left
      · (intro w hSw; (try dsimp only at hSw); go_simp); (try with_reducible rfl)
      try simp only [Act.put, List.setIfInBounds_toArray, List.set_cons_zero, List.set_cons_succ]
      refine wpAnyH_ready (rs := [25]) (by kernel_rfl) (by simp) ?_
      refine (AllReadyH.cons (o := { dst := some 46, op := Op.call { callee := Callee.value (Operand.func 46), args := #[Operand.tmp 45, Operand.const (Value.int IntKind.i64 2)], argTypes := #[4, 27] }, type := 27, pos := "loop.go:198", after := #[{ on := 24, ground := Ground.data }, { on := 22, ground := Ground.chain }], guard := none }) rfl (fun K hK => ?_) AllReadyH.nil)
      go_simp
      (first | (go_at_call 69; (with_reducible refine (DA.out _).mono ?_); rintro e w' ⟨rfl, rfl⟩) | (go_at_call 69; (with_reducible refine (DB.out _).mono ?_); rintro e w' ⟨rfl, rfl⟩) | (go_at_call 69; (with_reducible refine (DC.out _).mono ?_); rintro e w' ⟨rfl, rfl⟩) | (go_at_call 69; (with_reducible refine (DD.out _).mono ?_); rintro e w' ⟨rfl, rfl⟩) | (go_at_call 46; (with_reducible refine (when_any _ _ _).mono ?_); rintro e w' ⟨rfl, rfl⟩) | (go_at_call 59; (with_reducible refine TC.out.mono ?_); rintro e g ⟨⟨u, rfl, hu⟩, g1'⟩; have g1 := below_drew g1'; clear g1') | (go_at_call 63; (with_reducible refine (isLarge_any _ _ _ ?_ hu).mono ?_); (exact hcl); rintro e w' ⟨rfl, rfl⟩) | (go_at_call 45; (with_reducible refine (first3 _ _ _ _ _).mono ?_); rintro e w' ⟨rfl, rfl⟩))
      (try go_wp2_with fail)
      refine hK.out _ _ ?_ (fun hHeld8 => ?_)
      · (try dsimp only); (first | go_keep | exact Four.below hFV.out g1)
      clear hK K hHeld7
      try simp only [Act.put, List.setIfInBounds_toArray, List.set_cons_zero, List.set_cons_succ]
      refine wpAnyH_ready (rs := [27]) (by kernel_rfl) (by simp) ?_
      refine (AllReadyH.cons (o := { dst := some 48, op := Op.call { callee := Callee.value (Operand.func 59), args := #[Operand.tmp 47], argTypes := #[32] }, type := 30, pos := "loop.go:199", after := #[{ on := 26, ground := Ground.data }, { on := 25, ground := Ground.chain }], guard := none }) rfl (fun K hK => ?_) AllReadyH.nil)
      go_simp
      (first | (go_at_call 69; (with_reducible refine (DA.out _).mono ?_); rintro e w' ⟨rfl, rfl⟩) | (go_at_call 69; (with_reducible refine (DB.out _).mono ?_); rintro e w' ⟨rfl, rfl⟩) | (go_at_call 69; (with_reducible refine (DC.out _).mono ?_); rintro e w' ⟨rfl, rfl⟩) | (go_at_call 69; (with_reducible refine (DD.out _).mono ?_); rintro e w' ⟨rfl, rfl⟩) | (go_at_call 46; (with_reducible refine (when_any _ _ _).mono ?_); rintro e w' ⟨rfl, rfl⟩) | (go_at_call 59; (with_reducible refine TC.out.mono ?_); rintro e g ⟨⟨u, rfl, hu⟩, g1'⟩; have g1 := below_drew g1'; clear g1') | (go_at_call 63; (with_reducible refine (isLarge_any _ _ _ ?_ hu).mono ?_); (exact hcl); rintro e w' ⟨rfl, rfl⟩) | (go_at_call 45; (with_reducible refine (first3 _ _ _ _ _).mono ?_); rintro e w' ⟨rfl, rfl⟩))
      (try go_wp2_with fail)
      refine hK.out _ _ ?_ (fun hHeld9 => ?_)
      · (try dsimp only); (first | go_keep | exact Four.below hFV.out g1)
      clear hK K hHeld8
      try simp only [Act.put, List.setIfInBounds_toArray, List.set_cons_zero, List.set_cons_succ]
      refine wpAnyH_ready (rs := [28]) (by kernel_rfl) (by simp) ?_
      refine (AllReadyH.cons (o := { dst := some 49, op := Op.call { callee := Callee.value (Operand.func 63), args := #[Operand.tmp 48], argTypes := #[30] }, type := 4, pos := "loop.go:199", after := #[{ on := 27, ground := Ground.data }, { on := 27, ground := Ground.chain }], guard := none }) rfl (fun K hK => ?_) AllReadyH.nil)
      go_simp
      (first | (go_at_call 69; (with_reducible refine (DA.out _).mono ?_); rintro e w' ⟨rfl, rfl⟩) | (go_at_call 69; (with_reducible refine (DB.out _).mono ?_); rintro e w' ⟨rfl, rfl⟩) | (go_at_call 69; (with_reducible refine (DC.out _).mono ?_); rintro e w' ⟨rfl, rfl⟩) | (go_at_call 69; (with_reducible refine (DD.out _).mono ?_); rintro e w' ⟨rfl, rfl⟩) | (go_at_call 46; (with_reducible refine (when_any _ _ _).mono ?_); rintro e w' ⟨rfl, rfl⟩) | (go_at_call 59; (with_reducible refine TC.out.mono ?_); rintro e g ⟨⟨u, rfl, hu⟩, g1'⟩; have g1 := below_drew g1'; clear g1') | (go_at_call 63; (with_reducible refine (isLarge_any _ _ _ ?_ hu).mono ?_); (exact hcl); rintro e w' ⟨rfl, rfl⟩) | (go_at_call 45; (with_reducible refine (first3 _ _ _ _ _).mono ?_); rintro e w' ⟨rfl, rfl⟩))
      (try go_wp2_with fail)
      refine hK.out _ _ ?_ (fun hHeld10 => ?_)
      · (try dsimp only); (first | go_keep | exact Four.below hFV.out g1)
      clear hK K hHeld9
      try simp only [Act.put, List.setIfInBounds_toArray, List.set_cons_zero, List.set_cons_succ]
      refine wpAnyH_ready (rs := [29]) (by kernel_rfl) (by simp) ?_
      refine (AllReadyH.cons (o := { dst := some 50, op := Op.call { callee := Callee.value (Operand.func 46), args := #[Operand.tmp 49, Operand.const (Value.int IntKind.i64 4)], argTypes := #[4, 27] }, type := 27, pos := "loop.go:199", after := #[{ on := 28, ground := Ground.data }, { on := 28, ground := Ground.chain }], guard := none }) rfl (fun K hK => ?_) AllReadyH.nil)
      go_simp
      (first | (go_at_call 69; (with_reducible refine (DA.out _).mono ?_); rintro e w' ⟨rfl, rfl⟩) | (go_at_call 69; (with_reducible refine (DB.out _).mono ?_); rintro e w' ⟨rfl, rfl⟩) | (go_at_call 69; (with_reducible refine (DC.out _).mono ?_); rintro e w' ⟨rfl, rfl⟩) | (go_at_call 69; (with_reducible refine (DD.out _).mono ?_); rintro e w' ⟨rfl, rfl⟩) | (go_at_call 46; (with_reducible refine (when_any _ _ _).mono ?_); rintro e w' ⟨rfl, rfl⟩) | (go_at_call 59; (with_reducible refine TC.out.mono ?_); rintro e g ⟨⟨u, rfl, hu⟩, g1'⟩; have g1 := below_drew g1'; clear g1') | (go_at_call 63; (with_reducible refine (isLarge_any _ _ _ ?_ hu).mono ?_); (exact hcl); rintro e w' ⟨rfl, rfl⟩) | (go_at_call 45; (with_reducible refine (first3 _ _ _ _ _).mono ?_); rintro e w' ⟨rfl, rfl⟩))
      (try go_wp2_with fail)
      refine hK.out _ _ ?_ (fun hHeld11 => ?_)
      · (try dsimp only); (first | go_keep | exact Four.below hFV.out g1)
      clear hK K hHeld10
      try simp only [Act.put, List.setIfInBounds_toArray, List.set_cons_zero, List.set_cons_succ]
      refine wpAnyH_ready (rs := [30]) (by kernel_rfl) (by simp) ?_
      refine (AllReadyH.cons (o := { dst := some 51, op := Op.buildSlice 155 3 #[(0, Operand.tmp 29), (1, Operand.tmp 46), (2, Operand.tmp 50)], type := 155, pos := "loop.go:196", after := #[{ on := 8, ground := Ground.data }, { on := 25, ground := Ground.data }, { on := 29, ground := Ground.data }], guard := none }) rfl (fun K hK => ?_) AllReadyH.nil)
      go_simp
      refine hK.out _ _ ?_ (fun hHeld12 => ?_)
      · (try dsimp only); (first | go_keep | exact Four.below hFV.out g1)
      clear hK K hHeld11
      try simp only [Act.put, List.setIfInBounds_toArray, List.set_cons_zero, List.set_cons_succ]
      refine wpAnyH_ready (rs := [31]) (by kernel_rfl) (by simp) ?_
      refine (AllReadyH.cons (o := { dst := some 52, op := Op.call { callee := Callee.value (Operand.func 45), args := #[Operand.tmp 51], argTypes := #[155] }, type := 27, pos := "loop.go:196", after := #[{ on := 30, ground := Ground.data }, { on := 29, ground := Ground.chain }], guard := none }) rfl (fun K hK => ?_) AllReadyH.nil)
      go_simp
      (first | (go_at_call 69; (with_reducible refine (DA.out _).mono ?_); rintro e w' ⟨rfl, rfl⟩) | (go_at_call 69; (with_reducible refine (DB.out _).mono ?_); rintro e w' ⟨rfl, rfl⟩) | (go_at_call 69; (with_reducible refine (DC.out _).mono ?_); rintro e w' ⟨rfl, rfl⟩) | (go_at_call 69; (with_reducible refine (DD.out _).mono ?_); rintro e w' ⟨rfl, rfl⟩) | (go_at_call 46; (with_reducible refine (when_any _ _ _).mono ?_); rintro e w' ⟨rfl, rfl⟩) | (go_at_call 59; (with_reducible refine TC.out.mono ?_); rintro e g ⟨⟨u, rfl, hu⟩, g1'⟩; have g1 := below_drew g1'; clear g1') | (go_at_call 63; (with_reducible refine (isLarge_any _ _ _ ?_ hu).mono ?_); (exact hcl); rintro e w' ⟨rfl, rfl⟩) | (go_at_call 45; (with_reducible refine (first3 _ _ _ _ _).mono ?_); rintro e w' ⟨rfl, rfl⟩))
      (try go_wp2_with fail)
      refine hK.out _ _ ?_ (fun hHeld13 => ?_)
      · (try dsimp only); (first | go_keep | exact Four.below hFV.out g1)
      clear hK K hHeld12
      try simp only [Act.put, List.setIfInBounds_toArray, List.set_cons_zero, List.set_cons_succ]
      refine wpAnyH_take (i := 32) (oi := { dst := some 2, op := Op.assign (Operand.tmp 52), type := 27, pos := "loop.go:196", after := #[{ on := 31, ground := Ground.data }, { on := 31, ground := Ground.chain }, { on := 0, ground := Ground.phase }, { on := 1, ground := Ground.phase }, { on := 2, ground := Ground.phase }, { on := 3, ground := Ground.phase }, { on := 4, ground := Ground.phase }, { on := 5, ground := Ground.phase }, { on := 6, ground := Ground.phase }, { on := 7, ground := Ground.phase }, { on := 8, ground := Ground.phase }, { on := 9, ground := Ground.phase }, { on := 10, ground := Ground.phase }, { on := 11, ground := Ground.phase }, { on := 12, ground := Ground.phase }, { on := 13, ground := Ground.phase }, { on := 14, ground := Ground.phase }, { on := 15, ground := Ground.phase }, { on := 16, ground := Ground.phase }, { on := 17, ground := Ground.phase }, { on := 18, ground := Ground.phase }, { on := 19, ground := Ground.phase }, { on := 20, ground := Ground.phase }, { on := 21, ground := Ground.phase }, { on := 22, ground := Ground.phase }, { on := 23, ground := Ground.phase }, { on := 24, ground := Ground.phase }, { on := 25, ground := Ground.phase }, { on := 26, ground := Ground.phase }, { on := 27, ground := Ground.phase }, { on := 28, ground := Ground.phase }, { on := 29, ground := Ground.phase }, { on := 30, ground := Ground.phase }, { on := 31, ground := Ground.phase }], guard := none }) (v := ?_) rfl (by kernel_rfl) (by kernel_rfl) (by kernel_rfl) (fun _ _ _ h => h) (Or.inl ⟨by rfl, ?_⟩) (by assumption) ?_
      rotate_left
      · (intro w hSw; (try dsimp only at hSw); go_simp); (try with_reducible rfl)
      try simp only [Act.put, List.setIfInBounds_toArray, List.set_cons_zero, List.set_cons_succ]
      refine wpAnyH_done (by kernel_rfl) ?_ _
      clear hHeld13
      go_wp2
      go_ret
      exact ⟨ret_int (by rw [checkLoopE, if_neg (by rw [loop1E, HE.out]; simp), loop2E, Int.max_eq_right (by omega), decide_eq_false hg, Bool.false_or]), bthen h6 (g1.alloc g1.size _)⟩
    · go_wp2_with fail
      refine wp_region_held_drew (S := (fun w' => w'.cell? ⟨w.heap.size, 0, none⟩ = some va ∧ w'.cell? ⟨w.heap.size, 1, none⟩ = some vb ∧ w'.cell? ⟨w.heap.size, 2, none⟩ = some vc ∧ w'.cell? ⟨w.heap.size, 3, none⟩ = some vd)) (by kernel_rfl) ?_ (fun hHeld0 => ?_)
      · (try dsimp only); (first | go_keep | exact Four.below hFV.out g1)
      refine wpAnyH_take (i := 0) (oi := { dst := some 21, op := Op.fieldAddr 32 (Operand.tmp 1) 1, type := 0, pos := "loop.go:196", after := #[], guard := none }) (v := ?_) rfl (by kernel_rfl) (by kernel_rfl) (by kernel_rfl) (fun _ _ _ h => h) (Or.inl ⟨by rfl, ?_⟩) (by assumption) ?_
      rotate_left
      · (intro w hSw; (try dsimp only at hSw); go_simp); (try with_reducible rfl)
      try simp only [Act.put, List.setIfInBounds_toArray, List.set_cons_zero, List.set_cons_succ]
      refine wpAnyH_take (i := 1) (oi := { dst := some 22, op := Op.load 30 (Operand.tmp 21), type := 30, pos := "loop.go:196", after := #[{ on := 0, ground := Ground.data }], guard := none }) (v := ?_) rfl (by kernel_rfl) (by kernel_rfl) (by kernel_rfl) (fun _ _ _ h => h) (Or.inl ⟨by rfl, ?_⟩) (by assumption) ?_
      rotate_left
      · (intro w hSw; (try dsimp only at hSw); go_simp); (try with_reducible rfl)
      try simp only [Act.put, List.setIfInBounds_toArray, List.set_cons_zero, List.set_cons_succ]
      refine wpAnyH_take (i := 3) (oi := { dst := some 24, op := Op.fieldAddr 32 (Operand.tmp 1) 3, type := 0, pos := "loop.go:196", after := #[], guard := none }) (v := ?_) rfl (by kernel_rfl) (by kernel_rfl) (by kernel_rfl) (fun _ _ _ h => h) (Or.inl ⟨by rfl, ?_⟩) (by assumption) ?_
      rotate_left
      · (intro w hSw; (try dsimp only at hSw); go_simp); (try with_reducible rfl)
      try simp only [Act.put, List.setIfInBounds_toArray, List.set_cons_zero, List.set_cons_succ]
      refine wpAnyH_take (i := 4) (oi := { dst := some 25, op := Op.load 30 (Operand.tmp 24), type := 30, pos := "loop.go:196", after := #[{ on := 3, ground := Ground.data }], guard := none }) (v := ?_) rfl (by kernel_rfl) (by kernel_rfl) (by kernel_rfl) (fun _ _ _ h => h) (Or.inl ⟨by rfl, ?_⟩) (by assumption) ?_
      rotate_left
      · (intro w hSw; (try dsimp only at hSw); go_simp); (try with_reducible rfl)
      try simp only [Act.put, List.setIfInBounds_toArray, List.set_cons_zero, List.set_cons_succ]
      refine wpAnyH_take (i := 9) (oi := { dst := some 30, op := Op.fieldAddr 32 (Operand.tmp 1) 0, type := 0, pos := "loop.go:196", after := #[], guard := none }) (v := ?_) rfl (by kernel_rfl) (by kernel_rfl) (by kernel_rfl) (fun _ _ _ h => h) (Or.inl ⟨by rfl, ?_⟩) (by assumption) ?_
      rotate_left
      · (intro w hSw; (try dsimp only at hSw); go_simp); (try with_reducible rfl)
      try simp only [Act.put, List.setIfInBounds_toArray, List.set_cons_zero, List.set_cons_succ]
      refine wpAnyH_take (i := 10) (oi := { dst := some 31, op := Op.load 30 (Operand.tmp 30), type := 30, pos := "loop.go:196", after := #[{ on := 9, ground := Ground.data }], guard := none }) (v := ?_) rfl (by kernel_rfl) (by kernel_rfl) (by kernel_rfl) (fun _ _ _ h => h) (Or.inl ⟨by rfl, ?_⟩) (by assumption) ?_
      rotate_left
      · (intro w hSw; (try dsimp only at hSw); go_simp); (try with_reducible rfl)
      try simp only [Act.put, List.setIfInBounds_toArray, List.set_cons_zero, List.set_cons_succ]
      refine wpAnyH_take (i := 12) (oi := { dst := some 33, op := Op.fieldAddr 32 (Operand.tmp 1) 1, type := 0, pos := "loop.go:196", after := #[], guard := none }) (v := ?_) rfl (by kernel_rfl) (by kernel_rfl) (by kernel_rfl) (fun _ _ _ h => h) (Or.inl ⟨by rfl, ?_⟩) (by assumption) ?_
      rotate_left
      · (intro w hSw; (try dsimp only at hSw); go_simp); (try with_reducible rfl)
      try simp only [Act.put, List.setIfInBounds_toArray, List.set_cons_zero, List.set_cons_succ]
      refine wpAnyH_take (i := 13) (oi := { dst := some 34, op := Op.load 30 (Operand.tmp 33), type := 30, pos := "loop.go:196", after := #[{ on := 12, ground := Ground.data }], guard := none }) (v := ?_) rfl (by kernel_rfl) (by kernel_rfl) (by kernel_rfl) (fun _ _ _ h => h) (Or.inl ⟨by rfl, ?_⟩) (by assumption) ?_
      rotate_left
      · (intro w hSw; (try dsimp only at hSw); go_simp); (try with_reducible rfl)
      try simp only [Act.put, List.setIfInBounds_toArray, List.set_cons_zero, List.set_cons_succ]
      refine wpAnyH_take (i := 26) (oi := { dst := some 47, op := Op.load 32 (Operand.tmp 1), type := 32, pos := "loop.go:196", after := #[], guard := none }) (v := ?_) rfl (by kernel_rfl) (by kernel_rfl) (by kernel_rfl) (fun _ _ _ h => h) (Or.inl ⟨by rfl, ?_⟩) (by assumption) ?_
      rotate_left
      · (intro w hSw; (try dsimp only at hSw); go_simp); (try with_reducible rfl)
      try simp only [Act.put, List.setIfInBounds_toArray, List.set_cons_zero, List.set_cons_succ]
      refine wpAnyH_ready (rs := [2]) (by kernel_rfl) (by simp) ?_
      refine (AllReadyH.cons (o := { dst := some 23, op := Op.call { callee := Callee.value (Operand.func 69), args := #[Operand.tmp 22], argTypes := #[30] }, type := 3, pos := "loop.go:197", after := #[{ on := 1, ground := Ground.data }], guard := none }) rfl (fun K hK => ?_) AllReadyH.nil)
      go_simp
      (first | (go_at_call 69; (with_reducible refine (DA.out _).mono ?_); rintro e w' ⟨rfl, rfl⟩) | (go_at_call 69; (with_reducible refine (DB.out _).mono ?_); rintro e w' ⟨rfl, rfl⟩) | (go_at_call 69; (with_reducible refine (DC.out _).mono ?_); rintro e w' ⟨rfl, rfl⟩) | (go_at_call 69; (with_reducible refine (DD.out _).mono ?_); rintro e w' ⟨rfl, rfl⟩) | (go_at_call 46; (with_reducible refine (when_any _ _ _).mono ?_); rintro e w' ⟨rfl, rfl⟩) | (go_at_call 59; (with_reducible refine TC.out.mono ?_); rintro e g ⟨⟨u, rfl, hu⟩, g1'⟩; have g1 := below_drew g1'; clear g1') | (go_at_call 63; (with_reducible refine (isLarge_any _ _ _ ?_ hu).mono ?_); (exact hcl); rintro e w' ⟨rfl, rfl⟩) | (go_at_call 45; (with_reducible refine (first3 _ _ _ _ _).mono ?_); rintro e w' ⟨rfl, rfl⟩))
      (try go_wp2_with fail)
      refine hK.out _ _ ?_ (fun hHeld1 => ?_)
      · (try dsimp only); (first | go_keep | exact Four.below hFV.out g1)
      clear hK K hHeld0
      try simp only [Act.put, List.setIfInBounds_toArray, List.set_cons_zero, List.set_cons_succ]
      refine wpAnyH_ready (rs := [5]) (by kernel_rfl) (by simp) ?_
      refine (AllReadyH.cons (o := { dst := some 26, op := Op.call { callee := Callee.value (Operand.func 69), args := #[Operand.tmp 25], argTypes := #[30] }, type := 3, pos := "loop.go:197", after := #[{ on := 4, ground := Ground.data }, { on := 2, ground := Ground.chain }], guard := none }) rfl (fun K hK => ?_) AllReadyH.nil)
      go_simp
      (first | (go_at_call 69; (with_reducible refine (DA.out _).mono ?_); rintro e w' ⟨rfl, rfl⟩) | (go_at_call 69; (with_reducible refine (DB.out _).mono ?_); rintro e w' ⟨rfl, rfl⟩) | (go_at_call 69; (with_reducible refine (DC.out _).mono ?_); rintro e w' ⟨rfl, rfl⟩) | (go_at_call 69; (with_reducible refine (DD.out _).mono ?_); rintro e w' ⟨rfl, rfl⟩) | (go_at_call 46; (with_reducible refine (when_any _ _ _).mono ?_); rintro e w' ⟨rfl, rfl⟩) | (go_at_call 59; (with_reducible refine TC.out.mono ?_); rintro e g ⟨⟨u, rfl, hu⟩, g1'⟩; have g1 := below_drew g1'; clear g1') | (go_at_call 63; (with_reducible refine (isLarge_any _ _ _ ?_ hu).mono ?_); (exact hcl); rintro e w' ⟨rfl, rfl⟩) | (go_at_call 45; (with_reducible refine (first3 _ _ _ _ _).mono ?_); rintro e w' ⟨rfl, rfl⟩))
      (try go_wp2_with fail)
      refine hK.out _ _ ?_ (fun hHeld2 => ?_)
      · (try dsimp only); (first | go_keep | exact Four.below hFV.out g1)
      clear hK K hHeld1
      try simp only [Act.put, List.setIfInBounds_toArray, List.set_cons_zero, List.set_cons_succ]
      refine wpAnyH_take (i := 6) (oi := { dst := some 27, op := Op.call { callee := Callee.builtin Builtin.max, args := #[Operand.tmp 23, Operand.tmp 26], argTypes := #[3, 3] }, type := 3, pos := "loop.go:196", after := #[{ on := 2, ground := Ground.data }, { on := 5, ground := Ground.data }], guard := none }) (v := ?_) rfl (by kernel_rfl) (by kernel_rfl) (by kernel_rfl) (fun _ _ _ h => h) (Or.inl ⟨by rfl, ?_⟩) (by assumption) ?_
      rotate_left
      · (intro w hSw; (try dsimp only at hSw); go_simp); (try with_reducible rfl)
      try simp only [Act.put, List.setIfInBounds_toArray, List.set_cons_zero, List.set_cons_succ]
      refine wpAnyH_take (i := 7) (oi := { dst := some 28, op := Op.binOp BinOp.gtr 3 (Operand.tmp 27) (Operand.const (Value.int IntKind.i64 2)) 3, type := 4, pos := "loop.go:196", after := #[{ on := 6, ground := Ground.data }], guard := none }) (v := ?_) rfl (by kernel_rfl) (by kernel_rfl) (by kernel_rfl) (fun _ _ _ h => h) (Or.inl ⟨by rfl, ?_⟩) (by assumption) ?_
      rotate_left
      · (intro w hSw; (try dsimp only at hSw); go_simp); (try with_reducible rfl)
      try simp only [Act.put, List.setIfInBounds_toArray, List.set_cons_zero, List.set_cons_succ]
      refine wpAnyH_ready (rs := [8]) (by kernel_rfl) (by simp) ?_
      refine (AllReadyH.cons (o := { dst := some 29, op := Op.call { callee := Callee.value (Operand.func 46), args := #[Operand.tmp 28, Operand.const (Value.int IntKind.i64 20)], argTypes := #[4, 27] }, type := 27, pos := "loop.go:197", after := #[{ on := 7, ground := Ground.data }, { on := 5, ground := Ground.chain }], guard := none }) rfl (fun K hK => ?_) AllReadyH.nil)
      go_simp
      (first | (go_at_call 69; (with_reducible refine (DA.out _).mono ?_); rintro e w' ⟨rfl, rfl⟩) | (go_at_call 69; (with_reducible refine (DB.out _).mono ?_); rintro e w' ⟨rfl, rfl⟩) | (go_at_call 69; (with_reducible refine (DC.out _).mono ?_); rintro e w' ⟨rfl, rfl⟩) | (go_at_call 69; (with_reducible refine (DD.out _).mono ?_); rintro e w' ⟨rfl, rfl⟩) | (go_at_call 46; (with_reducible refine (when_any _ _ _).mono ?_); rintro e w' ⟨rfl, rfl⟩) | (go_at_call 59; (with_reducible refine TC.out.mono ?_); rintro e g ⟨⟨u, rfl, hu⟩, g1'⟩; have g1 := below_drew g1'; clear g1') | (go_at_call 63; (with_reducible refine (isLarge_any _ _ _ ?_ hu).mono ?_); (exact hcl); rintro e w' ⟨rfl, rfl⟩) | (go_at_call 45; (with_reducible refine (first3 _ _ _ _ _).mono ?_); rintro e w' ⟨rfl, rfl⟩))
      (try go_wp2_with fail)
      refine hK.out _ _ ?_ (fun hHeld3 => ?_)
      · (try dsimp only); (first | go_keep | exact Four.below hFV.out g1)
      clear hK K hHeld2
      try simp only [Act.put, List.setIfInBounds_toArray, List.set_cons_zero, List.set_cons_succ]
      refine wpAnyH_ready (rs := [11]) (by kernel_rfl) (by simp) ?_
      refine (AllReadyH.cons (o := { dst := some 32, op := Op.call { callee := Callee.value (Operand.func 69), args := #[Operand.tmp 31], argTypes := #[30] }, type := 3, pos := "loop.go:198", after := #[{ on := 10, ground := Ground.data }, { on := 8, ground := Ground.chain }], guard := none }) rfl (fun K hK => ?_) AllReadyH.nil)
      go_simp
      (first | (go_at_call 69; (with_reducible refine (DA.out _).mono ?_); rintro e w' ⟨rfl, rfl⟩) | (go_at_call 69; (with_reducible refine (DB.out _).mono ?_); rintro e w' ⟨rfl, rfl⟩) | (go_at_call 69; (with_reducible refine (DC.out _).mono ?_); rintro e w' ⟨rfl, rfl⟩) | (go_at_call 69; (with_reducible refine (DD.out _).mono ?_); rintro e w' ⟨rfl, rfl⟩) | (go_at_call 46; (with_reducible refine (when_any _ _ _).mono ?_); rintro e w' ⟨rfl, rfl⟩) | (go_at_call 59; (with_reducible refine TC.out.mono ?_); rintro e g ⟨⟨u, rfl, hu⟩, g1'⟩; have g1 := below_drew g1'; clear g1') | (go_at_call 63; (with_reducible refine (isLarge_any _ _ _ ?_ hu).mono ?_); (exact hcl); rintro e w' ⟨rfl, rfl⟩) | (go_at_call 45; (with_reducible refine (first3 _ _ _ _ _).mono ?_); rintro e w' ⟨rfl, rfl⟩))
      (try go_wp2_with fail)
      refine hK.out _ _ ?_ (fun hHeld4 => ?_)
      · (try dsimp only); (first | go_keep | exact Four.below hFV.out g1)
      clear hK K hHeld3
      try simp only [Act.put, List.setIfInBounds_toArray, List.set_cons_zero, List.set_cons_succ]
      refine wpAnyH_ready (rs := [14]) (by kernel_rfl) (by simp) ?_
      refine (AllReadyH.cons (o := { dst := some 35, op := Op.call { callee := Callee.value (Operand.func 69), args := #[Operand.tmp 34], argTypes := #[30] }, type := 3, pos := "loop.go:198", after := #[{ on := 13, ground := Ground.data }, { on := 11, ground := Ground.chain }], guard := none }) rfl (fun K hK => ?_) AllReadyH.nil)
      go_simp
      (first | (go_at_call 69; (with_reducible refine (DA.out _).mono ?_); rintro e w' ⟨rfl, rfl⟩) | (go_at_call 69; (with_reducible refine (DB.out _).mono ?_); rintro e w' ⟨rfl, rfl⟩) | (go_at_call 69; (with_reducible refine (DC.out _).mono ?_); rintro e w' ⟨rfl, rfl⟩) | (go_at_call 69; (with_reducible refine (DD.out _).mono ?_); rintro e w' ⟨rfl, rfl⟩) | (go_at_call 46; (with_reducible refine (when_any _ _ _).mono ?_); rintro e w' ⟨rfl, rfl⟩) | (go_at_call 59; (with_reducible refine TC.out.mono ?_); rintro e g ⟨⟨u, rfl, hu⟩, g1'⟩; have g1 := below_drew g1'; clear g1') | (go_at_call 63; (with_reducible refine (isLarge_any _ _ _ ?_ hu).mono ?_); (exact hcl); rintro e w' ⟨rfl, rfl⟩) | (go_at_call 45; (with_reducible refine (first3 _ _ _ _ _).mono ?_); rintro e w' ⟨rfl, rfl⟩))
      (try go_wp2_with fail)
      refine hK.out _ _ ?_ (fun hHeld5 => ?_)
      · (try dsimp only); (first | go_keep | exact Four.below hFV.out g1)
      clear hK K hHeld4
      try simp only [Act.put, List.setIfInBounds_toArray, List.set_cons_zero, List.set_cons_succ]
      refine wpAnyH_take (i := 15) (oi := { dst := some 36, op := Op.binOp BinOp.geq 3 (Operand.tmp 32) (Operand.tmp 35) 3, type := 4, pos := "loop.go:196", after := #[{ on := 11, ground := Ground.data }, { on := 14, ground := Ground.data }], guard := none }) (v := ?_) rfl (by kernel_rfl) (by kernel_rfl) (by kernel_rfl) (fun _ _ _ h => h) (Or.inl ⟨by rfl, ?_⟩) (by assumption) ?_
      rotate_left
      · (intro w hSw; (try dsimp only at hSw); go_simp); (try with_reducible rfl)
      try simp only [Act.put, List.setIfInBounds_toArray, List.set_cons_zero, List.set_cons_succ]
      refine wpAnyH_take (i := 16) (oi := { dst := some 37, op := Op.move (Operand.tmp 36), type := 4, pos := "loop.go:196", after := #[{ on := 15, ground := Ground.data }, { on := 14, ground := Ground.chain }], guard := none }) (v := ?_) rfl (by kernel_rfl) (by kernel_rfl) (by kernel_rfl) (fun _ _ _ h => h) (Or.inl ⟨by rfl, ?_⟩) (by assumption) ?_
      rotate_left
      · (intro w hSw; (try dsimp only at hSw); go_simp); (try with_reducible rfl)
      try simp only [Act.put, List.setIfInBounds_toArray, List.set_cons_zero, List.set_cons_succ]
      refine wpAnyH_take (i := 17) (oi := { dst := some 38, op := Op.fieldAddr 32 (Operand.tmp 1) 2, type := 0, pos := "loop.go:196", after := #[{ on := 16, ground := Ground.guard }], guard := some (16, false) }) (v := undef) rfl (by kernel_rfl) (by kernel_rfl) (by kernel_rfl) (fun _ _ _ h => h) (Or.inr ⟨by rfl, rfl⟩) (by assumption) ?_
      try simp only [Act.put, List.setIfInBounds_toArray, List.set_cons_zero, List.set_cons_succ]
      refine wpAnyH_take (i := 18) (oi := { dst := some 39, op := Op.load 30 (Operand.tmp 38), type := 30, pos := "loop.go:196", after := #[{ on := 17, ground := Ground.data }, { on := 16, ground := Ground.guard }], guard := some (16, false) }) (v := undef) rfl (by kernel_rfl) (by kernel_rfl) (by kernel_rfl) (fun _ _ _ h => h) (Or.inr ⟨by rfl, rfl⟩) (by assumption) ?_
      try simp only [Act.put, List.setIfInBounds_toArray, List.set_cons_zero, List.set_cons_succ]
      refine wpAnyH_take (i := 19) (oi := { dst := some 40, op := Op.call { callee := Callee.value (Operand.func 69), args := #[Operand.tmp 39], argTypes := #[30] }, type := 3, pos := "loop.go:198", after := #[{ on := 18, ground := Ground.data }, { on := 16, ground := Ground.chain }, { on := 16, ground := Ground.guard }], guard := some (16, false) }) (v := undef) rfl (by kernel_rfl) (by kernel_rfl) (by kernel_rfl) (fun _ _ _ h => h) (Or.inr ⟨by rfl, rfl⟩) (by assumption) ?_
      try simp only [Act.put, List.setIfInBounds_toArray, List.set_cons_zero, List.set_cons_succ]
      refine wpAnyH_take (i := 20) (oi := { dst := some 41, op := Op.fieldAddr 32 (Operand.tmp 1) 3, type := 0, pos := "loop.go:196", after := #[{ on := 16, ground := Ground.guard }], guard := some (16, false) }) (v := undef) rfl (by kernel_rfl) (by kernel_rfl) (by kernel_rfl) (fun _ _ _ h => h) (Or.inr ⟨by rfl, rfl⟩) (by assumption) ?_
      try simp only [Act.put, List.setIfInBounds_toArray, List.set_cons_zero, List.set_cons_succ]
      refine wpAnyH_take (i := 21) (oi := { dst := some 42, op := Op.load 30 (Operand.tmp 41), type := 30, pos := "loop.go:196", after := #[{ on := 20, ground := Ground.data }, { on := 16, ground := Ground.guard }], guard := some (16, false) }) (v := undef) rfl (by kernel_rfl) (by kernel_rfl) (by kernel_rfl) (fun _ _ _ h => h) (Or.inr ⟨by rfl, rfl⟩) (by assumption) ?_
      try simp only [Act.put, List.setIfInBounds_toArray, List.set_cons_zero, List.set_cons_succ]
      refine wpAnyH_take (i := 22) (oi := { dst := some 43, op := Op.call { callee := Callee.value (Operand.func 69), args := #[Operand.tmp 42], argTypes := #[30] }, type := 3, pos := "loop.go:198", after := #[{ on := 21, ground := Ground.data }, { on := 19, ground := Ground.chain }, { on := 16, ground := Ground.guard }], guard := some (16, false) }) (v := undef) rfl (by kernel_rfl) (by kernel_rfl) (by kernel_rfl) (fun _ _ _ h => h) (Or.inr ⟨by rfl, rfl⟩) (by assumption) ?_
      try simp only [Act.put, List.setIfInBounds_toArray, List.set_cons_zero, List.set_cons_succ]
      refine wpAnyH_take (i := 23) (oi := { dst := some 44, op := Op.binOp BinOp.gtr 3 (Operand.tmp 40) (Operand.tmp 43) 3, type := 4, pos := "loop.go:196", after := #[{ on := 19, ground := Ground.data }, { on := 22, ground := Ground.data }, { on := 16, ground := Ground.guard }], guard := some (16, false) }) (v := undef) rfl (by kernel_rfl) (by kernel_rfl) (by kernel_rfl) (fun _ _ _ h => h) (Or.inr ⟨by rfl, rfl⟩) (by assumption) ?_
      try simp only [Act.put, List.setIfInBounds_toArray, List.set_cons_zero, List.set_cons_succ]
      refine wpAnyH_take (i := 24) (oi := { dst := some 45, op := Op.pick (Operand.tmp 37) (Operand.const (Value.bool true)) (Operand.tmp 44), type := 4, pos := "loop.go:196", after := #[{ on := 16, ground := Ground.data }, { on := 23, ground := Ground.data }], guard := none }) (v := ?_) rfl (by kernel_rfl) (by kernel_rfl) (by kernel_rfl) (fun _ _ _ h => h) (Or.inl ⟨by rfl, ?_⟩) (by assumption) ?_
      rotate_left
      · (intro w hSw; (try dsimp only at hSw); go_simp); (try with_reducible rfl)
      try simp only [Act.put, List.setIfInBounds_toArray, List.set_cons_zero, List.set_cons_succ]
      refine wpAnyH_ready (rs := [25]) (by kernel_rfl) (by simp) ?_
      refine (AllReadyH.cons (o := { dst := some 46, op := Op.call { callee := Callee.value (Operand.func 46), args := #[Operand.tmp 45, Operand.const (Value.int IntKind.i64 2)], argTypes := #[4, 27] }, type := 27, pos := "loop.go:198", after := #[{ on := 24, ground := Ground.data }, { on := 22, ground := Ground.chain }], guard := none }) rfl (fun K hK => ?_) AllReadyH.nil)
      go_simp
      (first | (go_at_call 69; (with_reducible refine (DA.out _).mono ?_); rintro e w' ⟨rfl, rfl⟩) | (go_at_call 69; (with_reducible refine (DB.out _).mono ?_); rintro e w' ⟨rfl, rfl⟩) | (go_at_call 69; (with_reducible refine (DC.out _).mono ?_); rintro e w' ⟨rfl, rfl⟩) | (go_at_call 69; (with_reducible refine (DD.out _).mono ?_); rintro e w' ⟨rfl, rfl⟩) | (go_at_call 46; (with_reducible refine (when_any _ _ _).mono ?_); rintro e w' ⟨rfl, rfl⟩) | (go_at_call 59; (with_reducible refine TC.out.mono ?_); rintro e g ⟨⟨u, rfl, hu⟩, g1'⟩; have g1 := below_drew g1'; clear g1') | (go_at_call 63; (with_reducible refine (isLarge_any _ _ _ ?_ hu).mono ?_); (exact hcl); rintro e w' ⟨rfl, rfl⟩) | (go_at_call 45; (with_reducible refine (first3 _ _ _ _ _).mono ?_); rintro e w' ⟨rfl, rfl⟩))
      (try go_wp2_with fail)
      refine hK.out _ _ ?_ (fun hHeld6 => ?_)
      · (try dsimp only); (first | go_keep | exact Four.below hFV.out g1)
      clear hK K hHeld5
      try simp only [Act.put, List.setIfInBounds_toArray, List.set_cons_zero, List.set_cons_succ]
      refine wpAnyH_ready (rs := [27]) (by kernel_rfl) (by simp) ?_
      refine (AllReadyH.cons (o := { dst := some 48, op := Op.call { callee := Callee.value (Operand.func 59), args := #[Operand.tmp 47], argTypes := #[32] }, type := 30, pos := "loop.go:199", after := #[{ on := 26, ground := Ground.data }, { on := 25, ground := Ground.chain }], guard := none }) rfl (fun K hK => ?_) AllReadyH.nil)
      go_simp
      (first | (go_at_call 69; (with_reducible refine (DA.out _).mono ?_); rintro e w' ⟨rfl, rfl⟩) | (go_at_call 69; (with_reducible refine (DB.out _).mono ?_); rintro e w' ⟨rfl, rfl⟩) | (go_at_call 69; (with_reducible refine (DC.out _).mono ?_); rintro e w' ⟨rfl, rfl⟩) | (go_at_call 69; (with_reducible refine (DD.out _).mono ?_); rintro e w' ⟨rfl, rfl⟩) | (go_at_call 46; (with_reducible refine (when_any _ _ _).mono ?_); rintro e w' ⟨rfl, rfl⟩) | (go_at_call 59; (with_reducible refine TC.out.mono ?_); rintro e g ⟨⟨u, rfl, hu⟩, g1'⟩; have g1 := below_drew g1'; clear g1') | (go_at_call 63; (with_reducible refine (isLarge_any _ _ _ ?_ hu).mono ?_); (exact hcl); rintro e w' ⟨rfl, rfl⟩) | (go_at_call 45; (with_reducible refine (first3 _ _ _ _ _).mono ?_); rintro e w' ⟨rfl, rfl⟩))
      (try go_wp2_with fail)
      refine hK.out _ _ ?_ (fun hHeld7 => ?_)
      · (try dsimp only); (first | go_keep | exact Four.below hFV.out g1)
      clear hK K hHeld6
      try simp only [Act.put, List.setIfInBounds_toArray, List.set_cons_zero, List.set_cons_succ]
      refine wpAnyH_ready (rs := [28]) (by kernel_rfl) (by simp) ?_
      refine (AllReadyH.cons (o := { dst := some 49, op := Op.call { callee := Callee.value (Operand.func 63), args := #[Operand.tmp 48], argTypes := #[30] }, type := 4, pos := "loop.go:199", after := #[{ on := 27, ground := Ground.data }, { on := 27, ground := Ground.chain }], guard := none }) rfl (fun K hK => ?_) AllReadyH.nil)
      go_simp
      (first | (go_at_call 69; (with_reducible refine (DA.out _).mono ?_); rintro e w' ⟨rfl, rfl⟩) | (go_at_call 69; (with_reducible refine (DB.out _).mono ?_); rintro e w' ⟨rfl, rfl⟩) | (go_at_call 69; (with_reducible refine (DC.out _).mono ?_); rintro e w' ⟨rfl, rfl⟩) | (go_at_call 69; (with_reducible refine (DD.out _).mono ?_); rintro e w' ⟨rfl, rfl⟩) | (go_at_call 46; (with_reducible refine (when_any _ _ _).mono ?_); rintro e w' ⟨rfl, rfl⟩) | (go_at_call 59; (with_reducible refine TC.out.mono ?_); rintro e g ⟨⟨u, rfl, hu⟩, g1'⟩; have g1 := below_drew g1'; clear g1') | (go_at_call 63; (with_reducible refine (isLarge_any _ _ _ ?_ hu).mono ?_); (exact hcl); rintro e w' ⟨rfl, rfl⟩) | (go_at_call 45; (with_reducible refine (first3 _ _ _ _ _).mono ?_); rintro e w' ⟨rfl, rfl⟩))
      (try go_wp2_with fail)
      refine hK.out _ _ ?_ (fun hHeld8 => ?_)
      · (try dsimp only); (first | go_keep | exact Four.below hFV.out g1)
      clear hK K hHeld7
      try simp only [Act.put, List.setIfInBounds_toArray, List.set_cons_zero, List.set_cons_succ]
      refine wpAnyH_ready (rs := [29]) (by kernel_rfl) (by simp) ?_
      refine (AllReadyH.cons (o := { dst := some 50, op := Op.call { callee := Callee.value (Operand.func 46), args := #[Operand.tmp 49, Operand.const (Value.int IntKind.i64 4)], argTypes := #[4, 27] }, type := 27, pos := "loop.go:199", after := #[{ on := 28, ground := Ground.data }, { on := 28, ground := Ground.chain }], guard := none }) rfl (fun K hK => ?_) AllReadyH.nil)
      go_simp
      (first | (go_at_call 69; (with_reducible refine (DA.out _).mono ?_); rintro e w' ⟨rfl, rfl⟩) | (go_at_call 69; (with_reducible refine (DB.out _).mono ?_); rintro e w' ⟨rfl, rfl⟩) | (go_at_call 69; (with_reducible refine (DC.out _).mono ?_); rintro e w' ⟨rfl, rfl⟩) | (go_at_call 69; (with_reducible refine (DD.out _).mono ?_); rintro e w' ⟨rfl, rfl⟩) | (go_at_call 46; (with_reducible refine (when_any _ _ _).mono ?_); rintro e w' ⟨rfl, rfl⟩) | (go_at_call 59; (with_reducible refine TC.out.mono ?_); rintro e g ⟨⟨u, rfl, hu⟩, g1'⟩; have g1 := below_drew g1'; clear g1') | (go_at_call 63; (with_reducible refine (isLarge_any _ _ _ ?_ hu).mono ?_); (exact hcl); rintro e w' ⟨rfl, rfl⟩) | (go_at_call 45; (with_reducible refine (first3 _ _ _ _ _).mono ?_); rintro e w' ⟨rfl, rfl⟩))
      (try go_wp2_with fail)
      refine hK.out _ _ ?_ (fun hHeld9 => ?_)
      · (try dsimp only); (first | go_keep | exact Four.below hFV.out g1)
      clear hK K hHeld8
      try simp only [Act.put, List.setIfInBounds_toArray, List.set_cons_zero, List.set_cons_succ]
      refine wpAnyH_ready (rs := [30]) (by kernel_rfl) (by simp) ?_
      refine (AllReadyH.cons (o := { dst := some 51, op := Op.buildSlice 155 3 #[(0, Operand.tmp 29), (1, Operand.tmp 46), (2, Operand.tmp 50)], type := 155, pos := "loop.go:196", after := #[{ on := 8, ground := Ground.data }, { on := 25, ground := Ground.data }, { on := 29, ground := Ground.data }], guard := none }) rfl (fun K hK => ?_) AllReadyH.nil)
      go_simp
      refine hK.out _ _ ?_ (fun hHeld10 => ?_)
      · (try dsimp only); (first | go_keep | exact Four.below hFV.out g1)
      clear hK K hHeld9
      try simp only [Act.put, List.setIfInBounds_toArray, List.set_cons_zero, List.set_cons_succ]
      refine wpAnyH_ready (rs := [31]) (by kernel_rfl) (by simp) ?_
      refine (AllReadyH.cons (o := { dst := some 52, op := Op.call { callee := Callee.value (Operand.func 45), args := #[Operand.tmp 51], argTypes := #[155] }, type := 27, pos := "loop.go:196", after := #[{ on := 30, ground := Ground.data }, { on := 29, ground := Ground.chain }], guard := none }) rfl (fun K hK => ?_) AllReadyH.nil)
      go_simp
      (first | (go_at_call 69; (with_reducible refine (DA.out _).mono ?_); rintro e w' ⟨rfl, rfl⟩) | (go_at_call 69; (with_reducible refine (DB.out _).mono ?_); rintro e w' ⟨rfl, rfl⟩) | (go_at_call 69; (with_reducible refine (DC.out _).mono ?_); rintro e w' ⟨rfl, rfl⟩) | (go_at_call 69; (with_reducible refine (DD.out _).mono ?_); rintro e w' ⟨rfl, rfl⟩) | (go_at_call 46; (with_reducible refine (when_any _ _ _).mono ?_); rintro e w' ⟨rfl, rfl⟩) | (go_at_call 59; (with_reducible refine TC.out.mono ?_); rintro e g ⟨⟨u, rfl, hu⟩, g1'⟩; have g1 := below_drew g1'; clear g1') | (go_at_call 63; (with_reducible refine (isLarge_any _ _ _ ?_ hu).mono ?_); (exact hcl); rintro e w' ⟨rfl, rfl⟩) | (go_at_call 45; (with_reducible refine (first3 _ _ _ _ _).mono ?_); rintro e w' ⟨rfl, rfl⟩))
      (try go_wp2_with fail)
      refine hK.out _ _ ?_ (fun hHeld11 => ?_)
      · (try dsimp only); (first | go_keep | exact Four.below hFV.out g1)
      clear hK K hHeld10
      try simp only [Act.put, List.setIfInBounds_toArray, List.set_cons_zero, List.set_cons_succ]
      refine wpAnyH_take (i := 32) (oi := { dst := some 2, op := Op.assign (Operand.tmp 52), type := 27, pos := "loop.go:196", after := #[{ on := 31, ground := Ground.data }, { on := 31, ground := Ground.chain }, { on := 0, ground := Ground.phase }, { on := 1, ground := Ground.phase }, { on := 2, ground := Ground.phase }, { on := 3, ground := Ground.phase }, { on := 4, ground := Ground.phase }, { on := 5, ground := Ground.phase }, { on := 6, ground := Ground.phase }, { on := 7, ground := Ground.phase }, { on := 8, ground := Ground.phase }, { on := 9, ground := Ground.phase }, { on := 10, ground := Ground.phase }, { on := 11, ground := Ground.phase }, { on := 12, ground := Ground.phase }, { on := 13, ground := Ground.phase }, { on := 14, ground := Ground.phase }, { on := 15, ground := Ground.phase }, { on := 16, ground := Ground.phase }, { on := 17, ground := Ground.phase }, { on := 18, ground := Ground.phase }, { on := 19, ground := Ground.phase }, { on := 20, ground := Ground.phase }, { on := 21, ground := Ground.phase }, { on := 22, ground := Ground.phase }, { on := 23, ground := Ground.phase }, { on := 24, ground := Ground.phase }, { on := 25, ground := Ground.phase }, { on := 26, ground := Ground.phase }, { on := 27, ground := Ground.phase }, { on := 28, ground := Ground.phase }, { on := 29, ground := Ground.phase }, { on := 30, ground := Ground.phase }, { on := 31, ground := Ground.phase }], guard := none }) (v := ?_) rfl (by kernel_rfl) (by kernel_rfl) (by kernel_rfl) (fun _ _ _ h => h) (Or.inl ⟨by rfl, ?_⟩) (by assumption) ?_
      rotate_left
      · (intro w hSw; (try dsimp only at hSw); go_simp); (try with_reducible rfl)
      try simp only [Act.put, List.setIfInBounds_toArray, List.set_cons_zero, List.set_cons_succ]
      refine wpAnyH_done (by kernel_rfl) ?_ _
      clear hHeld11
      go_wp2
      go_ret
      exact ⟨ret_int (by rw [checkLoopE, if_neg (by rw [loop1E, HE.out]; simp), loop2E, Int.max_eq_left (by omega), decide_eq_true hg, Bool.true_or]), bthen h6 (g1.alloc g1.size _)⟩
    · go_wp2_with fail
      refine wp_region_held_drew (S := (fun w' => w'.cell? ⟨w.heap.size, 0, none⟩ = some va ∧ w'.cell? ⟨w.heap.size, 1, none⟩ = some vb ∧ w'.cell? ⟨w.heap.size, 2, none⟩ = some vc ∧ w'.cell? ⟨w.heap.size, 3, none⟩ = some vd)) (by kernel_rfl) ?_ (fun hHeld0 => ?_)
      · (try dsimp only); (first | go_keep | exact Four.below hFV.out g1)
      refine wpAnyH_take (i := 0) (oi := { dst := some 21, op := Op.fieldAddr 32 (Operand.tmp 1) 1, type := 0, pos := "loop.go:196", after := #[], guard := none }) (v := ?_) rfl (by kernel_rfl) (by kernel_rfl) (by kernel_rfl) (fun _ _ _ h => h) (Or.inl ⟨by rfl, ?_⟩) (by assumption) ?_
      rotate_left
      · (intro w hSw; (try dsimp only at hSw); go_simp); (try with_reducible rfl)
      try simp only [Act.put, List.setIfInBounds_toArray, List.set_cons_zero, List.set_cons_succ]
      refine wpAnyH_take (i := 1) (oi := { dst := some 22, op := Op.load 30 (Operand.tmp 21), type := 30, pos := "loop.go:196", after := #[{ on := 0, ground := Ground.data }], guard := none }) (v := ?_) rfl (by kernel_rfl) (by kernel_rfl) (by kernel_rfl) (fun _ _ _ h => h) (Or.inl ⟨by rfl, ?_⟩) (by assumption) ?_
      rotate_left
      · (intro w hSw; (try dsimp only at hSw); go_simp); (try with_reducible rfl)
      try simp only [Act.put, List.setIfInBounds_toArray, List.set_cons_zero, List.set_cons_succ]
      refine wpAnyH_take (i := 3) (oi := { dst := some 24, op := Op.fieldAddr 32 (Operand.tmp 1) 3, type := 0, pos := "loop.go:196", after := #[], guard := none }) (v := ?_) rfl (by kernel_rfl) (by kernel_rfl) (by kernel_rfl) (fun _ _ _ h => h) (Or.inl ⟨by rfl, ?_⟩) (by assumption) ?_
      rotate_left
      · (intro w hSw; (try dsimp only at hSw); go_simp); (try with_reducible rfl)
      try simp only [Act.put, List.setIfInBounds_toArray, List.set_cons_zero, List.set_cons_succ]
      refine wpAnyH_take (i := 4) (oi := { dst := some 25, op := Op.load 30 (Operand.tmp 24), type := 30, pos := "loop.go:196", after := #[{ on := 3, ground := Ground.data }], guard := none }) (v := ?_) rfl (by kernel_rfl) (by kernel_rfl) (by kernel_rfl) (fun _ _ _ h => h) (Or.inl ⟨by rfl, ?_⟩) (by assumption) ?_
      rotate_left
      · (intro w hSw; (try dsimp only at hSw); go_simp); (try with_reducible rfl)
      try simp only [Act.put, List.setIfInBounds_toArray, List.set_cons_zero, List.set_cons_succ]
      refine wpAnyH_take (i := 9) (oi := { dst := some 30, op := Op.fieldAddr 32 (Operand.tmp 1) 0, type := 0, pos := "loop.go:196", after := #[], guard := none }) (v := ?_) rfl (by kernel_rfl) (by kernel_rfl) (by kernel_rfl) (fun _ _ _ h => h) (Or.inl ⟨by rfl, ?_⟩) (by assumption) ?_
      rotate_left
      · (intro w hSw; (try dsimp only at hSw); go_simp); (try with_reducible rfl)
      try simp only [Act.put, List.setIfInBounds_toArray, List.set_cons_zero, List.set_cons_succ]
      refine wpAnyH_take (i := 10) (oi := { dst := some 31, op := Op.load 30 (Operand.tmp 30), type := 30, pos := "loop.go:196", after := #[{ on := 9, ground := Ground.data }], guard := none }) (v := ?_) rfl (by kernel_rfl) (by kernel_rfl) (by kernel_rfl) (fun _ _ _ h => h) (Or.inl ⟨by rfl, ?_⟩) (by assumption) ?_
      rotate_left
      · (intro w hSw; (try dsimp only at hSw); go_simp); (try with_reducible rfl)
      try simp only [Act.put, List.setIfInBounds_toArray, List.set_cons_zero, List.set_cons_succ]
      refine wpAnyH_take (i := 12) (oi := { dst := some 33, op := Op.fieldAddr 32 (Operand.tmp 1) 1, type := 0, pos := "loop.go:196", after := #[], guard := none }) (v := ?_) rfl (by kernel_rfl) (by kernel_rfl) (by kernel_rfl) (fun _ _ _ h => h) (Or.inl ⟨by rfl, ?_⟩) (by assumption) ?_
      rotate_left
      · (intro w hSw; (try dsimp only at hSw); go_simp); (try with_reducible rfl)
      try simp only [Act.put, List.setIfInBounds_toArray, List.set_cons_zero, List.set_cons_succ]
      refine wpAnyH_take (i := 13) (oi := { dst := some 34, op := Op.load 30 (Operand.tmp 33), type := 30, pos := "loop.go:196", after := #[{ on := 12, ground := Ground.data }], guard := none }) (v := ?_) rfl (by kernel_rfl) (by kernel_rfl) (by kernel_rfl) (fun _ _ _ h => h) (Or.inl ⟨by rfl, ?_⟩) (by assumption) ?_
      rotate_left
      · (intro w hSw; (try dsimp only at hSw); go_simp); (try with_reducible rfl)
      try simp only [Act.put, List.setIfInBounds_toArray, List.set_cons_zero, List.set_cons_succ]
      refine wpAnyH_take (i := 26) (oi := { dst := some 47, op := Op.load 32 (Operand.tmp 1), type := 32, pos := "loop.go:196", after := #[], guard := none }) (v := ?_) rfl (by kernel_rfl) (by kernel_rfl) (by kernel_rfl) (fun _ _ _ h => h) (Or.inl ⟨by rfl, ?_⟩) (by assumption) ?_
      rotate_left
      · (intro w hSw; (try dsimp only at hSw); go_simp); (try with_reducible rfl)
      try simp only [Act.put, List.setIfInBounds_toArray, List.set_cons_zero, List.set_cons_succ]
      refine wpAnyH_ready (rs := [2]) (by kernel_rfl) (by simp) ?_
      refine (AllReadyH.cons (o := { dst := some 23, op := Op.call { callee := Callee.value (Operand.func 69), args := #[Operand.tmp 22], argTypes := #[30] }, type := 3, pos := "loop.go:197", after := #[{ on := 1, ground := Ground.data }], guard := none }) rfl (fun K hK => ?_) AllReadyH.nil)
      go_simp
      (first | (go_at_call 69; (with_reducible refine (DA.out _).mono ?_); rintro e w' ⟨rfl, rfl⟩) | (go_at_call 69; (with_reducible refine (DB.out _).mono ?_); rintro e w' ⟨rfl, rfl⟩) | (go_at_call 69; (with_reducible refine (DC.out _).mono ?_); rintro e w' ⟨rfl, rfl⟩) | (go_at_call 69; (with_reducible refine (DD.out _).mono ?_); rintro e w' ⟨rfl, rfl⟩) | (go_at_call 46; (with_reducible refine (when_any _ _ _).mono ?_); rintro e w' ⟨rfl, rfl⟩) | (go_at_call 59; (with_reducible refine TC.out.mono ?_); rintro e g ⟨⟨u, rfl, hu⟩, g1'⟩; have g1 := below_drew g1'; clear g1') | (go_at_call 63; (with_reducible refine (isLarge_any _ _ _ ?_ hu).mono ?_); (exact hcl); rintro e w' ⟨rfl, rfl⟩) | (go_at_call 45; (with_reducible refine (first3 _ _ _ _ _).mono ?_); rintro e w' ⟨rfl, rfl⟩))
      (try go_wp2_with fail)
      refine hK.out _ _ ?_ (fun hHeld1 => ?_)
      · (try dsimp only); (first | go_keep | exact Four.below hFV.out g1)
      clear hK K hHeld0
      try simp only [Act.put, List.setIfInBounds_toArray, List.set_cons_zero, List.set_cons_succ]
      refine wpAnyH_ready (rs := [5]) (by kernel_rfl) (by simp) ?_
      refine (AllReadyH.cons (o := { dst := some 26, op := Op.call { callee := Callee.value (Operand.func 69), args := #[Operand.tmp 25], argTypes := #[30] }, type := 3, pos := "loop.go:197", after := #[{ on := 4, ground := Ground.data }, { on := 2, ground := Ground.chain }], guard := none }) rfl (fun K hK => ?_) AllReadyH.nil)
      go_simp
      (first | (go_at_call 69; (with_reducible refine (DA.out _).mono ?_); rintro e w' ⟨rfl, rfl⟩) | (go_at_call 69; (with_reducible refine (DB.out _).mono ?_); rintro e w' ⟨rfl, rfl⟩) | (go_at_call 69; (with_reducible refine (DC.out _).mono ?_); rintro e w' ⟨rfl, rfl⟩) | (go_at_call 69; (with_reducible refine (DD.out _).mono ?_); rintro e w' ⟨rfl, rfl⟩) | (go_at_call 46; (with_reducible refine (when_any _ _ _).mono ?_); rintro e w' ⟨rfl, rfl⟩) | (go_at_call 59; (with_reducible refine TC.out.mono ?_); rintro e g ⟨⟨u, rfl, hu⟩, g1'⟩; have g1 := below_drew g1'; clear g1') | (go_at_call 63; (with_reducible refine (isLarge_any _ _ _ ?_ hu).mono ?_); (exact hcl); rintro e w' ⟨rfl, rfl⟩) | (go_at_call 45; (with_reducible refine (first3 _ _ _ _ _).mono ?_); rintro e w' ⟨rfl, rfl⟩))
      (try go_wp2_with fail)
      refine hK.out _ _ ?_ (fun hHeld2 => ?_)
      · (try dsimp only); (first | go_keep | exact Four.below hFV.out g1)
      clear hK K hHeld1
      try simp only [Act.put, List.setIfInBounds_toArray, List.set_cons_zero, List.set_cons_succ]
      refine wpAnyH_take (i := 6) (oi := { dst := some 27, op := Op.call { callee := Callee.builtin Builtin.max, args := #[Operand.tmp 23, Operand.tmp 26], argTypes := #[3, 3] }, type := 3, pos := "loop.go:196", after := #[{ on := 2, ground := Ground.data }, { on := 5, ground := Ground.data }], guard := none }) (v := ?_) rfl (by kernel_rfl) (by kernel_rfl) (by kernel_rfl) (fun _ _ _ h => h) (Or.inl ⟨by rfl, ?_⟩) (by assumption) ?_
      rotate_left
      · (intro w hSw; (try dsimp only at hSw); go_simp); (try with_reducible rfl)
      try simp only [Act.put, List.setIfInBounds_toArray, List.set_cons_zero, List.set_cons_succ]
      refine wpAnyH_take (i := 7) (oi := { dst := some 28, op := Op.binOp BinOp.gtr 3 (Operand.tmp 27) (Operand.const (Value.int IntKind.i64 2)) 3, type := 4, pos := "loop.go:196", after := #[{ on := 6, ground := Ground.data }], guard := none }) (v := ?_) rfl (by kernel_rfl) (by kernel_rfl) (by kernel_rfl) (fun _ _ _ h => h) (Or.inl ⟨by rfl, ?_⟩) (by assumption) ?_
      rotate_left
      · (intro w hSw; (try dsimp only at hSw); go_simp); (try with_reducible rfl)
      try simp only [Act.put, List.setIfInBounds_toArray, List.set_cons_zero, List.set_cons_succ]
      refine wpAnyH_ready (rs := [8]) (by kernel_rfl) (by simp) ?_
      refine (AllReadyH.cons (o := { dst := some 29, op := Op.call { callee := Callee.value (Operand.func 46), args := #[Operand.tmp 28, Operand.const (Value.int IntKind.i64 20)], argTypes := #[4, 27] }, type := 27, pos := "loop.go:197", after := #[{ on := 7, ground := Ground.data }, { on := 5, ground := Ground.chain }], guard := none }) rfl (fun K hK => ?_) AllReadyH.nil)
      go_simp
      (first | (go_at_call 69; (with_reducible refine (DA.out _).mono ?_); rintro e w' ⟨rfl, rfl⟩) | (go_at_call 69; (with_reducible refine (DB.out _).mono ?_); rintro e w' ⟨rfl, rfl⟩) | (go_at_call 69; (with_reducible refine (DC.out _).mono ?_); rintro e w' ⟨rfl, rfl⟩) | (go_at_call 69; (with_reducible refine (DD.out _).mono ?_); rintro e w' ⟨rfl, rfl⟩) | (go_at_call 46; (with_reducible refine (when_any _ _ _).mono ?_); rintro e w' ⟨rfl, rfl⟩) | (go_at_call 59; (with_reducible refine TC.out.mono ?_); rintro e g ⟨⟨u, rfl, hu⟩, g1'⟩; have g1 := below_drew g1'; clear g1') | (go_at_call 63; (with_reducible refine (isLarge_any _ _ _ ?_ hu).mono ?_); (exact hcl); rintro e w' ⟨rfl, rfl⟩) | (go_at_call 45; (with_reducible refine (first3 _ _ _ _ _).mono ?_); rintro e w' ⟨rfl, rfl⟩))
      (try go_wp2_with fail)
      refine hK.out _ _ ?_ (fun hHeld3 => ?_)
      · (try dsimp only); (first | go_keep | exact Four.below hFV.out g1)
      clear hK K hHeld2
      try simp only [Act.put, List.setIfInBounds_toArray, List.set_cons_zero, List.set_cons_succ]
      refine wpAnyH_ready (rs := [11]) (by kernel_rfl) (by simp) ?_
      refine (AllReadyH.cons (o := { dst := some 32, op := Op.call { callee := Callee.value (Operand.func 69), args := #[Operand.tmp 31], argTypes := #[30] }, type := 3, pos := "loop.go:198", after := #[{ on := 10, ground := Ground.data }, { on := 8, ground := Ground.chain }], guard := none }) rfl (fun K hK => ?_) AllReadyH.nil)
      go_simp
      (first | (go_at_call 69; (with_reducible refine (DA.out _).mono ?_); rintro e w' ⟨rfl, rfl⟩) | (go_at_call 69; (with_reducible refine (DB.out _).mono ?_); rintro e w' ⟨rfl, rfl⟩) | (go_at_call 69; (with_reducible refine (DC.out _).mono ?_); rintro e w' ⟨rfl, rfl⟩) | (go_at_call 69; (with_reducible refine (DD.out _).mono ?_); rintro e w' ⟨rfl, rfl⟩) | (go_at_call 46; (with_reducible refine (when_any _ _ _).mono ?_); rintro e w' ⟨rfl, rfl⟩) | (go_at_call 59; (with_reducible refine TC.out.mono ?_); rintro e g ⟨⟨u, rfl, hu⟩, g1'⟩; have g1 := below_drew g1'; clear g1') | (go_at_call 63; (with_reducible refine (isLarge_any _ _ _ ?_ hu).mono ?_); (exact hcl); rintro e w' ⟨rfl, rfl⟩) | (go_at_call 45; (with_reducible refine (first3 _ _ _ _ _).mono ?_); rintro e w' ⟨rfl, rfl⟩))
      (try go_wp2_with fail)
      refine hK.out _ _ ?_ (fun hHeld4 => ?_)
      · (try dsimp only); (first | go_keep | exact Four.below hFV.out g1)
      clear hK K hHeld3
      try simp only [Act.put, List.setIfInBounds_toArray, List.set_cons_zero, List.set_cons_succ]
      refine wpAnyH_ready (rs := [14]) (by kernel_rfl) (by simp) ?_
      refine (AllReadyH.cons (o := { dst := some 35, op := Op.call { callee := Callee.value (Operand.func 69), args := #[Operand.tmp 34], argTypes := #[30] }, type := 3, pos := "loop.go:198", after := #[{ on := 13, ground := Ground.data }, { on := 11, ground := Ground.chain }], guard := none }) rfl (fun K hK => ?_) AllReadyH.nil)
      go_simp
      (first | (go_at_call 69; (with_reducible refine (DA.out _).mono ?_); rintro e w' ⟨rfl, rfl⟩) | (go_at_call 69; (with_reducible refine (DB.out _).mono ?_); rintro e w' ⟨rfl, rfl⟩) | (go_at_call 69; (with_reducible refine (DC.out _).mono ?_); rintro e w' ⟨rfl, rfl⟩) | (go_at_call 69; (with_reducible refine (DD.out _).mono ?_); rintro e w' ⟨rfl, rfl⟩) | (go_at_call 46; (with_reducible refine (when_any _ _ _).mono ?_); rintro e w' ⟨rfl, rfl⟩) | (go_at_call 59; (with_reducible refine TC.out.mono ?_); rintro e g ⟨⟨u, rfl, hu⟩, g1'⟩; have g1 := below_drew g1'; clear g1') | (go_at_call 63; (with_reducible refine (isLarge_any _ _ _ ?_ hu).mono ?_); (exact hcl); rintro e w' ⟨rfl, rfl⟩) | (go_at_call 45; (with_reducible refine (first3 _ _ _ _ _).mono ?_); rintro e w' ⟨rfl, rfl⟩))
      (try go_wp2_with fail)
      refine hK.out _ _ ?_ (fun hHeld5 => ?_)
      · (try dsimp only); (first | go_keep | exact Four.below hFV.out g1)
      clear hK K hHeld4
      try simp only [Act.put, List.setIfInBounds_toArray, List.set_cons_zero, List.set_cons_succ]
      refine wpAnyH_take (i := 15) (oi := { dst := some 36, op := Op.binOp BinOp.geq 3 (Operand.tmp 32) (Operand.tmp 35) 3, type := 4, pos := "loop.go:196", after := #[{ on := 11, ground := Ground.data }, { on := 14, ground := Ground.data }], guard := none }) (v := ?_) rfl (by kernel_rfl) (by kernel_rfl) (by kernel_rfl) (fun _ _ _ h => h) (Or.inl ⟨by rfl, ?_⟩) (by assumption) ?_
      rotate_left
      · (intro w hSw; (try dsimp only at hSw); go_simp); (try with_reducible rfl)
      try simp only [Act.put, List.setIfInBounds_toArray, List.set_cons_zero, List.set_cons_succ]
      refine wpAnyH_take (i := 16) (oi := { dst := some 37, op := Op.move (Operand.tmp 36), type := 4, pos := "loop.go:196", after := #[{ on := 15, ground := Ground.data }, { on := 14, ground := Ground.chain }], guard := none }) (v := ?_) rfl (by kernel_rfl) (by kernel_rfl) (by kernel_rfl) (fun _ _ _ h => h) (Or.inl ⟨by rfl, ?_⟩) (by assumption) ?_
      rotate_left
      · (intro w hSw; (try dsimp only at hSw); go_simp); (try with_reducible rfl)
      try simp only [Act.put, List.setIfInBounds_toArray, List.set_cons_zero, List.set_cons_succ]
      refine wpAnyH_take (i := 17) (oi := { dst := some 38, op := Op.fieldAddr 32 (Operand.tmp 1) 2, type := 0, pos := "loop.go:196", after := #[{ on := 16, ground := Ground.guard }], guard := some (16, false) }) (v := ?_) rfl (by kernel_rfl) (by kernel_rfl) (by kernel_rfl) (fun _ _ _ h => h) (Or.inl ⟨by rfl, ?_⟩) (by assumption) ?_
      rotate_left
      · (intro w hSw; (try dsimp only at hSw); go_simp); (try with_reducible rfl)
      try simp only [Act.put, List.setIfInBounds_toArray, List.set_cons_zero, List.set_cons_succ]
      refine wpAnyH_take (i := 18) (oi := { dst := some 39, op := Op.load 30 (Operand.tmp 38), type := 30, pos := "loop.go:196", after := #[{ on := 17, ground := Ground.data }, { on := 16, ground := Ground.guard }], guard := some (16, false) }) (v := ?_) rfl (by kernel_rfl) (by kernel_rfl) (by kernel_rfl) (fun _ _ _ h => h) (Or.inl ⟨by rfl, ?_⟩) (by assumption) ?_
      rotate_left
      · (intro w hSw; (try dsimp only at hSw); go_simp); (try with_reducible rfl)
      try simp only [Act.put, List.setIfInBounds_toArray, List.set_cons_zero, List.set_cons_succ]
      refine wpAnyH_take (i := 20) (oi := { dst := some 41, op := Op.fieldAddr 32 (Operand.tmp 1) 3, type := 0, pos := "loop.go:196", after := #[{ on := 16, ground := Ground.guard }], guard := some (16, false) }) (v := ?_) rfl (by kernel_rfl) (by kernel_rfl) (by kernel_rfl) (fun _ _ _ h => h) (Or.inl ⟨by rfl, ?_⟩) (by assumption) ?_
      rotate_left
      · (intro w hSw; (try dsimp only at hSw); go_simp); (try with_reducible rfl)
      try simp only [Act.put, List.setIfInBounds_toArray, List.set_cons_zero, List.set_cons_succ]
      refine wpAnyH_take (i := 21) (oi := { dst := some 42, op := Op.load 30 (Operand.tmp 41), type := 30, pos := "loop.go:196", after := #[{ on := 20, ground := Ground.data }, { on := 16, ground := Ground.guard }], guard := some (16, false) }) (v := ?_) rfl (by kernel_rfl) (by kernel_rfl) (by kernel_rfl) (fun _ _ _ h => h) (Or.inl ⟨by rfl, ?_⟩) (by assumption) ?_
      rotate_left
      · (intro w hSw; (try dsimp only at hSw); go_simp); (try with_reducible rfl)
      try simp only [Act.put, List.setIfInBounds_toArray, List.set_cons_zero, List.set_cons_succ]
      refine wpAnyH_ready (rs := [19]) (by kernel_rfl) (by simp) ?_
      refine (AllReadyH.cons (o := { dst := some 40, op := Op.call { callee := Callee.value (Operand.func 69), args := #[Operand.tmp 39], argTypes := #[30] }, type := 3, pos := "loop.go:198", after := #[{ on := 18, ground := Ground.data }, { on := 16, ground := Ground.chain }, { on := 16, ground := Ground.guard }], guard := some (16, false) }) rfl (fun K hK => ?_) AllReadyH.nil)
      go_simp
      (first | (go_at_call 69; (with_reducible refine (DA.out _).mono ?_); rintro e w' ⟨rfl, rfl⟩) | (go_at_call 69; (with_reducible refine (DB.out _).mono ?_); rintro e w' ⟨rfl, rfl⟩) | (go_at_call 69; (with_reducible refine (DC.out _).mono ?_); rintro e w' ⟨rfl, rfl⟩) | (go_at_call 69; (with_reducible refine (DD.out _).mono ?_); rintro e w' ⟨rfl, rfl⟩) | (go_at_call 46; (with_reducible refine (when_any _ _ _).mono ?_); rintro e w' ⟨rfl, rfl⟩) | (go_at_call 59; (with_reducible refine TC.out.mono ?_); rintro e g ⟨⟨u, rfl, hu⟩, g1'⟩; have g1 := below_drew g1'; clear g1') | (go_at_call 63; (with_reducible refine (isLarge_any _ _ _ ?_ hu).mono ?_); (exact hcl); rintro e w' ⟨rfl, rfl⟩) | (go_at_call 45; (with_reducible refine (first3 _ _ _ _ _).mono ?_); rintro e w' ⟨rfl, rfl⟩))
      (try go_wp2_with fail)
      refine hK.out _ _ ?_ (fun hHeld6 => ?_)
      · (try dsimp only); (first | go_keep | exact Four.below hFV.out g1)
      clear hK K hHeld5
      try simp only [Act.put, List.setIfInBounds_toArray, List.set_cons_zero, List.set_cons_succ]
      refine wpAnyH_ready (rs := [22]) (by kernel_rfl) (by simp) ?_
      refine (AllReadyH.cons (o := { dst := some 43, op := Op.call { callee := Callee.value (Operand.func 69), args := #[Operand.tmp 42], argTypes := #[30] }, type := 3, pos := "loop.go:198", after := #[{ on := 21, ground := Ground.data }, { on := 19, ground := Ground.chain }, { on := 16, ground := Ground.guard }], guard := some (16, false) }) rfl (fun K hK => ?_) AllReadyH.nil)
      go_simp
      (first | (go_at_call 69; (with_reducible refine (DA.out _).mono ?_); rintro e w' ⟨rfl, rfl⟩) | (go_at_call 69; (with_reducible refine (DB.out _).mono ?_); rintro e w' ⟨rfl, rfl⟩) | (go_at_call 69; (with_reducible refine (DC.out _).mono ?_); rintro e w' ⟨rfl, rfl⟩) | (go_at_call 69; (with_reducible refine (DD.out _).mono ?_); rintro e w' ⟨rfl, rfl⟩) | (go_at_call 46; (with_reducible refine (when_any _ _ _).mono ?_); rintro e w' ⟨rfl, rfl⟩) | (go_at_call 59; (with_reducible refine TC.out.mono ?_); rintro e g ⟨⟨u, rfl, hu⟩, g1'⟩; have g1 := below_drew g1'; clear g1') | (go_at_call 63; (with_reducible refine (isLarge_any _ _ _ ?_ hu).mono ?_); (exact hcl); rintro e w' ⟨rfl, rfl⟩) | (go_at_call 45; (with_reducible refine (first3 _ _ _ _ _).mono ?_); rintro e w' ⟨rfl, rfl⟩))
      (try go_wp2_with fail)
      refine hK.out _ _ ?_ (fun hHeld7 => ?_)
      · (try dsimp only); (first | go_keep | exact Four.below hFV.out g1)
      clear hK K hHeld6
      try simp only [Act.put, List.setIfInBounds_toArray, List.set_cons_zero, List.set_cons_succ]
      refine wpAnyH_take (i := 23) (oi := { dst := some 44, op := Op.binOp BinOp.gtr 3 (Operand.tmp 40) (Operand.tmp 43) 3, type := 4, pos := "loop.go:196", after := #[{ on := 19, ground := Ground.data }, { on := 22, ground := Ground.data }, { on := 16, ground := Ground.guard }], guard := some (16, false) }) (v := ?_) rfl (by kernel_rfl) (by kernel_rfl) (by kernel_rfl) (fun _ _ _ h => h) (Or.inl ⟨by rfl, ?_⟩) (by assumption) ?_
      rotate_left
      · (intro w hSw; (try dsimp only at hSw); go_simp); (try with_reducible rfl)
      try simp only [Act.put, List.setIfInBounds_toArray, List.set_cons_zero, List.set_cons_succ]
      refine wpAnyH_take (i := 24) (oi := { dst := some 45, op := Op.pick (Operand.tmp 37) (Operand.const (Value.bool true)) (Operand.tmp 44), type := 4, pos := "loop.go:196", after := #[{ on := 16, ground := Ground.data }, { on := 23, ground := Ground.data }], guard := none }) (v := ?_) rfl (by kernel_rfl) (by kernel_rfl) (by kernel_rfl) (fun _ _ _ h => h) (Or.inl ⟨by rfl, ?_⟩) (by assumption) ?_
      rotate_left
      · (intro w hSw; (try dsimp only at hSw); go_simp); (try with_reducible rfl)
      try simp only [Act.put, List.setIfInBounds_toArray, List.set_cons_zero, List.set_cons_succ]
      refine wpAnyH_ready (rs := [25]) (by kernel_rfl) (by simp) ?_
      refine (AllReadyH.cons (o := { dst := some 46, op := Op.call { callee := Callee.value (Operand.func 46), args := #[Operand.tmp 45, Operand.const (Value.int IntKind.i64 2)], argTypes := #[4, 27] }, type := 27, pos := "loop.go:198", after := #[{ on := 24, ground := Ground.data }, { on := 22, ground := Ground.chain }], guard := none }) rfl (fun K hK => ?_) AllReadyH.nil)
      go_simp
      (first | (go_at_call 69; (with_reducible refine (DA.out _).mono ?_); rintro e w' ⟨rfl, rfl⟩) | (go_at_call 69; (with_reducible refine (DB.out _).mono ?_); rintro e w' ⟨rfl, rfl⟩) | (go_at_call 69; (with_reducible refine (DC.out _).mono ?_); rintro e w' ⟨rfl, rfl⟩) | (go_at_call 69; (with_reducible refine (DD.out _).mono ?_); rintro e w' ⟨rfl, rfl⟩) | (go_at_call 46; (with_reducible refine (when_any _ _ _).mono ?_); rintro e w' ⟨rfl, rfl⟩) | (go_at_call 59; (with_reducible refine TC.out.mono ?_); rintro e g ⟨⟨u, rfl, hu⟩, g1'⟩; have g1 := below_drew g1'; clear g1') | (go_at_call 63; (with_reducible refine (isLarge_any _ _ _ ?_ hu).mono ?_); (exact hcl); rintro e w' ⟨rfl, rfl⟩) | (go_at_call 45; (with_reducible refine (first3 _ _ _ _ _).mono ?_); rintro e w' ⟨rfl, rfl⟩))
      (try go_wp2_with fail)
      refine hK.out _ _ ?_ (fun hHeld8 => ?_)
      · (try dsimp only); (first | go_keep | exact Four.below hFV.out g1)
      clear hK K hHeld7
      try simp only [Act.put, List.setIfInBounds_toArray, List.set_cons_zero, List.set_cons_succ]
      refine wpAnyH_ready (rs := [27]) (by kernel_rfl) (by simp) ?_
      refine (AllReadyH.cons (o := { dst := some 48, op := Op.call { callee := Callee.value (Operand.func 59), args := #[Operand.tmp 47], argTypes := #[32] }, type := 30, pos := "loop.go:199", after := #[{ on := 26, ground := Ground.data }, { on := 25, ground := Ground.chain }], guard := none }) rfl (fun K hK => ?_) AllReadyH.nil)
      go_simp
      (first | (go_at_call 69; (with_reducible refine (DA.out _).mono ?_); rintro e w' ⟨rfl, rfl⟩) | (go_at_call 69; (with_reducible refine (DB.out _).mono ?_); rintro e w' ⟨rfl, rfl⟩) | (go_at_call 69; (with_reducible refine (DC.out _).mono ?_); rintro e w' ⟨rfl, rfl⟩) | (go_at_call 69; (with_reducible refine (DD.out _).mono ?_); rintro e w' ⟨rfl, rfl⟩) | (go_at_call 46; (with_reducible refine (when_any _ _ _).mono ?_); rintro e w' ⟨rfl, rfl⟩) | (go_at_call 59; (with_reducible refine TC.out.mono ?_); rintro e g ⟨⟨u, rfl, hu⟩, g1'⟩; have g1 := below_drew g1'; clear g1') | (go_at_call 63; (with_reducible refine (isLarge_any _ _ _ ?_ hu).mono ?_); (exact hcl); rintro e w' ⟨rfl, rfl⟩) | (go_at_call 45; (with_reducible refine (first3 _ _ _ _ _).mono ?_); rintro e w' ⟨rfl, rfl⟩))
      (try go_wp2_with fail)
      refine hK.out _ _ ?_ (fun hHeld9 => ?_)
      · (try dsimp only); (first | go_keep | exact Four.below hFV.out g1)
      clear hK K hHeld8
      try simp only [Act.put, List.setIfInBounds_toArray, List.set_cons_zero, List.set_cons_succ]
      refine wpAnyH_ready (rs := [28]) (by kernel_rfl) (by simp) ?_
      refine (AllReadyH.cons (o := { dst := some 49, op := Op.call { callee := Callee.value (Operand.func 63), args := #[Operand.tmp 48], argTypes := #[30] }, type := 4, pos := "loop.go:199", after := #[{ on := 27, ground := Ground.data }, { on := 27, ground := Ground.chain }], guard := none }) rfl (fun K hK => ?_) AllReadyH.nil)
      go_simp
      (first | (go_at_call 69; (with_reducible refine (DA.out _).mono ?_); rintro e w' ⟨rfl, rfl⟩) | (go_at_call 69; (with_reducible refine (DB.out _).mono ?_); rintro e w' ⟨rfl, rfl⟩) | (go_at_call 69; (with_reducible refine (DC.out _).mono ?_); rintro e w' ⟨rfl, rfl⟩) | (go_at_call 69; (with_reducible refine (DD.out _).mono ?_); rintro e w' ⟨rfl, rfl⟩) | (go_at_call 46; (with_reducible refine (when_any _ _ _).mono ?_); rintro e w' ⟨rfl, rfl⟩) | (go_at_call 59; (with_reducible refine TC.out.mono ?_); rintro e g ⟨⟨u, rfl, hu⟩, g1'⟩; have g1 := below_drew g1'; clear g1') | (go_at_call 63; (with_reducible refine (isLarge_any _ _ _ ?_ hu).mono ?_); (exact hcl); rintro e w' ⟨rfl, rfl⟩) | (go_at_call 45; (with_reducible refine (first3 _ _ _ _ _).mono ?_); rintro e w' ⟨rfl, rfl⟩))
      (try go_wp2_with fail)
      refine hK.out _ _ ?_ (fun hHeld10 => ?_)
      · (try dsimp only); (first | go_keep | exact Four.below hFV.out g1)
      clear hK K hHeld9
      try simp only [Act.put, List.setIfInBounds_toArray, List.set_cons_zero, List.set_cons_succ]
      refine wpAnyH_ready (rs := [29]) (by kernel_rfl) (by simp) ?_
      refine (AllReadyH.cons (o := { dst := some 50, op := Op.call { callee := Callee.value (Operand.func 46), args := #[Operand.tmp 49, Operand.const (Value.int IntKind.i64 4)], argTypes := #[4, 27] }, type := 27, pos := "loop.go:199", after := #[{ on := 28, ground := Ground.data }, { on := 28, ground := Ground.chain }], guard := none }) rfl (fun K hK => ?_) AllReadyH.nil)
      go_simp
      (first | (go_at_call 69; (with_reducible refine (DA.out _).mono ?_); rintro e w' ⟨rfl, rfl⟩) | (go_at_call 69; (with_reducible refine (DB.out _).mono ?_); rintro e w' ⟨rfl, rfl⟩) | (go_at_call 69; (with_reducible refine (DC.out _).mono ?_); rintro e w' ⟨rfl, rfl⟩) | (go_at_call 69; (with_reducible refine (DD.out _).mono ?_); rintro e w' ⟨rfl, rfl⟩) | (go_at_call 46; (with_reducible refine (when_any _ _ _).mono ?_); rintro e w' ⟨rfl, rfl⟩) | (go_at_call 59; (with_reducible refine TC.out.mono ?_); rintro e g ⟨⟨u, rfl, hu⟩, g1'⟩; have g1 := below_drew g1'; clear g1') | (go_at_call 63; (with_reducible refine (isLarge_any _ _ _ ?_ hu).mono ?_); (exact hcl); rintro e w' ⟨rfl, rfl⟩) | (go_at_call 45; (with_reducible refine (first3 _ _ _ _ _).mono ?_); rintro e w' ⟨rfl, rfl⟩))
      (try go_wp2_with fail)
      refine hK.out _ _ ?_ (fun hHeld11 => ?_)
      · (try dsimp only); (first | go_keep | exact Four.below hFV.out g1)
      clear hK K hHeld10
      try simp only [Act.put, List.setIfInBounds_toArray, List.set_cons_zero, List.set_cons_succ]
      refine wpAnyH_ready (rs := [30]) (by kernel_rfl) (by simp) ?_
      refine (AllReadyH.cons (o := { dst := some 51, op := Op.buildSlice 155 3 #[(0, Operand.tmp 29), (1, Operand.tmp 46), (2, Operand.tmp 50)], type := 155, pos := "loop.go:196", after := #[{ on := 8, ground := Ground.data }, { on := 25, ground := Ground.data }, { on := 29, ground := Ground.data }], guard := none }) rfl (fun K hK => ?_) AllReadyH.nil)
      go_simp
      refine hK.out _ _ ?_ (fun hHeld12 => ?_)
      · (try dsimp only); (first | go_keep | exact Four.below hFV.out g1)
      clear hK K hHeld11
      try simp only [Act.put, List.setIfInBounds_toArray, List.set_cons_zero, List.set_cons_succ]
      refine wpAnyH_ready (rs := [31]) (by kernel_rfl) (by simp) ?_
      refine (AllReadyH.cons (o := { dst := some 52, op := Op.call { callee := Callee.value (Operand.func 45), args := #[Operand.tmp 51], argTypes := #[155] }, type := 27, pos := "loop.go:196", after := #[{ on := 30, ground := Ground.data }, { on := 29, ground := Ground.chain }], guard := none }) rfl (fun K hK => ?_) AllReadyH.nil)
      go_simp
      (first | (go_at_call 69; (with_reducible refine (DA.out _).mono ?_); rintro e w' ⟨rfl, rfl⟩) | (go_at_call 69; (with_reducible refine (DB.out _).mono ?_); rintro e w' ⟨rfl, rfl⟩) | (go_at_call 69; (with_reducible refine (DC.out _).mono ?_); rintro e w' ⟨rfl, rfl⟩) | (go_at_call 69; (with_reducible refine (DD.out _).mono ?_); rintro e w' ⟨rfl, rfl⟩) | (go_at_call 46; (with_reducible refine (when_any _ _ _).mono ?_); rintro e w' ⟨rfl, rfl⟩) | (go_at_call 59; (with_reducible refine TC.out.mono ?_); rintro e g ⟨⟨u, rfl, hu⟩, g1'⟩; have g1 := below_drew g1'; clear g1') | (go_at_call 63; (with_reducible refine (isLarge_any _ _ _ ?_ hu).mono ?_); (exact hcl); rintro e w' ⟨rfl, rfl⟩) | (go_at_call 45; (with_reducible refine (first3 _ _ _ _ _).mono ?_); rintro e w' ⟨rfl, rfl⟩))
      (try go_wp2_with fail)
      refine hK.out _ _ ?_ (fun hHeld13 => ?_)
      · (try dsimp only); (first | go_keep | exact Four.below hFV.out g1)
      clear hK K hHeld12
      try simp only [Act.put, List.setIfInBounds_toArray, List.set_cons_zero, List.set_cons_succ]
      refine wpAnyH_take (i := 32) (oi := { dst := some 2, op := Op.assign (Operand.tmp 52), type := 27, pos := "loop.go:196", after := #[{ on := 31, ground := Ground.data }, { on := 31, ground := Ground.chain }, { on := 0, ground := Ground.phase }, { on := 1, ground := Ground.phase }, { on := 2, ground := Ground.phase }, { on := 3, ground := Ground.phase }, { on := 4, ground := Ground.phase }, { on := 5, ground := Ground.phase }, { on := 6, ground := Ground.phase }, { on := 7, ground := Ground.phase }, { on := 8, ground := Ground.phase }, { on := 9, ground := Ground.phase }, { on := 10, ground := Ground.phase }, { on := 11, ground := Ground.phase }, { on := 12, ground := Ground.phase }, { on := 13, ground := Ground.phase }, { on := 14, ground := Ground.phase }, { on := 15, ground := Ground.phase }, { on := 16, ground := Ground.phase }, { on := 17, ground := Ground.phase }, { on := 18, ground := Ground.phase }, { on := 19, ground := Ground.phase }, { on := 20, ground := Ground.phase }, { on := 21, ground := Ground.phase }, { on := 22, ground := Ground.phase }, { on := 23, ground := Ground.phase }, { on := 24, ground := Ground.phase }, { on := 25, ground := Ground.phase }, { on := 26, ground := Ground.phase }, { on := 27, ground := Ground.phase }, { on := 28, ground := Ground.phase }, { on := 29, ground := Ground.phase }, { on := 30, ground := Ground.phase }, { on := 31, ground := Ground.phase }], guard := none }) (v := ?_) rfl (by kernel_rfl) (by kernel_rfl) (by kernel_rfl) (fun _ _ _ h => h) (Or.inl ⟨by rfl, ?_⟩) (by assumption) ?_
      rotate_left
      · (intro w hSw; (try dsimp only at hSw); go_simp); (try with_reducible rfl)
      try simp only [Act.put, List.setIfInBounds_toArray, List.set_cons_zero, List.set_cons_succ]
      refine wpAnyH_done (by kernel_rfl) ?_ _
      clear hHeld13
      go_wp2
      go_ret
      exact ⟨ret_int (by rw [checkLoopE, if_neg (by rw [loop1E, HE.out]; simp), loop2E, Int.max_eq_left (by omega), decide_eq_false hg, Bool.false_or]), bthen h6 (g1.alloc g1.size _)⟩
  · have HE := Lib.hid hE
    clear hE
    go_wp2
    go_ret
    exact ⟨ret_int (by rw [checkLoopE, if_pos (by rw [loop1E, HE.out]; exact he), loop1E, HE.out]), h6⟩

/-- what Closed, Product and their like hand back: a list and an error. -/
def GivesPoly (w : World) (l : List Int) (e : Int) (r : Ending) (w' : World) : Prop := (∃ u, r = .returned (.tuple #[u, .int .i64 e]) ∧ Ints w' u l) ∧ Below w.heap.size w w'

def closedR (a b c d : List Int) : List Int := if checkLoopE a b c d ≠ 0 then [] else closedW a b c d

theorem checkLoopE_ok {a b c d : List Int} (h : checkLoopE a b c d = 0) : checkPolyE a = 0 ∧ checkPolyE b = 0 ∧ checkPolyE c = 0 ∧ checkPolyE d = 0 := by
  unfold checkLoopE at h
  split at h
  · exact absurd h (by assumption)
  · rename_i h1; exact loop1E_ok (by simpa using h1)

set_option maxHeartbeats 1000000 in
theorem Closed_any (va vb vc vd : Value) (a b c d : List Int) (w : World) (ha : Ints w va a) (hb : Ints w vb b) (hc : Ints w vc c) (hd : Ints w vd d)
    (ha2 : a.length ≤ 100000) (hb2 : b.length ≤ 100000) (hc2 : c.length ≤ 100000) (hd2 : d.length ≤ 100000) :
    Calls Tryz.prog 19 #[.agg #[va, vb, vc, vd]] w (GivesPoly w (closedR a b c d) (checkLoopE a b c d)) := by
  have hbW : Below w.heap.size w (w.alloc (.cells #[va, vb, vc, vd] 32)) := (Below.refl _ _).alloc (Nat.le_refl _) _
  have h4 := Four.new w 32 va vb vc vd
  have tc := CheckLoop_any va vb vc vd a b c d _ (ha.below hbW) (hb.below hbW) (hc.below hbW) (hd.below hbW) ha2 hb2 hc2 hd2
  have TC := Lib.hid tc
  clear tc
  obtain ⟨W, hW⟩ : ∃ W, W = w.alloc (.cells #[va, vb, vc, vd] 32) := ⟨_, rfl⟩
  by_cases he : checkLoopE a b c d = 0
  · obtain ⟨ea, eb, ec, ed⟩ := checkLoopE_ok he
    have ⟨a1, a5⟩ := checkPolyE_ok ea
    have ⟨b1, b5⟩ := checkPolyE_ok eb
    have ⟨c1, c5⟩ := checkPolyE_ok ec
    have ⟨d1, d5⟩ := checkPolyE_ok ed
    clear ea eb ec ed
    have hF := h4
    obtain ⟨k0, k1, k2, k3⟩ := h4
    go_enter Tryz.func19, Tryz.ntmps19
    go_wp2_with fail
    rw [← hW] at hF k0 k1 k2 k3 hbW TC ⊢
    clear hW
    refine TC.out.mono ?_
    rw [he]
    have HE := Lib.hid he
    clear he
    rintro e w2 ⟨rfl, h2⟩
    have hF2 := hF.below h2
    clear hF k0 k1 k2 k3 TC
    obtain ⟨k0, k1, k2, k3⟩ := hF2
    have b2 := bthen hbW h2
    have t2 := closed_any va vb vc vd a b c d w2 (ha.below b2) (hb.below b2) (hc.below b2) (hd.below b2) a1 b1 c1 d1 ha2 hb2 hc2 hd2
    have T2 := Lib.hid t2
    clear t2
    go_wp2_with fail
    refine T2.out.mono ?_
    rintro e w3 ⟨⟨u, rfl, hu⟩, h3⟩
    go_wp2
    go_ret2
    exact ⟨⟨u, by rw [HE.out]; rfl, by rw [closedR, if_neg (by rw [HE.out]; simp)]; exact hu⟩, bthen b2 h3⟩
  · obtain ⟨k0, k1, k2, k3⟩ := h4
    go_enter Tryz.func19, Tryz.ntmps19
    go_wp2_with fail
    rw [← hW] at k0 k1 k2 k3 hbW TC ⊢
    clear hW
    refine TC.out.mono ?_
    rintro e w2 ⟨rfl, h2⟩
    go_wp2
    go_ret2
    exact ⟨⟨_, rfl, by rw [closedR, if_pos he]; exact Ints.nil _⟩, bthen hbW h2⟩

end Go.Proofs.YtfdehcphmmhjaaaGreatDoor

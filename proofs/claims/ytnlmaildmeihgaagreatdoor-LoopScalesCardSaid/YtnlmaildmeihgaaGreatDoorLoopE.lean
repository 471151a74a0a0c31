import Derived.Test.YtnlmaildmeihgaaGreatDoorLoopD
namespace Go.Proofs.YtnlmaildmeihgaaGreatDoor
open Go.RowKit

def trimN (l : List Int) : Nat → Nat
  | 0 => 0
  | m + 1 => if l[m]?.getD 0 = 0 then trimN l m else m + 1
theorem trimN_le (l : List Int) (m : Nat) : trimN l m ≤ m := by
  induction m with
  | zero => exact Nat.le_refl _
  | succ m ih => unfold trimN; split <;> omega
def trimL (l : List Int) : List Int := l.take (trimN l l.length)
theorem trimL_length (l : List Int) : (trimL l).length = trimN l l.length := by
  have := trimN_le l l.length
  simp [trimL]; omega

theorem Ints.take {w : World} {b off n cp : Nat} {l : List Int} (h : Ints w (.slice (some ⟨b, off, none⟩) l.length cp) l) (hn : n ≤ l.length) : Ints w (.slice (some ⟨b, off, none⟩) n cp) (l.take n) := by
  obtain ⟨a, cp', he, hc, h⟩ := h
  cases he
  refine ⟨_, cp, by rw [List.length_take, Nat.min_eq_left hn], by rw [List.length_take]; omega, fun h0 => ?_⟩
  rw [List.length_take] at h0
  obtain ⟨b', off', he, h⟩ := h (by omega)
  cases he
  refine ⟨_, _, rfl, fun j hj => ?_⟩
  rw [List.length_take] at hj
  rw [h j (by omega), List.getElem?_take, if_pos (by omega)]

set_option maxHeartbeats 400000 in
theorem trimmed_any (b off cp : Nat) (l : List Int) (w : World) (hl : l.length ≤ 1000000000) (hv : Ints w (.slice (some ⟨b, off, none⟩) l.length cp) l) :
    Calls Tryz.prog 153 #[.slice (some ⟨b, off, none⟩) l.length cp] w fun r w' => r = .returned (.slice (some ⟨b, off, none⟩) (trimN l l.length) cp) ∧ w = w' := by
  obtain ⟨a, cp', he, hc, hv⟩ := hv
  cases he
  have hcs : ∀ j, j < l.length → w.cell? ⟨b, off + j, none⟩ = some (.int .i64 (l[j]?.getD 0)) := fun j hj => by
    obtain ⟨b', off', he, h⟩ := hv (by omega)
    cases he
    exact h j hj
  clear hv
  go_enter Tryz.func153, Tryz.ntmps153
  go_wp2
  go_loop [0] (fun s => ∃ m : Nat, m ≤ l.length ∧ s = .slice (some ⟨b, off, none⟩) m cp ∧ trimN l m = trimN l l.length) (fun s => match s with | .slice _ n _ => n | _ => 0)
  case atStart => exact ⟨_, Nat.le_refl _, rfl, rfl⟩
  case round =>
    obtain ⟨m, hm, rfl, hT⟩ := hrel
    have HT := Lib.hid hT
    clear hT
    cases m with
    | zero =>
      go_wp2
      go_ret
      exact ⟨by rw [← HT.out]; rfl, rfl⟩
    | succ m =>
      have hcell := hcs m (by omega)
      clear hcs
      generalize hx : l[m]?.getD 0 = x at hcell
      have HX := Lib.hid hx
      clear hx
      by_cases h0 : x = 0
      · subst h0
        go_wp2
        go_round
        case rel => exact ⟨m, by omega, by simp, by have := HT.out; rw [trimN, if_pos HX.out] at this; exact this⟩
        case measure => simp
      · go_wp2
        go_ret
        exact ⟨by have := HT.out; rw [trimN, if_neg (by rw [HX.out]; exact h0)] at this; rw [← this]; rfl, rfl⟩

def pInner (q : List Int) (out : List Int) : Nat → List Int
  | 0 => out
  | k + 1 => (pInner q out k).set k (wrap64 ((pInner q out k)[k]?.getD 0 + q[k]?.getD 0))
theorem pInner_length (q out : List Int) (k : Nat) : (pInner q out k).length = out.length := by
  induction k with
  | zero => rfl
  | succ k ih => simp [pInner, ih]
def sumW (p q : List Int) : List Int := pInner q (p ++ List.replicate (max p.length q.length - p.length) 0) q.length
theorem sumW_length (p q : List Int) : (sumW p q).length = max p.length q.length := by simp [sumW, pInner_length]; omega
def plusW (p q : List Int) : List Int := trimL (sumW p q)

set_option maxHeartbeats 1000000 in
set_option maxHeartbeats 1000000 in
theorem plus_lt (ap aq : Option Addr) (cp cq : Nat) (p q : List Int) (w : World) (hp : Ints w (.slice ap p.length cp) p) (hq : Ints w (.slice aq q.length cq) q) (_hp2 : p.length ≤ 1000000) (hq2 : q.length ≤ 1000000) (hlt : p.length < q.length) :
    Calls Tryz.prog 121 #[.slice ap p.length cp, .slice aq q.length cq] w fun r w' => r = .returned (.slice (some ⟨w.heap.size, 0, none⟩) (trimN (pInner q (p ++ List.replicate (q.length - p.length) 0) q.length) q.length) q.length) ∧ w.alloc (.cells (ia (pInner q (p ++ List.replicate (q.length - p.length) 0) q.length)) 3) = w' := by
  have hmk := run_make_row' (P := Tryz.prog) 26 3 (.int .i64 0) 8 Tryz.underlying26 Tryz.infoInt rfl .i64 .i64 q.length (by omega) (by omega)
  rw [ia_made] at hmk
  have hcopy := run_copy_new (P := Tryz.prog) w 26 26 3 3 3 (List.replicate q.length 0) p q.length ap cp Tryz.underlying26 (by kernel_rfl) hp (by simp; try omega)
  rw [List.length_replicate, List.drop_replicate] at hcopy
  obtain ⟨aq', cq', he, hcq, hqc⟩ := hq
  cases he
  have hz : (p ++ List.replicate (q.length - p.length) (0 : Int)).length = q.length := by simp; try omega
  generalize p ++ List.replicate (q.length - p.length) (0 : Int) = Z at hz hcopy ⊢
  go_enter Tryz.func121, Tryz.ntmps121
  go_wp2
  clear hmk hcopy
  rcases Nat.eq_zero_or_pos q.length with h0 | h0
  · have hq0 : q = [] := List.length_eq_zero_iff.1 h0
    subst hq0
    go_loopw [19] (fun i wr => i = .int .i64 0 ∧ wr = w.alloc (.cells (ia Z) 3)) (fun i _ => 0)
    case atStart => exact ⟨rfl, rfl⟩
    case round =>
      obtain ⟨rfl, rfl⟩ := hrel
      have hpi : pInner [] Z 0 = Z := rfl
      have htr := trimmed_any w.heap.size 0 Z.length Z (w.alloc (.cells (ia Z) 3)) (by omega) (Ints.ofIa w 3 Z)
      rw [hz] at htr
      have HT := Lib.hid htr
      clear htr
      go_wp2_with fail
      refine HT.out.mono ?_
      rintro e w' ⟨rfl, rfl⟩
      go_wp2
      go_ret
      exact ⟨rfl, rfl⟩
  · obtain ⟨bq, oq, rfl, hqd⟩ := hqc h0
    clear hqc
    go_loopw [19] (fun i wr => ∃ k : Nat, k ≤ q.length ∧ i = .int .i64 k ∧ wr = w.alloc (.cells (ia (pInner q Z k)) 3)) (fun i _ => q.length - (intOf i).toNat)
    case atStart => exact ⟨0, by omega, rfl, rfl⟩
    case round =>
      obtain ⟨k, hk, rfl, rfl⟩ := hrel
      have hlen2 := pInner_length q Z k
      by_cases hlk : k < q.length
      · have hcell2 := cell_past (hqd k hlk) (.cells (ia (pInner q Z k)) 3)
        have hnext : ∀ x, x = wrap64 ((pInner q Z k)[k]?.getD 0 + q[k]?.getD 0) → (ia (pInner q Z k)).setIfInBounds k (.int .i64 x) = ia (pInner q Z (k + 1)) := fun x hx => by rw [ia_set, pInner, hx]
        have HN := Lib.hid hnext
        clear hnext hqd
        generalize pInner q Z k = o2 at hcell2 hlen2 HN
        generalize q[k]?.getD 0 = b at hcell2 HN
        have hoc := ia_cell w 3 o2 k (by omega)
        have hof := ia_frozen w 3 o2 k
        generalize o2[k]?.getD 0 = c at hoc HN
        go_wp2
        go_roundw
        case rel => exact ⟨k + 1, by omega, by go_num, by rw [HN.out _ rfl]⟩
        case measure => simp [intOf]; omega
      · obtain rfl : k = q.length := by omega
        generalize ho : pInner q Z q.length = o2 at hlen2 ⊢
        have HO := Lib.hid ho
        clear ho
        have htr := trimmed_any w.heap.size 0 o2.length o2 (w.alloc (.cells (ia o2) 3)) (by omega) (Ints.ofIa w 3 o2)
        rw [hlen2, hz] at htr
        have HT := Lib.hid htr
        clear htr hqd
        go_wp2_with fail
        refine HT.out.mono ?_
        rintro e w' ⟨rfl, rfl⟩
        go_wp2
        go_ret
        exact ⟨by rw [HO.out]; rfl, by rw [HO.out]⟩

set_option maxHeartbeats 1000000 in
theorem plus_ge (ap aq : Option Addr) (cp cq : Nat) (p q : List Int) (w : World) (hp : Ints w (.slice ap p.length cp) p) (hq : Ints w (.slice aq q.length cq) q) (hp2 : p.length ≤ 1000000) (hq2 : q.length ≤ 1000000) (hlt : ¬ p.length < q.length) :
    Calls Tryz.prog 121 #[.slice ap p.length cp, .slice aq q.length cq] w fun r w' => r = .returned (.slice (some ⟨w.heap.size, 0, none⟩) (trimN (pInner q (p ++ List.replicate (p.length - p.length) 0) q.length) p.length) p.length) ∧ w.alloc (.cells (ia (pInner q (p ++ List.replicate (p.length - p.length) 0) q.length)) 3) = w' := by
  have hmk := run_make_row' (P := Tryz.prog) 26 3 (.int .i64 0) 8 Tryz.underlying26 Tryz.infoInt rfl .i64 .i64 p.length (by omega) (by omega)
  rw [ia_made] at hmk
  have hcopy := run_copy_new (P := Tryz.prog) w 26 26 3 3 3 (List.replicate p.length 0) p p.length ap cp Tryz.underlying26 (by kernel_rfl) hp (by simp; try omega)
  rw [List.length_replicate, List.drop_replicate] at hcopy
  obtain ⟨aq', cq', he, hcq, hqc⟩ := hq
  cases he
  have hz : (p ++ List.replicate (p.length - p.length) (0 : Int)).length = p.length := by simp; try omega
  generalize p ++ List.replicate (p.length - p.length) (0 : Int) = Z at hz hcopy ⊢
  go_enter Tryz.func121, Tryz.ntmps121
  go_wp2
  clear hmk hcopy
  rcases Nat.eq_zero_or_pos q.length with h0 | h0
  · have hq0 : q = [] := List.length_eq_zero_iff.1 h0
    subst hq0
    go_loopw [19] (fun i wr => i = .int .i64 0 ∧ wr = w.alloc (.cells (ia Z) 3)) (fun i _ => 0)
    case atStart => exact ⟨rfl, rfl⟩
    case round =>
      obtain ⟨rfl, rfl⟩ := hrel
      have hpi : pInner [] Z 0 = Z := rfl
      have htr := trimmed_any w.heap.size 0 Z.length Z (w.alloc (.cells (ia Z) 3)) (by omega) (Ints.ofIa w 3 Z)
      rw [hz] at htr
      have HT := Lib.hid htr
      clear htr
      go_wp2_with fail
      refine HT.out.mono ?_
      rintro e w' ⟨rfl, rfl⟩
      go_wp2
      go_ret
      exact ⟨rfl, rfl⟩
  · obtain ⟨bq, oq, rfl, hqd⟩ := hqc h0
    clear hqc
    go_loopw [19] (fun i wr => ∃ k : Nat, k ≤ q.length ∧ i = .int .i64 k ∧ wr = w.alloc (.cells (ia (pInner q Z k)) 3)) (fun i _ => q.length - (intOf i).toNat)
    case atStart => exact ⟨0, by omega, rfl, rfl⟩
    case round =>
      obtain ⟨k, hk, rfl, rfl⟩ := hrel
      have hlen2 := pInner_length q Z k
      by_cases hlk : k < q.length
      · have hcell2 := cell_past (hqd k hlk) (.cells (ia (pInner q Z k)) 3)
        have hnext : ∀ x, x = wrap64 ((pInner q Z k)[k]?.getD 0 + q[k]?.getD 0) → (ia (pInner q Z k)).setIfInBounds k (.int .i64 x) = ia (pInner q Z (k + 1)) := fun x hx => by rw [ia_set, pInner, hx]
        have HN := Lib.hid hnext
        clear hnext hqd
        generalize pInner q Z k = o2 at hcell2 hlen2 HN
        generalize q[k]?.getD 0 = b at hcell2 HN
        have hoc := ia_cell w 3 o2 k (by omega)
        have hof := ia_frozen w 3 o2 k
        generalize o2[k]?.getD 0 = c at hoc HN
        go_wp2
        go_roundw
        case rel => exact ⟨k + 1, by omega, by go_num, by rw [HN.out _ rfl]⟩
        case measure => simp [intOf]; omega
      · obtain rfl : k = q.length := by omega
        generalize ho : pInner q Z q.length = o2 at hlen2 ⊢
        have HO := Lib.hid ho
        clear ho
        have htr := trimmed_any w.heap.size 0 o2.length o2 (w.alloc (.cells (ia o2) 3)) (by omega) (Ints.ofIa w 3 o2)
        rw [hlen2, hz] at htr
        have HT := Lib.hid htr
        clear htr hqd
        go_wp2_with fail
        refine HT.out.mono ?_
        rintro e w' ⟨rfl, rfl⟩
        go_wp2
        go_ret
        exact ⟨by rw [HO.out]; rfl, by rw [HO.out]⟩

theorem plus_any (ap aq : Option Addr) (cp cq : Nat) (p q : List Int) (w : World) (hp : Ints w (.slice ap p.length cp) p) (hq : Ints w (.slice aq q.length cq) q) (hp2 : p.length ≤ 1000000) (hq2 : q.length ≤ 1000000) :
    Calls Tryz.prog 121 #[.slice ap p.length cp, .slice aq q.length cq] w fun r w' => r = .returned (.slice (some ⟨w.heap.size, 0, none⟩) (trimN (sumW p q) (max p.length q.length)) (max p.length q.length)) ∧ w.alloc (.cells (ia (sumW p q)) 3) = w' := by
  unfold sumW
  by_cases h : p.length < q.length
  · rw [Nat.max_eq_right (by omega)]; exact plus_lt ap aq cp cq p q w hp hq hp2 hq2 h
  · rw [Nat.max_eq_left (by omega)]; exact plus_ge ap aq cp cq p q w hp hq hp2 hq2 h

theorem Ints.plus (w : World) (T : TypeId) (p q : List Int) (n m : Nat) (hn : n = trimN (sumW p q) (max p.length q.length)) (hm : m = max p.length q.length) :
    Ints (w.alloc (.cells (ia (sumW p q)) T)) (.slice (some ⟨w.heap.size, 0, none⟩) n m) (plusW p q) := by
  have hl := sumW_length p q
  subst hn hm
  rw [← hl]
  exact (Ints.ofIa w T (sumW p q)).take (trimN_le _ _)

end Go.Proofs.YtnlmaildmeihgaaGreatDoor

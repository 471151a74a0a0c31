/- The reference of chapter 7: At, Differ, Possible, ChangeOver. -/
import Derived.Test.YtgdkomgfalkihaaGreatDoorVeB
namespace Go.Proofs.YtgdkomgfalkihaaGreatDoor
section
set_option linter.unusedSimpArgs false
set_option linter.unusedVariables false
open Go.RowKit

theorem atR_take {l : List P2} {k : Nat} {x : P2} {t : Int} (hx : l[k]? = some x) (h : atR (l.take k) t = none) : atR (l.take (k + 1)) t = if x.1 = t then some x.2 else none := by
  unfold atR at h ⊢
  rw [List.take_add_one, hx, List.find?_append]
  cases hf : (l.take k).find? (fun x => x.1 == t) with
  | some y => rw [hf] at h; cases h
  | none =>
    by_cases h9 : x.1 = t
    · simp [h9]
    · have : (x.1 == t) = false := by simpa using h9
      simp [this, h9]
theorem atR_stop {l : List P2} {k : Nat} {x : P2} {t : Int} (hx : l[k]? = some x) (h : atR (l.take k) t = none) (hxt : x.1 = t) : atR l t = some x.2 := by
  have h1 := atR_take hx h
  rw [if_pos hxt] at h1
  unfold atR at h1 ⊢
  cases hf : (l.take (k + 1)).find? (fun x => x.1 == t) with
  | none => rw [hf] at h1; cases h1
  | some y =>
    rw [hf] at h1
    have : l.find? (fun x => x.1 == t) = some y := by
      rw [← List.take_append_drop (k + 1) l, List.find?_append, hf]; rfl
    rw [this]; exact h1
def atD (l : List P2) (t : Int) : Int := (atR l t).getD 0
def atB (l : List P2) (t : Int) : Bool := (atR l t).isSome
set_option maxRecDepth 100000 in
set_option maxHeartbeats 2000000 in
theorem AtR_any (v : Value) (l : List P2) (t : Int) (w : World) (hl : l.length ≤ 1000000) (hv : Prs w v l) :
    Calls Tryz.prog 79 #[v, .int .i64 t] w fun r w' => r = .returned (.tuple #[.int .i64 (atD l t), .bool (atB l t)]) ∧ w = w' := by
  have HV := Lib.hid hv
  obtain ⟨a, cp, rfl, -⟩ := hv.slice
  obtain ⟨N, hN⟩ : ∃ N, N = l.length := ⟨_, rfl⟩
  rw [← hN] at HV hl ⊢
  have HN := Lib.hid hN
  clear hN hv
  go_enter Tryz.func79, Tryz.ntmps79
  go_wp2_with fail
  go_loop [6] (fun i => ∃ k : Nat, k ≤ N ∧ i = .int .i64 k ∧ atR (l.take k) t = none) (fun i => N - (intOf i).toNat)
  case atStart => exact ⟨0, by omega, rfl, rfl⟩
  case round =>
    obtain ⟨k, hk, rfl, hf⟩ := hrel
    have HF := Lib.hid hf
    clear hf
    by_cases hlt : k < N
    · have hdk : (k : Int) < (N : Int) := by omega
      obtain ⟨x, hx⟩ : ∃ x, l[k]? = some x := ⟨_, List.getElem?_eq_getElem (by rw [← HN.out]; exact hlt)⟩
      obtain ⟨b, off, cp', he, hcs⟩ := HV.out.head (by rw [← HN.out]; omega)
      simp only [Value.slice.injEq] at he
      obtain ⟨rfl, -, rfl⟩ := he
      obtain ⟨c0, c1⟩ := rw2 (hcs k x hx) (show pV x = [.int .i64 x.1, .int .i64 x.2] from rfl)
      have h1 := atR_take hx HF.out
      have h2 := fun h => atR_stop hx HF.out (t := t) h
      obtain ⟨x0, x1⟩ := x
      dsimp only at c0 c1 h1 h2
      by_cases he : x0 = t
      · have h3 := h2 he
        have r0 : atD l t = x1 := by unfold atD; rw [h3]; rfl
        have r1 : atB l t = true := by unfold atB; rw [h3]; rfl
        have R0 := Lib.hid r0
        have R1 := Lib.hid r1
        have z : (x0 == t) = true := by rw [beq_iff_eq]; exact he
        clear hcs hx h1 h2 h3 r0 r1 he
        go_wp2
        go_ret2
        exact ⟨by rw [R0.out, R1.out]; rfl, rfl⟩
      · rw [if_neg he] at h1
        have H1 := Lib.hid h1
        have z : (x0 == t) = false := by rw [beq_eq_false_iff_ne]; exact he
        clear hcs hx h1 h2 he
        go_wp2
        go_round
        case rel => exact ⟨k + 1, by omega, by go_num, H1.out⟩
        case measure => simp [intOf]; omega
    · obtain rfl : k = N := by omega
      have hdk : ¬ (k : Int) < (k : Int) := by omega
      have h0 := HF.out
      rw [List.take_of_length_le (by rw [HN.out]; exact Nat.le_refl _)] at h0
      have r0 : atD l t = 0 := by unfold atD; rw [h0]; rfl
      have r1 : atB l t = false := by unfold atB; rw [h0]; rfl
      have R0 := Lib.hid r0
      have R1 := Lib.hid r1
      clear h0 r0 r1
      go_wp2
      go_ret2
      exact ⟨by rw [R0.out, R1.out]; rfl, rfl⟩
/-- whether a pulse differs from what the other train has at its tick. -/
def difP (lb : List P2) (x : P2) : Bool := atB lb x.1 && (atD lb x.1 != x.2)
theorem difR_eq (la lb : List P2) : difR la lb = la.find? (difP lb) := by
  unfold difR
  congr 1
  funext x
  unfold difP atB atD
  cases atR lb x.1 <;> rfl
theorem find_take {p : P2 → Bool} {l : List P2} {k : Nat} {x : P2} (hx : l[k]? = some x) (h : (l.take k).find? p = none) : (p x = true → l.find? p = some x) ∧ (p x = false → (l.take (k + 1)).find? p = none) := by
  constructor
  · intro hp
    have h9 : l = l.take k ++ x :: l.drop (k + 1) := by
      have h1 := (List.getElem?_eq_some_iff.1 hx)
      obtain ⟨h2, h3⟩ := h1
      rw [← h3, List.getElem_cons_drop, List.take_append_drop]
    rw [h9, List.find?_append, h]
    simp [List.find?_cons, hp]
  · intro hp
    rw [List.take_add_one, hx, List.find?_append, h]
    simp [List.find?_cons, hp]
set_option maxRecDepth 100000 in
set_option maxHeartbeats 2000000 in
theorem DifferR_any (va vb : Value) (la lb : List P2) (w : World) (hla : la.length ≤ 1000000) (hlb : lb.length ≤ 1000000) (hva : Prs w va la) (hvb : Prs w vb lb) :
    Calls Tryz.prog 17 #[va, vb] w fun r w' => r = .returned (.tuple #[.int .i64 (((difR la lb).map (·.1)).getD 0), .bool (difR la lb).isSome]) ∧ w = w' := by
  have HV := Lib.hid hva
  have TA := Lib.hid (fun t => AtR_any vb lb t w hlb hvb)
  rw [difR_eq]
  obtain ⟨a, cp, rfl, -⟩ := hva.slice
  obtain ⟨N, hN⟩ : ∃ N, N = la.length := ⟨_, rfl⟩
  rw [← hN] at HV hla ⊢
  have HN := Lib.hid hN
  clear hN hva hvb
  go_enter Tryz.func17, Tryz.ntmps17
  go_wp2_with fail
  go_loop [6] (fun i => ∃ k : Nat, k ≤ N ∧ i = .int .i64 k ∧ (la.take k).find? (difP lb) = none) (fun i => N - (intOf i).toNat)
  case atStart => exact ⟨0, by omega, rfl, rfl⟩
  case round =>
    obtain ⟨k, hk, rfl, hf⟩ := hrel
    have HF := Lib.hid hf
    clear hf
    by_cases hlt : k < N
    · have hdk : (k : Int) < (N : Int) := by omega
      obtain ⟨x, hx⟩ : ∃ x, la[k]? = some x := ⟨_, List.getElem?_eq_getElem (by rw [← HN.out]; exact hlt)⟩
      obtain ⟨b, off, cp', he, hcs⟩ := HV.out.head (by rw [← HN.out]; omega)
      simp only [Value.slice.injEq] at he
      obtain ⟨rfl, -, rfl⟩ := he
      obtain ⟨c0, c1⟩ := rw2 (hcs k x hx) (show pV x = [.int .i64 x.1, .int .i64 x.2] from rfl)
      obtain ⟨h1, h2⟩ := find_take hx HF.out
      have hp : difP lb x = (atB lb x.1 && (atD lb x.1 != x.2)) := rfl
      obtain ⟨x0, x1⟩ := x
      dsimp only at c0 c1 h1 h2 hp
      have T := Lib.hid (TA.out x0)
      obtain ⟨bB, hbB⟩ : ∃ z, z = atB lb x0 := ⟨_, rfl⟩
      obtain ⟨bD, hbD⟩ : ∃ z, z = atD lb x0 := ⟨_, rfl⟩
      rw [← hbB, ← hbD] at T hp
      rw [hp] at h1 h2
      have H1 := Lib.hid h1
      have H2 := Lib.hid h2
      clear hcs hx h1 h2 hp hbB hbD
      go_wp2_with fail
      refine T.out.mono ?_
      rintro e w1 ⟨rfl, rfl⟩
      cases bB with
      | false =>
        have H3 := Lib.hid (H2.out rfl)
        go_wp2
        go_round
        case rel => exact ⟨k + 1, by omega, by go_num, H3.out⟩
        case measure => simp [intOf]; omega
      | true =>
        by_cases he : bD = x1
        · have z : (bD != x1) = false := by rw [bne_eq_false_iff_eq]; exact he
          have z2 : (bD == x1) = true := by rw [beq_iff_eq]; exact he
          have H3 := Lib.hid (H2.out (by rw [z]; rfl))
          clear he
          go_wp2
          go_round
          case rel => exact ⟨k + 1, by omega, by go_num, H3.out⟩
          case measure => simp [intOf]; omega
        · have z : (bD != x1) = true := by rw [bne_iff_ne]; exact he
          have z2 : (bD == x1) = false := by rw [beq_eq_false_iff_ne]; exact he
          have H3 := Lib.hid (H1.out (by rw [z]; rfl))
          clear he
          go_wp2
          go_ret2
          exact ⟨by rw [H3.out]; rfl, rfl⟩
    · obtain rfl : k = N := by omega
      have hdk : ¬ (k : Int) < (k : Int) := by omega
      have h0 := HF.out
      rw [List.take_of_length_le (by rw [HN.out]; exact Nat.le_refl _)] at h0
      have H0 := Lib.hid h0
      clear h0
      go_wp2
      go_ret2
      exact ⟨by rw [H0.out]; rfl, rfl⟩
theorem goodB_eq (la lb : List P2) (t : Int) : goodB la lb t = (atB la t && atB lb t && (atD la t == atD lb t)) := by
  unfold goodB atB atD
  cases atR la t with
  | none => rfl
  | some x =>
    cases atR lb t <;> simp
set_option maxRecDepth 100000 in
set_option maxHeartbeats 2000000 in
theorem PossibleR_any (va vb : Value) (la lb : List P2) (t : Int) (n : Nat) (w : World) (ht : 0 ≤ t ∧ t ≤ 1000000) (hn : n ≤ 1000) (hla : la.length ≤ 1000000) (hlb : lb.length ≤ 1000000) (hva : Prs w va la) (hvb : Prs w vb lb) :
    Calls Tryz.prog 80 #[va, vb, .int .i64 t, .int .i64 n] w fun r w' => r = .returned (.bool (possB la lb t n)) ∧ w = w' := by
  have TA := Lib.hid (fun t => AtR_any va la t w hla hva)
  have TB := Lib.hid (fun t => AtR_any vb lb t w hlb hvb)
  clear hva hvb
  have q0 : IntKind.i64.wrap (t + (n : Int)) = t + (n : Int) := IntWalk.i64_in _ (by omega)
  go_enter Tryz.func80, Tryz.ntmps80
  go_wp2_with fail
  go_loop [9] (fun i => ∃ k : Nat, k ≤ n ∧ i = .int .i64 (t + (k : Int)) ∧ possB la lb t k = true) (fun i => n - ((intOf i) - t).toNat)
  case atStart => exact ⟨0, by omega, by go_num, rfl⟩
  case round =>
    obtain ⟨k, hk, rfl, hf⟩ := hrel
    by_cases hlt : k < n
    · have hdk : t + (k : Int) < t + (n : Int) := by omega
      have hs := possB_succ la lb t k
      rw [hf, Bool.true_and, goodB_eq] at hs
      have T1 := Lib.hid (TA.out (t + (k : Int)))
      have T2 := Lib.hid (TB.out (t + (k : Int)))
      obtain ⟨aB, haB⟩ : ∃ z, z = atB la (t + (k : Int)) := ⟨_, rfl⟩
      obtain ⟨aD, haD⟩ : ∃ z, z = atD la (t + (k : Int)) := ⟨_, rfl⟩
      obtain ⟨bB, hbB⟩ : ∃ z, z = atB lb (t + (k : Int)) := ⟨_, rfl⟩
      obtain ⟨bD, hbD⟩ : ∃ z, z = atD lb (t + (k : Int)) := ⟨_, rfl⟩
      rw [← haB, ← haD] at T1 hs
      rw [← hbB, ← hbD] at T2 hs
      have HS := Lib.hid hs
      have hno : (aB && bB && (aD == bD)) = false → possB la lb t n = false := by
        intro h
        rw [h] at hs
        cases hq : possB la lb t n with
        | false => rfl
        | true =>
          rw [possB_iff] at hq
          have : possB la lb t (k + 1) = true := (possB_iff _ _ _ _).2 fun j hj => hq j (by omega)
          rw [hs] at this; cases this
      have HNO := Lib.hid hno
      have q1 : IntKind.i64.wrap (t + (k : Int) + 1) = t + (k : Int) + 1 := IntWalk.i64_in _ (by omega)
      clear hs hf hno haB haD hbB hbD
      go_wp2_with fail
      refine T1.out.mono ?_
      rintro e w1 ⟨rfl, rfl⟩
      go_wp2_with fail
      refine T2.out.mono ?_
      rintro e w1 ⟨rfl, rfl⟩
      cases aB with
      | false =>
        go_wp2
        go_ret
        exact ⟨by rw [HNO.out rfl]; rfl, rfl⟩
      | true =>
        cases bB with
        | false =>
          go_wp2
          go_ret
          exact ⟨by rw [HNO.out rfl]; rfl, rfl⟩
        | true =>
          by_cases he : aD = bD
          · have z2 : (aD == bD) = true := by rw [beq_iff_eq]; exact he
            have H3 := Lib.hid (show possB la lb t (k + 1) = true from HS.out.trans (by simp [z2]))
            have z : (aD != bD) = false := by rw [bne_eq_false_iff_eq]; exact he
            clear he
            go_wp2
            go_round
            case rel => exact ⟨k + 1, by omega, by go_num, H3.out⟩
            case measure => simp [intOf]; omega
          · have z2 : (aD == bD) = false := by rw [beq_eq_false_iff_ne]; exact he
            have z : (aD != bD) = true := by rw [bne_iff_ne]; exact he
            have HN2 := Lib.hid (HNO.out (by simp [z2]))
            clear he
            go_wp2
            go_ret
            exact ⟨by rw [HN2.out]; rfl, rfl⟩
    · obtain rfl : k = n := by omega
      have hdk : ¬ t + (k : Int) < t + (k : Int) := by omega
      have HF := Lib.hid hf
      clear hf hlt
      go_wp2
      go_ret
      exact ⟨by rw [HF.out]; rfl, rfl⟩
set_option maxRecDepth 100000 in
set_option maxHeartbeats 2000000 in
theorem ChangeOverR_any (va vb : Value) (la lb : List P2) (fr : Int) (n : Nat) (w : World) (hn : n ≤ 1000) (hla : la.length ≤ 1000000) (hlb : lb.length ≤ 1000000) (hr : ∀ x ∈ la, 0 ≤ x.1 ∧ x.1 ≤ 1000000) (hva : Prs w va la) (hvb : Prs w vb lb) :
    Calls Tryz.prog 18 #[va, vb, .int .i64 fr, .int .i64 n] w fun r w' => r = .returned (.tuple #[.int .i64 (((overR la lb fr n).map (·.1)).getD 0), .int .i64 (chN ((overR la lb fr n).map (·.1)))]) ∧ w = w' := by
  have HV := Lib.hid hva
  have TP := Lib.hid (fun t ht => PossibleR_any va vb la lb t n w ht hn hla hlb hva hvb)
  have HR := Lib.hid hr
  unfold overR
  obtain ⟨a, cp, rfl, -⟩ := hva.slice
  obtain ⟨N, hN⟩ : ∃ N, N = la.length := ⟨_, rfl⟩
  rw [← hN] at HV hla TP ⊢
  have HN := Lib.hid hN
  clear hN hva hvb hr
  go_enter Tryz.func18, Tryz.ntmps18
  go_wp2_with fail
  go_loop [10] (fun i => ∃ k : Nat, k ≤ N ∧ i = .int .i64 k ∧ (la.take k).find? (overP la lb fr n) = none) (fun i => N - (intOf i).toNat)
  case atStart => exact ⟨0, by omega, rfl, rfl⟩
  case round =>
    obtain ⟨k, hk, rfl, hf⟩ := hrel
    have HF := Lib.hid hf
    clear hf
    by_cases hlt : k < N
    · have hdk : (k : Int) < (N : Int) := by omega
      obtain ⟨x, hx⟩ : ∃ x, la[k]? = some x := ⟨_, List.getElem?_eq_getElem (by rw [← HN.out]; exact hlt)⟩
      obtain ⟨b, off, cp', he, hcs⟩ := HV.out.head (by rw [← HN.out]; omega)
      simp only [Value.slice.injEq] at he
      obtain ⟨rfl, -, rfl⟩ := he
      obtain ⟨c0, c1⟩ := rw2 (hcs k x hx) (show pV x = [.int .i64 x.1, .int .i64 x.2] from rfl)
      obtain ⟨h1, h2⟩ := find_take hx HF.out
      have hp : overP la lb fr n x = (decide (fr ≤ x.1) && possB la lb x.1 n) := rfl
      have hxr := HR.out x (List.mem_of_getElem? hx)
      have T := Lib.hid (TP.out x.1 hxr)
      obtain ⟨x0, x1⟩ := x
      dsimp only at c0 c1 h1 h2 hp T
      obtain ⟨pB, hpB⟩ : ∃ z, z = possB la lb x0 n := ⟨_, rfl⟩
      rw [← hpB] at T hp
      rw [hp] at h1 h2
      have H1 := Lib.hid h1
      have H2 := Lib.hid h2
      clear hcs hx h1 h2 hp hpB hxr
      by_cases hge : fr ≤ x0
      · have d0 : decide (fr ≤ x0) = true := decide_eq_true hge
        go_wp2_with fail
        refine T.out.mono ?_
        rintro e w1 ⟨rfl, rfl⟩
        cases pB with
        | true =>
          have H3 := Lib.hid (H1.out (by rw [d0]; rfl))
          go_wp2
          go_ret2
          exact ⟨by rw [H3.out]; rfl, rfl⟩
        | false =>
          have H3 := Lib.hid (H2.out (by rw [d0]; rfl))
          go_wp2
          go_round
          case rel => exact ⟨k + 1, by omega, by go_num, H3.out⟩
          case measure => simp [intOf]; omega
      · have d0 : decide (fr ≤ x0) = false := decide_eq_false hge
        have H3 := Lib.hid (H2.out (by rw [d0]; rfl))
        go_wp2
        go_round
        case rel => exact ⟨k + 1, by omega, by go_num, H3.out⟩
        case measure => simp [intOf]; omega
    · obtain rfl : k = N := by omega
      have hdk : ¬ (k : Int) < (k : Int) := by omega
      have h0 := HF.out
      rw [List.take_of_length_le (by rw [HN.out]; exact Nat.le_refl _)] at h0
      have H0 := Lib.hid h0
      clear h0
      go_wp2
      go_ret2
      exact ⟨by rw [H0.out]; rfl, rfl⟩
end

section
set_option linter.unusedSimpArgs false
set_option linter.unusedVariables false
open Go.RowKit

theorem fil_take {p : P2 → Bool} {l : List P2} {k : Nat} {x : P2} (hx : l[k]? = some x) : (l.take (k + 1)).filter p = (l.take k).filter p ++ (if p x = true then [x] else []) := by
  rw [List.take_add_one, hx, List.filter_append]
  by_cases h : p x = true
  · simp [h]
  · simp [h]
def swtO (F : List P2) : List P2 := if 256 < F.length then [] else F
def swtC (n : Nat) : Int := if 256 < n then 5 else 0
set_option maxRecDepth 100000 in
set_option maxHeartbeats 4000000 in
theorem SwitchedR_any (va vb : Value) (la lb : List P2) (t : Int) (w : World) (hla : la.length ≤ 500000) (hlb : lb.length ≤ 500000) (hva : Prs w va la) (hvb : Prs w vb lb) :
    Calls Tryz.prog 19 #[va, vb, .int .i64 t] w fun r w' => (∃ u, r = .returned (.tuple #[u, .int .i64 (swtC (swtF la lb t).length)]) ∧ Prs w' u (swtO (swtF la lb t))) ∧ Below w.heap.size w w' := by
  obtain ⟨i0, hi, hz0, hz1, hz2⟩ := info_parts Tryz.infZbipoleref07Pulse
  have HA := Lib.hid hva
  have HB := Lib.hid hvb
  obtain ⟨a1, p1, rfl, -⟩ := hva.slice
  obtain ⟨a2, p2, rfl, -⟩ := hvb.slice
  obtain ⟨N, hN⟩ : ∃ N, N = la.length := ⟨_, rfl⟩
  obtain ⟨M, hM⟩ : ∃ M, M = lb.length := ⟨_, rfl⟩
  rw [← hN] at HA hla ⊢
  rw [← hM] at HB hlb ⊢
  obtain ⟨LA, hLA⟩ : ∃ L, L = la.filter (fun x => decide (x.1 < t)) := ⟨_, rfl⟩
  have hS : swtF la lb t = LA ++ lb.filter (fun x => decide (t ≤ x.1)) := by rw [hLA]; rfl
  have hAl : LA.length ≤ N := by rw [hLA, hN]; exact List.length_filter_le _ _
  have HN := Lib.hid hN
  have HM := Lib.hid hM
  have HLA := Lib.hid hLA
  have HS := Lib.hid hS
  clear hN hM hva hvb hLA hS
  go_enter Tryz.func19, Tryz.ntmps19
  go_wp2_with fail
  go_loopw [8, 9] (fun u i wr => ∃ k : Nat, k ≤ N ∧ i = .int .i64 k ∧ wr.ownsRow w.heap.size 119 2 u ((la.take k).filter (fun x => decide (x.1 < t))).length (((la.take k).filter (fun x => decide (x.1 < t))).flatMap pV) ∧ Below w.heap.size w wr) (fun _ i _ => N - (intOf i).toNat)
  case atStart => exact ⟨0, by omega, rfl, World.ownsRow_nil _ _ _ _, Below.refl _ _⟩
  case round =>
    obtain ⟨k, hk, rfl, hown, hbel⟩ := hrel
    by_cases hlt : k < N
    · obtain ⟨x, hx⟩ : ∃ x, la[k]? = some x := ⟨_, List.getElem?_eq_getElem (by rw [← HN.out]; exact hlt)⟩
      obtain ⟨b, off, cp, he, hcs⟩ := (HA.out.carry hbel).head (by rw [← HN.out]; omega)
      simp only [Value.slice.injEq] at he
      obtain ⟨rfl, -, rfl⟩ := he
      obtain ⟨c0, c1⟩ := rw2 (hcs k x hx) (show pV x = [.int .i64 x.1, .int .i64 x.2] from rfl)
      have hts := fil_take (p := fun x => decide (x.1 < t)) hx
      have hLe : ((la.take k).filter (fun x => decide (x.1 < t))).length ≤ k := Nat.le_trans (List.length_filter_le _ _) (by rw [List.length_take]; omega)
      obtain ⟨L0, hL0⟩ : ∃ L, L = (la.take k).filter (fun x => decide (x.1 < t)) := ⟨_, rfl⟩
      rw [← hL0] at hts hown hLe
      obtain ⟨x0, x1⟩ := x
      dsimp only at c0 c1 hts
      have hdk : (k : Int) < (N : Int) := by omega
      have hsz := hbel.size
      have HL0 := Lib.hid hL0
      obtain ⟨K0, hK0⟩ : ∃ K, K = L0.length := ⟨_, rfl⟩
      rw [← hK0] at hown hLe
      have HK0 := Lib.hid hK0
      obtain ⟨oa, oc, rfl⟩ := own_slice hown
      clear hcs hx hL0 hK0
      by_cases hp : x0 < t
      · rw [if_pos (decide_eq_true hp)] at hts
        have HTS := Lib.hid hts
        have kn := below_new wr (.cells #[.int .i64 x0, .int .i64 x1] 119)
        clear hts
        go_wp2_with (at_builtin; refine wpList_append_own _ rfl _ _ 22 rfl w.heap.size 119 i0 (.agg #[.int .i64 0, .int .i64 0]) 2 16 Tryz.undZbipoleref07Pulse hi hz0 hz1 hz2 rfl (by decide) _ _ _ rfl (own_below hown kn) ⟨wr.heap.size, 0, none⟩ 1 1 [.int .i64 x0, .int .i64 x1] rfl rfl (fun j u hj => (Blk.new wr 119 [.int .i64 x0, .int .i64 x1]).news j u hj) (by simp [Value.oneCell']) (by unfold maxLen; omega) (by omega) (by have := kn.size; omega) ?_; intro v9 w1 hown9 hgrow9 _)
        have hbel9 := (bthen hbel kn).trans (below_grow (own_below hown kn) (by have := kn.size; omega) hgrow9)
        have hownN : w1.ownsRow w.heap.size 119 2 v9 ((la.take (k + 1)).filter (fun x => decide (x.1 < t))).length (((la.take (k + 1)).filter (fun x => decide (x.1 < t))).flatMap pV) := by
          rw [HTS.out, List.length_append, List.flatMap_append, ← HK0.out]
          exact hown9
        clear hown hgrow9 kn hbel c0 c1 hown9
        go_wp2
        go_roundw
        case rel => exact ⟨k + 1, by omega, by go_num, hownN, hbel9⟩
        case measure => simp [intOf]; omega
      · rw [if_neg (by simpa using hp), List.append_nil] at hts
        have HTS := Lib.hid hts
        clear hts
        go_wp2
        go_roundw
        case rel => exact ⟨k + 1, by omega, by go_num, by rw [HTS.out, ← HK0.out]; exact hown, hbel⟩
        case measure => simp [intOf]; omega
    · obtain rfl : k = N := by omega
      have hdk : ¬ (k : Int) < (k : Int) := by omega
      rw [List.take_of_length_le (by rw [HN.out]; exact Nat.le_refl _), ← HLA.out] at hown
      clear hlt hk
      obtain ⟨W5, hW5⟩ : ∃ W5, W5 = wr := ⟨_, rfl⟩
      subst hW5
      go_wp2_with fail
      go_loopw [8, 10] (fun u i wr => ∃ j : Nat, j ≤ M ∧ i = .int .i64 j ∧ wr.ownsRow w.heap.size 119 2 u (LA ++ (lb.take j).filter (fun x => decide (t ≤ x.1))).length ((LA ++ (lb.take j).filter (fun x => decide (t ≤ x.1))).flatMap pV) ∧ Below w.heap.size w wr) (fun _ i _ => M - (intOf i).toNat)
      case atStart => exact ⟨0, by omega, rfl, by simpa using hown, hbel⟩
      case round =>
        clear hown hbel
        obtain ⟨j, hj, rfl, hown, hbel⟩ := hrel
        by_cases hlt : j < M
        · obtain ⟨x, hx⟩ : ∃ x, lb[j]? = some x := ⟨_, List.getElem?_eq_getElem (by rw [← HM.out]; exact hlt)⟩
          obtain ⟨b, off, cp, he, hcs⟩ := (HB.out.carry hbel).head (by rw [← HM.out]; omega)
          simp only [Value.slice.injEq] at he
          obtain ⟨rfl, -, rfl⟩ := he
          obtain ⟨c0, c1⟩ := rw2 (hcs j x hx) (show pV x = [.int .i64 x.1, .int .i64 x.2] from rfl)
          have hts := fil_take (p := fun x => decide (t ≤ x.1)) hx
          have hLe : (LA ++ (lb.take j).filter (fun x => decide (t ≤ x.1))).length ≤ k + j := by
            rw [List.length_append]
            have := List.length_filter_le (fun x : P2 => decide (t ≤ x.1)) (lb.take j)
            rw [List.length_take] at this
            omega
          obtain ⟨L0, hL0⟩ : ∃ L, L = (lb.take j).filter (fun x => decide (t ≤ x.1)) := ⟨_, rfl⟩
          rw [← hL0] at hts hown hLe
          obtain ⟨x0, x1⟩ := x
          dsimp only at c0 c1 hts
          have hdj : (j : Int) < (M : Int) := by omega
          have hsz := hbel.size
          have HL0 := Lib.hid hL0
          obtain ⟨K0, hK0⟩ : ∃ K, K = (LA ++ L0).length := ⟨_, rfl⟩
          rw [← hK0] at hown hLe
          have HK0 := Lib.hid hK0
          obtain ⟨oa, oc, rfl⟩ := own_slice hown
          clear hcs hx hL0 hK0
          by_cases hp : t ≤ x0
          · rw [if_pos (decide_eq_true hp)] at hts
            have HTS := Lib.hid hts
            have kn := below_new wr (.cells #[.int .i64 x0, .int .i64 x1] 119)
            clear hts
            go_wp2_with (at_builtin; refine wpList_append_own _ rfl _ _ 22 rfl w.heap.size 119 i0 (.agg #[.int .i64 0, .int .i64 0]) 2 16 Tryz.undZbipoleref07Pulse hi hz0 hz1 hz2 rfl (by decide) _ _ _ rfl (own_below hown kn) ⟨wr.heap.size, 0, none⟩ 1 1 [.int .i64 x0, .int .i64 x1] rfl rfl (fun j u hj => (Blk.new wr 119 [.int .i64 x0, .int .i64 x1]).news j u hj) (by simp [Value.oneCell']) (by unfold maxLen; omega) (by omega) (by have := kn.size; omega) ?_; intro v9 w1 hown9 hgrow9 _)
            have hbel9 := (bthen hbel kn).trans (below_grow (own_below hown kn) (by have := kn.size; omega) hgrow9)
            have hownN : w1.ownsRow w.heap.size 119 2 v9 (LA ++ (lb.take (j + 1)).filter (fun x => decide (t ≤ x.1))).length ((LA ++ (lb.take (j + 1)).filter (fun x => decide (t ≤ x.1))).flatMap pV) := by
              rw [HTS.out, ← List.append_assoc, List.length_append, List.flatMap_append, ← HK0.out]
              exact hown9
            clear hown hgrow9 kn hbel c0 c1 hown9
            go_wp2
            go_roundw
            case rel => exact ⟨j + 1, by omega, by go_num, hownN, hbel9⟩
            case measure => simp [intOf]; omega
          · rw [if_neg (by simpa using hp), List.append_nil] at hts
            have HTS := Lib.hid hts
            clear hts
            go_wp2
            go_roundw
            case rel => exact ⟨j + 1, by omega, by go_num, by rw [HTS.out, ← HK0.out]; exact hown, hbel⟩
            case measure => simp [intOf]; omega
        · obtain rfl : j = M := by omega
          have hdj : ¬ (j : Int) < (j : Int) := by omega
          rw [List.take_of_length_le (by rw [HM.out]; exact Nat.le_refl _), ← HS.out] at hown
          obtain ⟨F, hF⟩ : ∃ F, F = swtF la lb t := ⟨_, rfl⟩
          rw [← hF] at hown
          have hout : Prs wr u8 F := (show OwR wr w.heap.size 119 2 pV u8 F from hown).rw pV_len
          obtain ⟨Z, hZ⟩ : ∃ Z, Z = F.length := ⟨_, rfl⟩
          rw [← hZ] at hown
          obtain ⟨oa, oc, rfl⟩ := own_slice hown
          have HF := Lib.hid hF
          have HZ := Lib.hid hZ
          have HO := Lib.hid hout
          clear hown hlt hj hF hout hZ
          by_cases h9 : 256 < Z
          · have d9 : (256 : Int) < (Z : Int) := by omega
            have H9 := Lib.hid h9
            have E9 := Lib.hid (show swtC Z = 5 by unfold swtC; rw [if_pos h9])
            clear h9
            go_wp2
            go_ret2
            exact ⟨⟨_, by rw [← HF.out, ← HZ.out, E9.out]; rfl, by unfold swtO; rw [← HF.out, ← HZ.out, if_pos H9.out]; exact Rw.nil 2 pV _ none 0⟩, hbel⟩
          · have d9 : ¬ (256 : Int) < (Z : Int) := by omega
            have H9 := Lib.hid h9
            have E9 := Lib.hid (show swtC Z = 0 by unfold swtC; rw [if_neg h9])
            clear h9
            go_wp2
            go_ret2
            exact ⟨⟨_, by rw [← HF.out, ← HZ.out, E9.out]; rfl, by unfold swtO; rw [← HF.out, ← HZ.out, if_neg H9.out]; exact HO.out⟩, hbel⟩
end

section
set_option linter.unusedSimpArgs false
set_option linter.unusedVariables false
open Go.RowKit

theorem first2R (e0 e1 : Int) (G : Nat) (W : World) (h : BlkI W G 3 [e0, e1]) : Calls Tryz.prog 77 #[.slice (some ⟨G, 0, none⟩) 2 2] W fun r w' => r = .returned (.int .i64 (firstE [e0, e1])) ∧ W = w' :=
  FirstR_any _ _ W (by simp) (BlkI.ints h rfl)
set_option maxRecDepth 100000 in
set_option maxHeartbeats 1000000 in
theorem CheckLogR_any (c : Int) (a : Option Addr) (n cap : Nat) (t : List P2) (w : World) (ht : t.length ≤ 1000000) (hv : Prs w (.slice a n cap) t) :
    Calls Tryz.prog 14 #[.agg #[.int .i64 c, .slice a n cap]] w fun r w' => r = .returned (.int .i64 (logE c t)) ∧ Below w.heap.size w w' := by
  have T0 := Lib.hid (fun W => CheckRange_any c 0 255 W)
  have T1 := Lib.hid (fun W (hv : Prs W (.slice a n cap) t) => CheckTrainR_any (.slice a n cap) t W ht hv)
  have hE : logE c t = firstE [withinE c 0 255, trainE t] := rfl
  rw [hE]
  obtain ⟨e0, he0⟩ : ∃ e, e = withinE c 0 255 := ⟨_, rfl⟩
  obtain ⟨e1, he1⟩ : ∃ e, e = trainE t := ⟨_, rfl⟩
  rw [← he0] at T0
  rw [← he1] at T1
  rw [← he0, ← he1]
  clear he0 he1 hE ht
  have TF := Lib.hid (fun G W h => first2R e0 e1 G W h)
  go_enter Tryz.func14, Tryz.ntmps14
  go_upto_region 1 with fail
  obtain ⟨W1, hW1⟩ : ∃ v, v = World.alloc w (Obj.cells #[.int .i64 c, .slice a n cap] 24) := ⟨_, rfl⟩
  have kW1 : Below w.heap.size w W1 := by rw [hW1]; exact below_new _ _
  have iW1 : Blk W1 (w.heap.size) 24 [.int .i64 c, .slice a n cap] := by rw [hW1]; exact Blk.new _ _ _
  have sW1 : W1.heap.size = w.heap.size + 1 := by rw [hW1]; simp
  rw [← hW1]
  clear hW1
  have c0 := iW1.cell (j := 0) (v := .int .i64 c) rfl
  have c1 := iW1.cell (j := 1) (v := .slice a n cap) rfl
  have hB := kW1
  replace hv := hv.carry kW1
  clear iW1 sW1 kW1
  refine wp_region_E 99 (by kernel_rfl) ?_
  obtain ⟨wz, hwz⟩ : ∃ v, v = W1.drew := ⟨_, rfl⟩
  rw [← hwz]
  have hlz : Below W1.heap.size W1 wz := by rw [hwz]; exact (Below.refl _ _).drew
  have hbz := bthen hB hlz
  have c0 := cellb c0 hlz
  have c1 := cellb c1 hlz
  have hv := hv.carry hlz
  clear hwz hlz
  refine zT 0 { dst := some 3, op := Op.fieldAddr 24 (Operand.tmp 1) 0, type := 0, pos := "ref.go:104", after := #[], guard := none } (v := ?_) rfl (Or.inl ⟨by rfl, ?_⟩) ?_
  rotate_left
  · (intro w hE; have c0 := cellb c0 hE; have c1 := cellb c1 hE; (try dsimp only); go_simp); (try with_reducible rfl)
  try simp only [Act.put, zS]
  refine zT 1 { dst := some 4, op := Op.load 3 (Operand.tmp 3), type := 3, pos := "ref.go:104", after := #[{ on := 0, ground := Ground.data }], guard := none } (v := ?_) rfl (Or.inl ⟨by rfl, ?_⟩) ?_
  rotate_left
  · (intro w hE; have c0 := cellb c0 hE; have c1 := cellb c1 hE; (try dsimp only); go_simp); (try with_reducible rfl)
  try simp only [Act.put, zS]
  refine zT 3 { dst := some 6, op := Op.fieldAddr 24 (Operand.tmp 1) 1, type := 0, pos := "ref.go:104", after := #[], guard := none } (v := ?_) rfl (Or.inl ⟨by rfl, ?_⟩) ?_
  rotate_left
  · (intro w hE; have c0 := cellb c0 hE; have c1 := cellb c1 hE; (try dsimp only); go_simp); (try with_reducible rfl)
  try simp only [Act.put, zS]
  refine zT 4 { dst := some 7, op := Op.load 22 (Operand.tmp 6), type := 22, pos := "ref.go:104", after := #[{ on := 3, ground := Ground.data }], guard := none } (v := ?_) rfl (Or.inl ⟨by rfl, ?_⟩) ?_
  rotate_left
  · (intro w hE; have c0 := cellb c0 hE; have c1 := cellb c1 hE; (try dsimp only); go_simp); (try with_reducible rfl)
  try simp only [Act.put, zS]
  refine zC 2 { dst := some 5, op := Op.call { callee := Callee.value (Operand.func 16), args := #[Operand.tmp 4, Operand.const (Value.int IntKind.i64 0), Operand.const (Value.int IntKind.i64 255)], argTypes := #[3, 3, 3] }, type := 3, pos := "ref.go:104", after := #[{ on := 1, ground := Ground.data }], guard := none } (fun w hE => ofPure (T0.out w)) rfl (by rfl) (fun w hE => by (try dsimp only); go_simp) ?_
  try simp only [Act.put, zS]
  refine zC 5 { dst := some 8, op := Op.call { callee := Callee.value (Operand.func 49), args := #[Operand.tmp 7], argTypes := #[22] }, type := 3, pos := "ref.go:104", after := #[{ on := 4, ground := Ground.data }, { on := 2, ground := Ground.chain }], guard := none } (fun w hE => T1.out w (hv.carry hE)) rfl (by rfl) (fun w hE => by (try dsimp only); go_simp) ?_
  try simp only [Act.put, zS]
  refine wpAnyE_one (i := 6) (o := { dst := some 9, op := Op.buildSlice 70 2 #[(0, Operand.tmp 5), (1, Operand.tmp 8)], type := 70, pos := "ref.go:104", after := #[{ on := 2, ground := Ground.data }, { on := 5, ground := Ground.data }], guard := none }) (by kernel_rfl) rfl (fun wy1 hE K hK => ?_)
  have c0 := cellb c0 hE
  have c1 := cellb c1 hE
  have hv := hv.carry hE
  have hbz1 := bthen hbz hE
  clear hE
  go_simp
  obtain ⟨wx1, hwz⟩ : ∃ v, v = wy1.alloc (Obj.cells #[.int .i64 e0, .int .i64 e1] 3) := ⟨_, rfl⟩
  rw [← hwz]
  have hl : Below wy1.heap.size wy1 wx1 := by rw [hwz]; exact below_new _ _
  have hcz1 := bthen hbz1 hl
  have iN : BlkI wx1 wy1.heap.size 3 [e0, e1] := by rw [hwz]; exact Blk.new _ _ _
  generalize wy1.heap.size = G at iN ⊢
  have c0 := cellb c0 hl
  have c1 := cellb c1 hl
  have hv := hv.carry hl
  clear hwz
  refine hK _ _ (fun _ => hl) ?_
  clear hK K hl
  try simp only [Act.put, zS]
  refine zC 7 { dst := some 10, op := Op.call { callee := Callee.value (Operand.func 77), args := #[Operand.tmp 9], argTypes := #[70] }, type := 3, pos := "ref.go:104", after := #[{ on := 6, ground := Ground.data }, { on := 5, ground := Ground.chain }], guard := none } (fun w hE => ofPure (TF.out _ w (Blk.carry iN hE))) rfl (by rfl) (fun w hE => by (try dsimp only); go_simp) ?_
  try simp only [Act.put, zS]
  refine zT 8 { dst := some 2, op := Op.assign (Operand.tmp 10), type := 3, pos := "ref.go:104", after := #[{ on := 7, ground := Ground.data }, { on := 7, ground := Ground.chain }, { on := 0, ground := Ground.phase }, { on := 1, ground := Ground.phase }, { on := 2, ground := Ground.phase }, { on := 3, ground := Ground.phase }, { on := 4, ground := Ground.phase }, { on := 5, ground := Ground.phase }, { on := 6, ground := Ground.phase }, { on := 7, ground := Ground.phase }], guard := none } (v := ?_) rfl (Or.inl ⟨by rfl, ?_⟩) ?_
  rotate_left
  · (intro w hE; have c0 := cellb c0 hE; have c1 := cellb c1 hE; (try dsimp only); go_simp); (try with_reducible rfl)
  try simp only [Act.put, zS]
  refine wpAnyE_done (by kernel_rfl) (fun wy2 hE => ?_) _
  have hbz2 := bthen hcz1 hE
  have c0 := cellb c0 hE
  have c1 := cellb c1 hE
  have hv := hv.carry hE
  have iN := iN.carry hE
  clear hE
  have hB := hbz2
  obtain ⟨W9, hW9⟩ : ∃ v, v = wy2 := ⟨_, rfl⟩
  rw [← hW9] at hB ⊢
  clear hW9
  go_wp2
  go_ret
  exact ⟨rfl, hB⟩
set_option maxRecDepth 100000 in
set_option maxHeartbeats 1000000 in
theorem logL_any (c : Int) (a : Option Addr) (n cap : Nat) (t : List P2) (w : World) (ht : t.length ≤ 1000000) (hv : Prs w (.slice a n cap) t) :
    Calls Tryz.prog 10 #[.agg #[.int .i64 c, .slice a n cap]] w fun r w' => (∃ a' n' c', r = .returned (.agg #[.int .i64 c, .slice a' n' c']) ∧ Prs w' (.slice a' n' c') t) ∧ Below w.heap.size w w' := by
  have T := Lib.hid (fun W (h : Prs W (.slice a n cap) t) => pulses_any (.slice a n cap) t W ht h)
  go_enter Tryz.func10, Tryz.ntmps10
  go_upto_region 1 with fail
  obtain ⟨W1, hW1⟩ : ∃ v, v = World.alloc w (Obj.cells #[.int .i64 c, .slice a n cap] 24) := ⟨_, rfl⟩
  have kW1 : Below w.heap.size w W1 := by rw [hW1]; exact below_new _ _
  have iW1 : Blk W1 (w.heap.size) 24 [.int .i64 c, .slice a n cap] := by rw [hW1]; exact Blk.new _ _ _
  have sW1 : W1.heap.size = w.heap.size + 1 := by rw [hW1]; simp
  rw [← hW1]
  clear hW1
  obtain ⟨W2, hW2⟩ : ∃ v, v = World.alloc W1 (Obj.cells #[.int .i64 0, .slice none 0 0] 33) := ⟨_, rfl⟩
  have kW2 : Below W1.heap.size W1 W2 := by rw [hW2]; exact below_new _ _
  have iW2 : Blk W2 (w.heap.size + 1) 33 [.int .i64 0, .slice none 0 0] := by rw [hW2, ← sW1]; exact Blk.new _ _ _
  have sW2 : W2.heap.size = w.heap.size + 1 + 1 := by rw [hW2]; simp [sW1]
  rw [← hW2]
  clear hW2
  have c0 := iW1.cell (j := 0) (v := .int .i64 c) rfl
  have c1 := iW1.cell (j := 1) (v := .slice a n cap) rfl
  have i2 := iW2
  have hB := kW1
  have kB := kW2
  replace hv := hv.carry (bthen kW1 kW2)
  have hB1 : W1.heap.size ≤ w.heap.size + 1 := by omega
  clear iW1 iW2 kW1 kW2 sW1 sW2
  refine wp_region_held_drew (S := (fun W => W.cell? ⟨w.heap.size, 0, none⟩ = some (.int .i64 c) ∧ W.cell? ⟨w.heap.size, 1, none⟩ = some (.slice a n cap))) (by kernel_rfl) ⟨cellb c0 kB.drew, cellb c1 kB.drew⟩ (fun hHeld0 => ?_)
  obtain ⟨wzd, hwz⟩ : ∃ v, v = W2.drew := ⟨_, rfl⟩
  rw [← hwz] at hHeld0 ⊢
  have hbzd : Below W1.heap.size W1 wzd := by rw [hwz]; exact kB.drew
  have hlzd : Below W2.heap.size W2 wzd := by rw [hwz]; exact (Below.refl _ _).drew
  have hv := hv.carry hlzd
  have i2 := i2.carry hlzd
  clear hwz hlzd
  refine wpAnyH_take (i := 0) (oi := { dst := some 3, op := Op.fieldAddr 24 (Operand.tmp 1) 0, type := 0, pos := "law.go:84", after := #[], guard := none }) (v := ?_) rfl (by kernel_rfl) (by kernel_rfl) (by kernel_rfl) (fun _ _ _ h => h) (Or.inl ⟨by rfl, ?_⟩) (by assumption) ?_
  rotate_left
  · (intro w hSw; (try dsimp only at hSw); go_simp); (try with_reducible rfl)
  try simp only [Act.put, zS]
  refine wpAnyH_take (i := 1) (oi := { dst := some 4, op := Op.load 3 (Operand.tmp 3), type := 3, pos := "law.go:84", after := #[{ on := 0, ground := Ground.data }], guard := none }) (v := ?_) rfl (by kernel_rfl) (by kernel_rfl) (by kernel_rfl) (fun _ _ _ h => h) (Or.inl ⟨by rfl, ?_⟩) (by assumption) ?_
  rotate_left
  · (intro w hSw; (try dsimp only at hSw); go_simp); (try with_reducible rfl)
  try simp only [Act.put, zS]
  refine wpAnyH_take (i := 2) (oi := { dst := some 5, op := Op.fieldAddr 24 (Operand.tmp 1) 1, type := 0, pos := "law.go:84", after := #[], guard := none }) (v := ?_) rfl (by kernel_rfl) (by kernel_rfl) (by kernel_rfl) (fun _ _ _ h => h) (Or.inl ⟨by rfl, ?_⟩) (by assumption) ?_
  rotate_left
  · (intro w hSw; (try dsimp only at hSw); go_simp); (try with_reducible rfl)
  try simp only [Act.put, zS]
  refine wpAnyH_take (i := 3) (oi := { dst := some 6, op := Op.load 22 (Operand.tmp 5), type := 22, pos := "law.go:84", after := #[{ on := 2, ground := Ground.data }], guard := none }) (v := ?_) rfl (by kernel_rfl) (by kernel_rfl) (by kernel_rfl) (fun _ _ _ h => h) (Or.inl ⟨by rfl, ?_⟩) (by assumption) ?_
  rotate_left
  · (intro w hSw; (try dsimp only at hSw); go_simp); (try with_reducible rfl)
  try simp only [Act.put, zS]
  refine wpAnyH_ready (rs := [4]) (by kernel_rfl) (by simp) ?_
  refine (AllReadyH.cons (o := { dst := some 7, op := Op.call { callee := Callee.value (Operand.func 45), args := #[Operand.tmp 6], argTypes := #[22] }, type := 31, pos := "law.go:84", after := #[{ on := 3, ground := Ground.data }], guard := none }) rfl (fun K hK => ?_) AllReadyH.nil)
  go_simp
  have hsz4 : w.heap.size + 2 ≤ (wzd).heap.size := Blk.lt i2
  refine (T.out wzd hv).mono ?_
  rintro e wz4 ⟨⟨u4, rfl, hu4⟩, hl⟩
  replace hu4 := own_baseV hu4 hsz4
  obtain ⟨a4, c4, rfl⟩ := own_slice hu4
  (try go_wp2_with fail)
  have hbz4 := bthen hbzd hl
  have hv := hv.carry hl
  have i2 := i2.carry hl
  clear hl
  refine hK.out _ _ ⟨cellb c0 hbz4, cellb c1 hbz4⟩ (fun hHeld1 => ?_)
  clear hK K hHeld0
  try simp only [Act.put, zS]
  refine wpAnyH_take (i := 5) (oi := { dst := some 8, op := Op.build 33 #[(0, Operand.tmp 4), (1, Operand.tmp 7)], type := 33, pos := "law.go:84", after := #[{ on := 1, ground := Ground.data }, { on := 4, ground := Ground.data }], guard := none }) (v := ?_) rfl (by kernel_rfl) (by kernel_rfl) (by kernel_rfl) (fun _ _ _ h => h) (Or.inl ⟨by rfl, ?_⟩) (by assumption) ?_
  rotate_left
  · (intro w hSw; (try dsimp only at hSw); go_simp); (try with_reducible rfl)
  try simp only [Act.put, zS]
  refine wpAnyH_ready (rs := [6]) (by kernel_rfl) (by simp) ?_
  refine (AllReadyH.cons (o := { dst := none, op := Op.store 33 (Operand.tmp 2) (Operand.tmp 8), type := 0, pos := "law.go:84", after := #[{ on := 5, ground := Ground.data }, { on := 4, ground := Ground.chain }, { on := 0, ground := Ground.phase }, { on := 1, ground := Ground.phase }, { on := 2, ground := Ground.phase }, { on := 3, ground := Ground.phase }, { on := 4, ground := Ground.phase }, { on := 5, ground := Ground.phase }], guard := none }) rfl (fun K hK => ?_) AllReadyH.nil)
  have f0 := i2.frozen 0
  have f1 := i2.frozen 1
  have g0 := i2.cell (j := 0) (v := .int .i64 0) rfl
  have g1 := i2.cell (j := 1) (v := .slice none 0 0) rfl
  go_simp
  obtain ⟨wz6, hwz⟩ : ∃ v, v = ((wz4.setCell ⟨w.heap.size + 1, 0, none⟩ (.int .i64 c)).setCell ⟨w.heap.size + 1, 1, none⟩ (.slice a4 t.length c4)) := ⟨_, rfl⟩
  rw [← hwz]
  have hbz6 : Below W1.heap.size W1 wz6 := by rw [hwz]; exact below_setC (below_setC hbz4 (w.heap.size + 1) 0 hB1 (.int .i64 c)) (w.heap.size + 1) 1 hB1 (.slice a4 t.length c4)
  have i4 := (i2.set 0 (.int .i64 c)).set 1 (.slice a4 t.length c4)
  rw [← hwz] at i4
  have hu5 := own_setCellV (j := 1) (x := .slice a4 t.length c4) (own_setCellV (j := 0) (x := .int .i64 c) hu4 (by omega : w.heap.size + 1 < w.heap.size + 2)) (by omega : w.heap.size + 1 < w.heap.size + 2)
  rw [← hwz] at hu5
  clear hwz
  refine hK.out _ _ ⟨cellb c0 hbz6, cellb c1 hbz6⟩ (fun hHeld2 => ?_)
  clear hK K hHeld1
  try simp only [Act.put, zS]
  refine wpAnyH_done (by kernel_rfl) ?_ _
  clear hHeld2
  have hB2 := bthen hB hbz6
  have z0 := i4.cell (j := 0) (v := .int .i64 c) rfl
  have z1 := i4.cell (j := 1) (v := .slice a4 t.length c4) rfl
  have hP := Rw.of_own pV_len hu5 rfl
  go_wp2_with fail
  exact bodyPost_ret (v := .agg #[.int .i64 c, .slice a4 t.length c4]) (by simp [results, Tryz.f10, go_sem, z0, z1]) rfl ⟨⟨_, _, _, rfl, hP⟩, hB2⟩
end

end Go.Proofs.YtgdkomgfalkihaaGreatDoor

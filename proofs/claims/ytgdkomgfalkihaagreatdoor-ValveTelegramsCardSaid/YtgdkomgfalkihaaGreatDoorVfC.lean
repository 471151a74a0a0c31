/- The law's conversions of telegrams. (printed by gen/valEB.py) -/
import Derived.Test.YtgdkomgfalkihaaGreatDoorVeE
namespace Go.Proofs.YtgdkomgfalkihaaGreatDoor
section
set_option linter.unusedSimpArgs false
set_option linter.unusedVariables false
open Go.RowKit
theorem Tryz.infZbipoleref01Telegram : (Tryz.prog.info? 151).map (fun i => (i.zero, i.size, i.bytes)) = some (some (.agg #[.int .i64 0, .int .i64 0, .int .i64 0, .int .i64 0, .int .i64 0, .int .i64 0]), 6, 48) := by kernel_rfl
theorem Tryz.undZbipoleref01Telegram : Tryz.prog.underlying 52 = some (.slice 151) := by kernel_rfl
set_option maxRecDepth 100000 in
set_option maxHeartbeats 2000000 in
theorem ownT_any (v : Value) (l : List Tg) (w : World) (hl : l.length ≤ 1000000) (hv : Rw 6 tV w v l) :
 Calls Tryz.prog 30 #[v] w fun r w' => (∃ u, r = .returned u ∧ OwR w' w.heap.size 151 6 tV u l) ∧ Below w.heap.size w w' := by
 obtain ⟨i0, hi, hz0, hz1, hz2⟩ := info_parts Tryz.infZbipoleref01Telegram
 have HV := Lib.hid hv
 obtain ⟨va, vc, rfl, hvc⟩ := hv.slice
 obtain ⟨N, hN⟩ : ∃ N, N = l.length := ⟨_, rfl⟩
 rw [← hN] at HV hl ⊢
 have HN := Lib.hid hN
 clear hv hN hvc
 go_enter Tryz.func30, Tryz.ntmps30
 go_wp2_with fail
 go_loopw [3, 8] (fun u i wr => ∃ k : Nat, k ≤ N ∧ i = .int .i64 k ∧ wr.ownsRow w.heap.size 151 6 u k ((l.take k).flatMap tV) ∧ Below w.heap.size w wr) (fun _ i _ => N - (intOf i).toNat)
 case atStart => exact ⟨0, by omega, rfl, World.ownsRow_nil _ _ _ _, Below.refl _ _⟩
 case round =>
  obtain ⟨k, hk, rfl, hown, hbel⟩ := hrel
  by_cases hlt : k < N
  ·obtain ⟨x, hx⟩ : ∃ x, l[k]? = some x := ⟨_, List.getElem?_eq_getElem (by rw [← HN.out]; exact hlt)⟩
   obtain ⟨b, off, cp, he, hcs⟩ := (HV.out.carry hbel).head (by rw [← HN.out]; omega)
   simp only [Value.slice.injEq] at he
   obtain ⟨rfl, -, rfl⟩ := he
   obtain ⟨c0, c1, c2, c3, c4, c5⟩ := rw6 (hcs k x hx) (show tV x = [.int .i64 x.1, .int .i64 x.2.1, .int .i64 x.2.2.1, .int .i64 x.2.2.2.1, .int .i64 x.2.2.2.2.1, .int .i64 x.2.2.2.2.2] from rfl)
   have hts : (l.take (k + 1)).flatMap tV = (l.take k).flatMap tV ++ [.int .i64 x.1, .int .i64 x.2.1, .int .i64 x.2.2.1, .int .i64 x.2.2.2.1, .int .i64 x.2.2.2.2.1, .int .i64 x.2.2.2.2.2] := by rw [List.take_add_one, hx, List.flatMap_append]; simp [tV]
   obtain ⟨y0, hy0⟩ : ∃ y, y = x.1 := ⟨_, rfl⟩
   obtain ⟨y1, hy1⟩ : ∃ y, y = x.2.1 := ⟨_, rfl⟩
   obtain ⟨y2, hy2⟩ : ∃ y, y = x.2.2.1 := ⟨_, rfl⟩
   obtain ⟨y3, hy3⟩ : ∃ y, y = x.2.2.2.1 := ⟨_, rfl⟩
   obtain ⟨y4, hy4⟩ : ∃ y, y = x.2.2.2.2.1 := ⟨_, rfl⟩
   obtain ⟨y5, hy5⟩ : ∃ y, y = x.2.2.2.2.2 := ⟨_, rfl⟩
   rw [← hy0] at c0
   rw [← hy1] at c1
   rw [← hy2] at c2
   rw [← hy3] at c3
   rw [← hy4] at c4
   rw [← hy5] at c5
   rw [← hy0, ← hy1, ← hy2, ← hy3, ← hy4, ← hy5] at hts
   have HTS := Lib.hid hts
   have hdk : (k : Int) < (N : Int) := by omega
   have hsz := hbel.size
   have kb := below_new wr (.cells #[.int .i64 y0, .int .i64 y1, .int .i64 y2, .int .i64 y3, .int .i64 y4, .int .i64 y5] 112)
   have kn := bthen kb (below_new (wr.alloc (.cells #[.int .i64 y0, .int .i64 y1, .int .i64 y2, .int .i64 y3, .int .i64 y4, .int .i64 y5] 112)) (.cells #[.int .i64 y0, .int .i64 y1, .int .i64 y2, .int .i64 y3, .int .i64 y4, .int .i64 y5] 151))
   obtain ⟨oa, oc, rfl⟩ := own_slice hown
   clear hcs hx hts hy0 hy1 hy2 hy3 hy4 hy5
   go_wp2_with (at_builtin; refine wpList_append_own _ rfl _ _ 52 rfl w.heap.size 151 i0 (.agg #[.int .i64 0, .int .i64 0, .int .i64 0, .int .i64 0, .int .i64 0, .int .i64 0]) 6 48 Tryz.undZbipoleref01Telegram hi hz0 hz1 hz2 rfl (by decide) _ _ _ rfl (own_below hown kn) ⟨wr.heap.size + 1, 0, none⟩ 1 1 [.int .i64 y0, .int .i64 y1, .int .i64 y2, .int .i64 y3, .int .i64 y4, .int .i64 y5] rfl rfl (fun j u hj => by have h9 := (Blk.new (wr.alloc (.cells #[.int .i64 y0, .int .i64 y1, .int .i64 y2, .int .i64 y3, .int .i64 y4, .int .i64 y5] 112)) 151 [.int .i64 y0, .int .i64 y1, .int .i64 y2, .int .i64 y3, .int .i64 y4, .int .i64 y5]).news j u hj; rw [World.size_alloc] at h9; exact h9) (by simp [Value.oneCell']) (by unfold maxLen; omega) (by omega) (by have := kn.size; omega) ?_; intro v9 w1 hown9 hgrow9 _)
   have hbel9 := (bthen hbel kn).trans (below_grow (own_below hown kn) (by have := kn.size; omega) hgrow9)
   rw [← HTS.out] at hown9
   clear hown hgrow9 kn kb hbel c0 c1 c2 c3 c4 c5
   go_wp2
   go_roundw
   case rel => exact ⟨k + 1, by omega, by go_num, hown9, hbel9⟩
   case measure => simp [intOf]; omega
  ·obtain rfl : k = N := by omega
   have hout : OwR wr w.heap.size 151 6 tV u3 l := by
    unfold OwR
    rw [← HN.out]
    rw [List.take_of_length_le (by rw [HN.out]; exact Nat.le_refl _)] at hown
    exact hown
   have d0 : ¬ ((k : Int) < (k : Int)) := by omega
   clear hown
   go_wp2
   go_ret
   exact ⟨⟨_, rfl, hout⟩, hbel⟩
set_option maxRecDepth 100000 in
set_option maxHeartbeats 2000000 in
theorem telegramsL_any (v : Value) (l : List Tg) (w : World) (hl : l.length ≤ 1000000) (hv : Rw 6 tV w v l) :
 Calls Tryz.prog 25 #[v] w fun r w' => (∃ u, r = .returned u ∧ OwR w' w.heap.size 112 6 tV u l) ∧ Below w.heap.size w w' := by
 obtain ⟨i0, hi, hz0, hz1, hz2⟩ := info_parts Tryz.infZphasorTelegram
 have HV := Lib.hid hv
 obtain ⟨va, vc, rfl, hvc⟩ := hv.slice
 obtain ⟨N, hN⟩ : ∃ N, N = l.length := ⟨_, rfl⟩
 rw [← hN] at HV hl ⊢
 have HN := Lib.hid hN
 clear hv hN hvc
 go_enter Tryz.func25, Tryz.ntmps25
 go_wp2_with fail
 go_loopw [3, 8] (fun u i wr => ∃ k : Nat, k ≤ N ∧ i = .int .i64 k ∧ wr.ownsRow w.heap.size 112 6 u k ((l.take k).flatMap tV) ∧ Below w.heap.size w wr) (fun _ i _ => N - (intOf i).toNat)
 case atStart => exact ⟨0, by omega, rfl, World.ownsRow_nil _ _ _ _, Below.refl _ _⟩
 case round =>
  obtain ⟨k, hk, rfl, hown, hbel⟩ := hrel
  by_cases hlt : k < N
  ·obtain ⟨x, hx⟩ : ∃ x, l[k]? = some x := ⟨_, List.getElem?_eq_getElem (by rw [← HN.out]; exact hlt)⟩
   obtain ⟨b, off, cp, he, hcs⟩ := (HV.out.carry hbel).head (by rw [← HN.out]; omega)
   simp only [Value.slice.injEq] at he
   obtain ⟨rfl, -, rfl⟩ := he
   obtain ⟨c0, c1, c2, c3, c4, c5⟩ := rw6 (hcs k x hx) (show tV x = [.int .i64 x.1, .int .i64 x.2.1, .int .i64 x.2.2.1, .int .i64 x.2.2.2.1, .int .i64 x.2.2.2.2.1, .int .i64 x.2.2.2.2.2] from rfl)
   have hts : (l.take (k + 1)).flatMap tV = (l.take k).flatMap tV ++ [.int .i64 x.1, .int .i64 x.2.1, .int .i64 x.2.2.1, .int .i64 x.2.2.2.1, .int .i64 x.2.2.2.2.1, .int .i64 x.2.2.2.2.2] := by rw [List.take_add_one, hx, List.flatMap_append]; simp [tV]
   obtain ⟨y0, hy0⟩ : ∃ y, y = x.1 := ⟨_, rfl⟩
   obtain ⟨y1, hy1⟩ : ∃ y, y = x.2.1 := ⟨_, rfl⟩
   obtain ⟨y2, hy2⟩ : ∃ y, y = x.2.2.1 := ⟨_, rfl⟩
   obtain ⟨y3, hy3⟩ : ∃ y, y = x.2.2.2.1 := ⟨_, rfl⟩
   obtain ⟨y4, hy4⟩ : ∃ y, y = x.2.2.2.2.1 := ⟨_, rfl⟩
   obtain ⟨y5, hy5⟩ : ∃ y, y = x.2.2.2.2.2 := ⟨_, rfl⟩
   rw [← hy0] at c0
   rw [← hy1] at c1
   rw [← hy2] at c2
   rw [← hy3] at c3
   rw [← hy4] at c4
   rw [← hy5] at c5
   rw [← hy0, ← hy1, ← hy2, ← hy3, ← hy4, ← hy5] at hts
   have HTS := Lib.hid hts
   have hdk : (k : Int) < (N : Int) := by omega
   have hsz := hbel.size
   have kb := below_new wr (.cells #[.int .i64 y0, .int .i64 y1, .int .i64 y2, .int .i64 y3, .int .i64 y4, .int .i64 y5] 151)
   have kn := bthen kb (below_new (wr.alloc (.cells #[.int .i64 y0, .int .i64 y1, .int .i64 y2, .int .i64 y3, .int .i64 y4, .int .i64 y5] 151)) (.cells #[.int .i64 y0, .int .i64 y1, .int .i64 y2, .int .i64 y3, .int .i64 y4, .int .i64 y5] 112))
   obtain ⟨oa, oc, rfl⟩ := own_slice hown
   clear hcs hx hts hy0 hy1 hy2 hy3 hy4 hy5
   go_wp2_with (at_builtin; refine wpList_append_own _ rfl _ _ 54 rfl w.heap.size 112 i0 (.agg #[.int .i64 0, .int .i64 0, .int .i64 0, .int .i64 0, .int .i64 0, .int .i64 0]) 6 48 Tryz.undZphasorTelegram hi hz0 hz1 hz2 rfl (by decide) _ _ _ rfl (own_below hown kn) ⟨wr.heap.size + 1, 0, none⟩ 1 1 [.int .i64 y0, .int .i64 y1, .int .i64 y2, .int .i64 y3, .int .i64 y4, .int .i64 y5] rfl rfl (fun j u hj => by have h9 := (Blk.new (wr.alloc (.cells #[.int .i64 y0, .int .i64 y1, .int .i64 y2, .int .i64 y3, .int .i64 y4, .int .i64 y5] 151)) 112 [.int .i64 y0, .int .i64 y1, .int .i64 y2, .int .i64 y3, .int .i64 y4, .int .i64 y5]).news j u hj; rw [World.size_alloc] at h9; exact h9) (by simp [Value.oneCell']) (by unfold maxLen; omega) (by omega) (by have := kn.size; omega) ?_; intro v9 w1 hown9 hgrow9 _)
   have hbel9 := (bthen hbel kn).trans (below_grow (own_below hown kn) (by have := kn.size; omega) hgrow9)
   rw [← HTS.out] at hown9
   clear hown hgrow9 kn kb hbel c0 c1 c2 c3 c4 c5
   go_wp2
   go_roundw
   case rel => exact ⟨k + 1, by omega, by go_num, hown9, hbel9⟩
   case measure => simp [intOf]; omega
  ·obtain rfl : k = N := by omega
   have hout : OwR wr w.heap.size 112 6 tV u3 l := by
    unfold OwR
    rw [← HN.out]
    rw [List.take_of_length_le (by rw [HN.out]; exact Nat.le_refl _)] at hown
    exact hown
   have d0 : ¬ ((k : Int) < (k : Int)) := by omega
   clear hown
   go_wp2
   go_ret
   exact ⟨⟨_, rfl, hout⟩, hbel⟩
end
section
set_option linter.unusedSimpArgs false
set_option linter.unusedVariables false
open Go.RowKit
def shortT (n : Nat) : Bool := decide (n ≤ 24) || decide (n = 1025)
theorem ShortTelegrams_any (a : Option Addr) (n c : Nat) (w : World) : Calls Tryz.prog 22 #[.slice a n c] w fun r w' => r = .returned (.bool (shortT n)) ∧ w = w' := by
 by_cases h1 : n ≤ 24
 ·have e : shortT n = true := by unfold shortT; simp [h1]
  have d1 : (n : Int) ≤ 24 := by omega
  rw [e]
  clear e h1
  go_enter Tryz.func22, Tryz.ntmps22
  go_wp2
  go_ret
  exact ⟨rfl, rfl⟩
 ·have d1 : ¬ (n : Int) ≤ 24 := by omega
  by_cases h2 : n = 1025
  ·subst h2
   go_enter Tryz.func22, Tryz.ntmps22
   go_wp2
   go_ret
   exact ⟨rfl, rfl⟩
  ·have e : shortT n = false := by unfold shortT; simp [h1, h2]
   have d2 : ((n : Int) == 1025) = false := by rw [beq_eq_false_iff_ne]; omega
   rw [e]
   clear e h1 h2
   go_enter Tryz.func22, Tryz.ntmps22
   go_wp2
   go_ret
   exact ⟨rfl, rfl⟩
/-- the error of a telegram, as the reference finds it. -/
def tgRl (t : Tg) : List Int := [withinE t.1 0 255, withinE t.2.1 0 65535, withinE t.2.2.1 (-32768) 32767, withinE t.2.2.2.1 (-32768) 32767, withinE t.2.2.2.2.1 (-32768) 32767, withinE t.2.2.2.2.2 (-32768) 32767]
theorem tgRl_eq (t : Tg) : firstE (tgRl t) = tgE t := by
 unfold tgRl tgE tgA tgB tgL
 simp only [firstE, List.map_cons, List.map_nil]
 by_cases h1 : withinE t.1 0 255 = 0
 ·by_cases h2 : withinE t.2.1 0 65535 = 0
  ·simp [h1, h2]
  ·simp [h1, h2]
 ·simp [h1]
end
section
set_option linter.unusedSimpArgs false
set_option linter.unusedVariables false
open Go.RowKit
theorem and4095 (x : Int) : bits .and .i64 x 4095 = x % 4096 := by
 show IntKind.i64.wrap ((BitVec.ofInt 64 x &&& BitVec.ofInt 64 4095).toNat : Nat) = _
 have e2 : BitVec.ofInt 64 4095 = BitVec.ofNat 64 4095 := rfl
 rw [e2, BitVec.toNat_and, BitVec.toNat_ofNat, BitVec.toNat_ofInt]
 rw [show (4095 % 2 ^ 64 : Nat) = 2 ^ 12 - 1 by decide, Nat.and_two_pow_sub_one_eq_mod]
 have h : ((x % ((2 ^ 64 : Nat) : Int)).toNat % 2 ^ 12 : Nat) = (x % 4096).toNat := by omega
 rw [h, IntWalk.i64_in _ (by omega)]; omega
theorem rcBad_eq (t0 t1 t2 t3 t4 t5 : Int) (h : -32768 ≤ t2 ∧ t2 ≤ 32767) : rcBad (t0, t1, t2, t3, t4, t5) = (withinE t2 0 4095 != 0 || t3 != 0 || t4 != 0 || t5 != 0) := by
 unfold rcBad tgL
 rw [and4095]
 have hw : (withinE t2 0 4095 = 0) ↔ (t2 = t2 % 4096) := by rw [withinE_zero]; omega
 rw [Bool.eq_iff_iff]
 simp only [Bool.not_eq_true', beq_eq_false_iff_ne, ne_eq, List.cons.injEq, and_true, Bool.or_eq_true, bne_iff_ne]
 rw [← hw]
 by_cases h1 : withinE t2 0 4095 = 0 <;> by_cases h2 : t3 = 0 <;> by_cases h3 : t4 = 0 <;> by_cases h4 : t5 = 0 <;> simp [h1, h2, h3, h4]
/-- what the reference's Received says of valid telegrams. -/
def rrE (src start : Int) (l : List Tg) : Int := if rcE2 src start l = 0 then (if 256 < (rcK src start l l.length).1.length then 5 else 0) else rcE2 src start l
def rrR (src start : Int) (l : List Tg) : Lg := if rrE src start l = 0 then (src, (rcK src start l l.length).1) else (0, [])
theorem rcE_rr {src start : Int} {l : List Tg} (h : rcE1 src start l = 0) : rcE src start l = rrE src start l ∧ rcR src start l = rrR src start l := by
 have e : rcE src start l = rrE src start l := by unfold rcE rrE; rw [if_pos h]
 exact ⟨e, by unfold rcR rrR; rw [e]⟩
theorem rcE_no {src start : Int} {l : List Tg} (h : rcE1 src start l ≠ 0) : rcE src start l = rcE1 src start l ∧ rcR src start l = (0, []) := by
 have e : rcE src start l = rcE1 src start l := by unfold rcE; rw [if_neg h]
 exact ⟨e, by unfold rcR; rw [e, if_neg h]⟩
end
end Go.Proofs.YtgdkomgfalkihaaGreatDoor

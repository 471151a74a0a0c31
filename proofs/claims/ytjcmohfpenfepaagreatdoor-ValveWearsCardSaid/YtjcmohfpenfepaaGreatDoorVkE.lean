/- A switch from one log to another one at a change-over (plain facts). -/
import Derived.Test.YtjcmohfpenfepaaGreatDoorVeB
import Derived.Test.YtjcmohfpenfepaaGreatDoorVcA
import Derived.Test.YtjcmohfpenfepaaGreatDoorVeE
import Derived.Test.YtjcmohfpenfepaaGreatDoorVdB
import Derived.Test.YtjcmohfpenfepaaGreatDoorVaH
import Derived.Test.YtjcmohfpenfepaaGreatDoorVhC
import Derived.Test.YtjcmohfpenfepaaGreatDoorVkD
namespace Go.Proofs.YtjcmohfpenfepaaGreatDoor
section
set_option linter.unusedSimpArgs false
set_option linter.unusedVariables false
open Go.RowKit
theorem trOk_of {l : List P2} (hl : l.length ≤ 256) (hr : ∀ x ∈ l, (0 ≤ x.1 ∧ x.1 ≤ 100000) ∧ (0 ≤ x.2 ∧ x.2 ≤ 4095)) (hs : l.Pairwise (fun x y => x.1 < y.1)) : TrOk l :=
 ⟨hl, fun k x hx => hr x (List.mem_of_getElem? hx), fun k x y hx hy => by
  obtain ⟨h1, rfl⟩ := List.getElem?_eq_some_iff.1 hx
  obtain ⟨h2, rfl⟩ := List.getElem?_eq_some_iff.1 hy
  rw [List.pairwise_iff_getElem] at hs
  exact hs k (k + 1) h1 h2 (by omega)⟩
end
section
set_option linter.unusedSimpArgs false
set_option linter.unusedVariables false
open Go.RowKit
def hasI (l : List Int) (n : Int) : Bool := l.contains n
theorem HasInt_any (v : Value) (l : List Int) (n : Int) (w : World) (hl : l.length ≤ 1000000000) (hv : Ints w v l) :
 Calls Tryz.prog 16 #[v, .int .i64 n] w fun r w' => r = .returned (.bool (hasI l n)) ∧ w = w' := by
 obtain ⟨a, cap, rfl, hc, hv⟩ := hv
 rcases Nat.eq_zero_or_pos l.length with h0 | h0
 ·obtain rfl : l = [] := List.length_eq_zero_iff.1 h0
  go_enter Tryz.func16, Tryz.ntmps16
  go_wp2
  go_loop [5] (fun i => i = .int .i64 0) (fun _ => 0)
  case atStart => rfl
  case round =>
   obtain rfl := hrel
   go_wp2
   go_ret
   exact ⟨rfl, rfl⟩
 ·obtain ⟨b, off, rfl, hcs⟩ := hv h0
  clear hv
  go_enter Tryz.func16, Tryz.ntmps16
  go_wp2
  go_loop [5] (fun i => ∃ k : Nat, k ≤ l.length ∧ i = .int .i64 k ∧ hasI (l.take k) n = false) (fun i => l.length - (intOf i).toNat)
  case atStart => exact ⟨0, by omega, rfl, rfl⟩
  case round =>
   obtain ⟨k, hk, rfl, hf⟩ := hrel
   by_cases hlt : k < l.length
   ·have hcell := hcs k hlt
    obtain ⟨x, hx⟩ : ∃ x, l[k]? = some x := ⟨_, List.getElem?_eq_getElem hlt⟩
    rw [hx] at hcell
    simp only [Option.getD_some] at hcell
    have HX := Lib.hid hx
    have HF := Lib.hid hf
    clear hcs hx hf
    by_cases hz : x = n
    ·have HR := Lib.hid (show hasI l n = true by rw [hasI, List.contains_iff_mem, ← hz]; exact List.mem_of_getElem? HX.out)
     subst hz
     go_wp2
     go_ret
     exact ⟨by rw [HR.out]; rfl, rfl⟩
    ·have HR := Lib.hid (show hasI (l.take (k + 1)) n = false by
      have := HF.out
      unfold hasI at this ⊢
      rw [List.take_add_one, HX.out]
      simp at this ⊢
      exact ⟨this, fun h => hz h.symm⟩)
     go_wp2
     go_round
     case rel => exact ⟨k + 1, by omega, by go_num, HR.out⟩
     case measure => simp [intOf]; omega
   ·obtain rfl : k = l.length := by omega
    rw [List.take_length] at hf
    have HR := Lib.hid hf
    clear hf
    go_wp2
    go_ret
    exact ⟨by rw [HR.out]; rfl, rfl⟩
end
section
set_option linter.unusedSimpArgs false
set_option linter.unusedVariables false
open Go.RowKit
theorem swS_congr {l m : List P2} {v v' : Nat} : ∀ {k : Nat}, (∀ i, i < k → bitV (chgV l i) v = bitV (chgV m i) v') → swS l v k = swS m v' k
 | 0, _ => rfl
 | k + 1, h => by
   simp only [swS]
   rw [swS_congr (k := k) (fun i hi => h i (by omega)), h k (by omega)]
theorem swS_zero {l : List P2} {v : Nat} : ∀ {k : Nat}, (∀ i, i < k → bitV (chgV l i) v = 0) → swS l v k = 0
 | 0, _ => rfl
 | k + 1, h => by
   simp only [swS]
   rw [swS_zero (k := k) (fun i hi => h i (by omega)), h k (by omega)]; rfl
theorem chg_bit {l : List P2} (hl : ∀ x ∈ l, 0 ≤ x.2 ∧ x.2 ≤ 4095) {i : Nat} {x y : P2} (hx : l[i]? = some x) (hy : l[i + 1]? = some y) (v : Nat) :
 bitV (chgV l i) v = if hasR y.2 v != hasR x.2 v then 1 else 0 := by
 unfold chgV
 rw [hx, hy]
 exact bitV_xor (hl y (List.mem_of_getElem? hy)) (hl x (List.mem_of_getElem? hx)) v
theorem chgL_at {l : List P2} {g : Int → Int} {i : Nat} {x : P2} (hx : l[i]? = some x) : (chgL l g)[i]? = some (x.1, g x.2) := by
 unfold chgL
 rw [List.getElem?_map, hx]; rfl
theorem chgL_rng {l : List P2} {g : Int → Int} (hg : ∀ x ∈ l, 0 ≤ g x.2 ∧ g x.2 ≤ 4095) : ∀ x ∈ chgL l g, 0 ≤ x.2 ∧ x.2 ≤ 4095 := by
 intro x hx
 unfold chgL at hx
 obtain ⟨y, hy, rfl⟩ := List.mem_map.1 hx
 exact hg y hy
/-- the switchings of a valve are those of its bits. -/
theorem sw_chg {l : List P2} {g : Int → Int} (hl : ∀ x ∈ l, 0 ≤ x.2 ∧ x.2 ≤ 4095) (hg : ∀ x ∈ l, 0 ≤ g x.2 ∧ g x.2 ≤ 4095) {v v' : Nat} (h : ∀ x ∈ l, hasR (g x.2) v = hasR x.2 v') :
 swS (chgL l g) v (l.length - 1) = swS l v' (l.length - 1) := by
 refine swS_congr (fun i hi => ?_)
 obtain ⟨x, hx⟩ : ∃ x, l[i]? = some x := ⟨_, List.getElem?_eq_getElem (by omega)⟩
 obtain ⟨y, hy⟩ : ∃ y, l[i + 1]? = some y := ⟨_, List.getElem?_eq_getElem (by omega)⟩
 rw [chg_bit (chgL_rng hg) (chgL_at hx) (chgL_at hy), chg_bit hl hx hy, h x (List.mem_of_getElem? hx), h y (List.mem_of_getElem? hy)]
theorem sw_off {l : List P2} (hl : ∀ x ∈ l, 0 ≤ x.2 ∧ x.2 ≤ 4095) {v : Nat} (h : ∀ x ∈ l, hasR x.2 v = false) : swS l v (l.length - 1) = 0 := by
 refine swS_zero (fun i hi => ?_)
 obtain ⟨x, hx⟩ : ∃ x, l[i]? = some x := ⟨_, List.getElem?_eq_getElem (by omega)⟩
 obtain ⟨y, hy⟩ : ∃ y, l[i + 1]? = some y := ⟨_, List.getElem?_eq_getElem (by omega)⟩
 rw [chg_bit hl hx hy, h x (List.mem_of_getElem? hx), h y (List.mem_of_getElem? hy)]; rfl
theorem chgV_take (l : List P2) {c i : Nat} (h : i + 1 < c) : chgV (l.take c) i = chgV l i := by
 unfold chgV
 rw [List.getElem?_take, List.getElem?_take, if_pos h, if_pos (by omega)]
theorem chgV_drop (l : List P2) (c i : Nat) : chgV (l.drop c) i = chgV l (c + i) := by
 unfold chgV
 rw [List.getElem?_drop, List.getElem?_drop]; rfl
theorem swS_add (l : List P2) (v c : Nat) : ∀ k, swS (l.drop c) v k + swS l v c = swS l v (c + k)
 | 0 => by simp [swS]
 | k + 1 => by
   have := swS_add l v c k
   rw [← Nat.add_assoc]
   simp only [swS]
   rw [chgV_drop]; omega
/-- a train cut in two: its switchings are those of the parts and of the cut. -/
theorem sw_cut (l : List P2) (v : Nat) {c : Nat} (h0 : 0 < c) (hc : c < l.length) :
 swS (l.take c) v ((l.take c).length - 1) + swS (l.drop c) v ((l.drop c).length - 1) + swS ((l.drop (c - 1)).take 2) v (((l.drop (c - 1)).take 2).length - 1) = swS l v (l.length - 1) := by
 rw [List.length_take, List.length_drop, List.length_take, List.length_drop]
 have e1 : swS (l.take c) v (min c l.length - 1) = swS l v (c - 1) := by
  rw [show min c l.length - 1 = c - 1 by omega]
  exact swS_congr (fun i hi => by rw [chgV_take l (by omega)])
 have e2 : swS ((l.drop (c - 1)).take 2) v (min 2 (l.length - (c - 1)) - 1) = bitV (chgV l (c - 1)) v := by
  rw [show min 2 (l.length - (c - 1)) - 1 = 1 by omega]
  show swS ((l.drop (c - 1)).take 2) v 0 + bitV (chgV ((l.drop (c - 1)).take 2) 0) v = _
  rw [chgV_take _ (by omega), chgV_drop]
  simp [swS]
 have e3 := swS_add l v c (l.length - c - 1)
 have e4 : swS l v c = swS l v (c - 1) + bitV (chgV l (c - 1)) v := by
  obtain ⟨d, rfl⟩ : ∃ d, c = d + 1 := ⟨c - 1, by omega⟩
  rfl
 rw [show c + (l.length - c - 1) = l.length - 1 by omega] at e3
 rw [e1, e2]
 omega
end
section
set_option linter.unusedSimpArgs false
set_option linter.unusedVariables false
open Go.RowKit
theorem wto_has {p : Int} (hp : 0 ≤ p) (v i : Nat) : hasR (wtoR p v) i = (hasR p i && !decide (i = v)) := by
 obtain ⟨P, rfl⟩ := Int.eq_ofNat_of_zero_le hp
 obtain ⟨P', h1, -, h3⟩ := wtoR_nat P v
 show hasR (wtoR (P : Int) v) i = (hasR (P : Int) i && _)
 rw [h1, hasR_nat, hasR_nat, h3]
theorem wto_rng {p : Int} (hp : 0 ≤ p ∧ p ≤ 4095) (v : Nat) : 0 ≤ wtoR p v ∧ wtoR p v ≤ 4095 := by
 obtain ⟨P, rfl⟩ := Int.eq_ofNat_of_zero_le hp.1
 obtain ⟨P', h1, h2, -⟩ := wtoR_nat P v
 show 0 ≤ wtoR (P : Int) v ∧ wtoR (P : Int) v ≤ 4095
 rw [h1]
 have := hp.2
 omega
/-- the bits after a spare valve has taken a failed one's place. -/
theorem sbt_nat {P f s : Nat} (hP : P ≤ 4095) (hs : s < 12) (hne : f ≠ s) (h : P.testBit s = false) : ∃ P' : Nat, sbtR f s (P : Int) = (P' : Int) ∧ P' ≤ 4095 ∧ ∀ i, P'.testBit i = if i = s then P.testBit f else (P.testBit i && !decide (i = f)) := by
 obtain ⟨A, h1, h2, h3⟩ := wtoR_nat P f
 have hA : A.testBit s = false := by rw [h3, h]; rfl
 unfold sbtR
 rw [h1, hasR_nat]
 by_cases hb : P.testBit f = true
 ·rw [if_pos hb]
  have ho := or_pow hA
  refine ⟨A ||| 2 ^ s, by rw [ho]; simp, ?_, fun i => ?_⟩
  ·have hA9 : A < 2 ^ 12 := by omega
   have hs9 : 2 ^ s < 2 ^ 12 := Nat.pow_lt_pow_right (by decide) hs
   have := Nat.or_lt_two_pow hA9 hs9
   omega
  ·rw [Nat.testBit_or, Nat.testBit_two_pow, h3]
   by_cases hi : i = s
   ·subst hi; simp [hb]
   ·have : ¬ s = i := fun e => hi e.symm
    simp [hi, this]
 ·have hb' : P.testBit f = false := by simpa using hb
  rw [if_neg hb]
  refine ⟨A, rfl, by omega, fun i => ?_⟩
  rw [h3]
  by_cases hi : i = s
  ·subst hi; simp [h, hb']
  ·simp [hi]
theorem sbt_has {p : Int} {f s : Nat} (hp : 0 ≤ p ∧ p ≤ 4095) (hs : s < 12) (hne : f ≠ s) (h : hasR p s = false) (i : Nat) : hasR (sbtR f s p) i = if i = s then hasR p f else (hasR p i && !decide (i = f)) := by
 obtain ⟨P, rfl⟩ := Int.eq_ofNat_of_zero_le hp.1
 have h' : P.testBit s = false := by rw [← hasR_nat]; exact h
 obtain ⟨P', h1, -, h3⟩ := sbt_nat (f := f) (by have := hp.2; omega) hs hne h'
 show hasR (sbtR f s (P : Int)) i = if i = s then hasR (P : Int) f else (hasR (P : Int) i && _)
 rw [h1, hasR_nat, hasR_nat, hasR_nat, h3]
theorem sbt_rng {p : Int} {f s : Nat} (hp : 0 ≤ p ∧ p ≤ 4095) (hs : s < 12) (hne : f ≠ s) (h : hasR p s = false) : 0 ≤ sbtR f s p ∧ sbtR f s p ≤ 4095 := by
 obtain ⟨P, rfl⟩ := Int.eq_ofNat_of_zero_le hp.1
 have h' : P.testBit s = false := by rw [← hasR_nat]; exact h
 obtain ⟨P', h1, h2, -⟩ := sbt_nat (f := f) (by have := hp.2; omega) hs hne h'
 show 0 ≤ sbtR f s (P : Int) ∧ sbtR f s (P : Int) ≤ 4095
 rw [h1]; omega
/-- and back. -/
theorem sbt_back {p : Int} {f s : Nat} (hp : 0 ≤ p ∧ p ≤ 4095) (hf : f < 12) (hs : s < 12) (hne : f ≠ s) (h : hasR p s = false) : sbtR s f (sbtR f s p) = p := by
 obtain ⟨P, rfl⟩ := Int.eq_ofNat_of_zero_le hp.1
 have h' : P.testBit s = false := by rw [← hasR_nat]; exact h
 obtain ⟨P', h1, h2, h3⟩ := sbt_nat (f := f) (by have := hp.2; omega) hs hne h'
 have hz : P'.testBit f = false := by
  rw [h3, if_neg hne]; simp
 obtain ⟨Q, g1, g2, g3⟩ := sbt_nat (f := s) h2 hf (fun e => hne e.symm) hz
 show sbtR s f (sbtR f s (P : Int)) = (P : Int)
 rw [h1, g1]
 congr 1
 apply Nat.eq_of_testBit_eq
 intro i
 rw [g3, h3, h3, if_pos rfl]
 by_cases hi : i = f
 ·subst hi; simp
 ·by_cases hj : i = s
  ·subst hj; simp [hi, h']
  ·simp [hi, hj]
end
section
set_option linter.unusedSimpArgs false
set_option linter.unusedVariables false
open Go.RowKit
theorem trOk_chg {l : List P2} {g : Int → Int} (h : TrOk l) (hg : ∀ x ∈ l, 0 ≤ g x.2 ∧ g x.2 ≤ 4095) : TrOk (chgL l g) := by
 refine trOk_of (by unfold chgL; rw [List.length_map]; exact h.len) (fun x hx => ?_) ?_
 ·unfold chgL at hx
  obtain ⟨y, hy, rfl⟩ := List.mem_map.1 hx
  exact ⟨(h.mem hy).1, hg y hy⟩
 ·unfold chgL
  rw [List.pairwise_map]
  exact h.sorted
theorem chgL_len (l : List P2) (g : Int → Int) : (chgL l g).length = l.length := by unfold chgL; rw [List.length_map]
theorem pow_rng {s : Nat} (hs : s < 12) : 0 ≤ (2 : Int) ^ s ∧ (2 : Int) ^ s ≤ 4095 := by
 have hb : (2 : Nat) ^ s ≤ 2 ^ 11 := Nat.pow_le_pow_right (by decide) (by omega)
 have e2 : (2 : Int) ^ s = ((2 ^ s : Nat) : Int) := by simp
 exact ⟨Int.le_of_lt (pow_pos2 s), by rw [e2]; exact Int.le_trans (Int.ofNat_le.2 hb) (by decide)⟩
theorem wear_byp {l : List P2} (h : TrOk l) {s : Nat} (hs : s < 12) : bypE l (2 ^ s) = 0 ∧ bypR l (2 ^ s) = chgL l (fun p => wtoR p s) := by
 have e : bypE l (2 ^ s) = 0 := by
  unfold bypE
  rw [trainE_of_ok h, withinE_zero.2 (pow_rng hs)]; rfl
 refine ⟨e, ?_⟩
 unfold bypR
 rw [if_pos e]
 unfold chgL
 apply List.map_congr_left
 intro x hx
 rw [byp_one (h.mem hx).2 hs]
theorem byp_ok {l : List P2} (h : TrOk l) (s : Nat) : TrOk (chgL l (fun p => wtoR p s)) := trOk_chg h (fun x hx => wto_rng (h.mem hx).2 s)
theorem byp_off {l : List P2} (h : TrOk l) (s : Nat) : ∀ x ∈ chgL l (fun p => wtoR p s), hasR x.2 s = false := by
 intro x hx
 unfold chgL at hx
 obtain ⟨y, hy, rfl⟩ := List.mem_map.1 hx
 show hasR (wtoR y.2 s) s = false
 rw [wto_has (h.mem hy).2.1]; simp
theorem wear_fewer {l : List P2} (h : TrOk l) (s v : Nat) : swS (chgL l (fun p => wtoR p s)) v (l.length - 1) = if v = s then 0 else swS l v (l.length - 1) := by
 by_cases hv : v = s
 ·subst hv
  rw [if_pos rfl]
  have := sw_off (v := v) (fun x hx => ((byp_ok h v).mem hx).2) (byp_off h v)
  rwa [chgL_len] at this
 ·rw [if_neg hv]
  exact sw_chg (fun x hx => (h.mem hx).2) (fun x hx => wto_rng (h.mem hx).2 s) (fun x hx => by
   show hasR (wtoR x.2 s) v = _
   rw [wto_has (h.mem hx).2.1]; simp [hv])
theorem wear_sub {y : List P2} (h : TrOk y) {f s : Nat} (hf : f < 12) (hs : s < 12) (hne : f ≠ s) (hoff : ∀ x ∈ y, hasR x.2 s = false) : substE y f s = 0 ∧ substR y f s = chgL y (sbtR f s) := by
 have h0 : subE y f s = 0 := by
  unfold subE
  rw [trainE_of_ok h, withinE_zero.2 (by omega), withinE_zero.2 (by omega), show ((f : Int) == (s : Int)) = false by rw [beq_eq_false_iff_ne]; omega]; rfl
 have hany : (y.any fun x => subB s x.2) = false := by
  rw [List.any_eq_false]
  intro x hx
  rw [subB_has (h.mem hx).2]
  have := hoff x hx
  rw [show ((s : Int)).toNat = s from rfl, this]; decide
 have e : substE y f s = 0 := by unfold substE; rw [if_pos h0, hany]; rfl
 refine ⟨e, ?_⟩
 unfold substR
 rw [if_pos e]
 unfold chgL
 apply List.map_congr_left
 intro x hx
 rw [subV_eq (h.mem hx).2 (by omega) (by omega) (by omega) (by rw [show ((s : Int)).toNat = s from rfl]; exact hoff x hx)]
 rfl
theorem sbt_ok {y : List P2} (h : TrOk y) {f s : Nat} (hs : s < 12) (hne : f ≠ s) (hoff : ∀ x ∈ y, hasR x.2 s = false) : TrOk (chgL y (sbtR f s)) := trOk_chg h (fun x hx => sbt_rng (h.mem hx).2 hs hne (hoff x hx))
theorem sbt_off {y : List P2} (h : TrOk y) {f s : Nat} (hs : s < 12) (hne : f ≠ s) (hoff : ∀ x ∈ y, hasR x.2 s = false) : ∀ x ∈ chgL y (sbtR f s), hasR x.2 f = false := by
 intro x hx
 unfold chgL at hx
 obtain ⟨z, hz, rfl⟩ := List.mem_map.1 hx
 show hasR (sbtR f s z.2) f = false
 rw [sbt_has (h.mem hz).2 hs hne (hoff z hz), if_neg hne]; simp
theorem wear_now {y : List P2} (h : TrOk y) {f s : Nat} (hs : s < 12) (hne : f ≠ s) (hoff : ∀ x ∈ y, hasR x.2 s = false) :
 swS (chgL y (sbtR f s)) f (y.length - 1) = 0 ∧ swS (chgL y (sbtR f s)) s (y.length - 1) = swS y f (y.length - 1) := by
 constructor
 ·have := sw_off (v := f) (fun x hx => ((sbt_ok h hs hne hoff).mem hx).2) (sbt_off h hs hne hoff)
  rwa [chgL_len] at this
 ·exact sw_chg (fun x hx => (h.mem hx).2) (fun x hx => sbt_rng (h.mem hx).2 hs hne (hoff x hx)) (fun x hx => by
   rw [sbt_has (h.mem hx).2 hs hne (hoff x hx), if_pos rfl])
theorem wear_back {y : List P2} (h : TrOk y) {f s : Nat} (hf : f < 12) (hs : s < 12) (hne : f ≠ s) (hoff : ∀ x ∈ y, hasR x.2 s = false) :
 substE (chgL y (sbtR f s)) s f = 0 ∧ substR (chgL y (sbtR f s)) s f = y := by
 obtain ⟨e, h2⟩ := wear_sub (sbt_ok h hs hne hoff) hs hf (fun e => hne e.symm) (sbt_off h hs hne hoff)
 refine ⟨e, h2.trans ?_⟩
 unfold chgL
 rw [List.map_map]
 conv => rhs; rw [← List.map_id y]
 apply List.map_congr_left
 intro x hx
 show (x.1, sbtR s f (sbtR f s x.2)) = x
 rw [sbt_back (h.mem hx).2 hf hs hne (hoff x hx)]
end
section
set_option linter.unusedSimpArgs false
set_option linter.unusedVariables false
open Go.RowKit Flp
theorem worK_has (xs : List Nat) (x : Nat) {k v : Nat} (h : v < k) : hasI (worK xs x k) (v : Int) = gtF (xs[v]?.getD 0) x := by
 rw [Bool.eq_iff_iff]
 unfold hasI worK
 rw [List.contains_iff_mem, List.mem_map]
 constructor
 ·rintro ⟨a, ha, e⟩
  have : a = v := by omega
  subst this
  exact (List.mem_filter.1 ha).2
 ·intro hg
  exact ⟨v, List.mem_filter.2 ⟨List.mem_range.2 h, hg⟩, rfl⟩
theorem wearK_at (l : List P2) (ws : List Int) {i : Nat} (h : i < 12) : (wearK l ws 12)[i]? = some (wq (usedV l ws i)) := by
 unfold wearK
 rw [upto_get _ _ _ h, if_pos h]
theorem used_rng {l : List P2} {ws : List Int} (hl : l.length ≤ 12) (hw : ∀ n ∈ ws, 0 ≤ n ∧ n ≤ 1024) (i : Nat) : 0 ≤ usedV l ws i ∧ usedV l ws i ≤ 16384 := by
 unfold usedV
 have h1 := swS_rng l i (l.length - 1)
 have h2 : 0 ≤ (ws[i]?.getD 0) ∧ (ws[i]?.getD 0) ≤ 1024 := by
  cases e : ws[i]? with
  | none => simp
  | some x => exact hw x (List.mem_of_getElem? e)
 generalize (ws[i]?.getD 0) = x at h2 ⊢
 generalize swS l i (l.length - 1) = s at h1 ⊢
 have hs : s ≤ 11 := by omega
 have a := Int.mul_nonneg h1.1 h2.1
 have b := Int.mul_le_mul hs h2.2 h2.1 (by decide)
 omega
theorem wears_ok {l : List P2} {ws : List Int} (h : TrOk l) (hl : l.length ≤ 12) (hw : eachE wgG ws = 0) :
 wearE l ws = 0 ∧ wearR l ws = wearK l ws 12 := by
 have h1 : wear1E l ws = 0 := by
  unfold wear1E
  rw [trainE_of_ok h, hw]; rfl
 have hb : wearB l ws = false := by
  unfold wearB
  rw [List.any_eq_false]
  intro i _
  have := used_rng hl (wgG_ok hw) i
  simp only [decide_eq_true_eq]; omega
 have e : wearE l ws = 0 := by
  unfold wearE
  rw [if_pos h1, hb]; rfl
 exact ⟨e, by unfold wearR; rw [if_pos e]⟩
theorem worn_ok {l : List P2} {ws : List Int} (hl : l.length ≤ 12) (hw : eachE wgG ws = 0) (f : Nat) :
 worE (wearK l ws 12) (wq (usedV l ws f)) = 0 ∧ worR (wearK l ws 12) (wq (usedV l ws f)) = worK (wearK l ws 12) (wq (usedV l ws f)) 12 := by
 have e : worE (wearK l ws 12) (wq (usedV l ws f)) = 0 := by
  unfold worE
  have hz : ∀ x ∈ (wearK l ws 12).map smpE ++ [smpE (wq (usedV l ws f))], x = 0 := by
   intro x hx
   rcases List.mem_append.1 hx with hx | hx
   ·obtain ⟨q, hq, rfl⟩ := List.mem_map.1 hx
    obtain ⟨i, hi⟩ := List.getElem?_of_mem hq
    have hi12 : i < 12 := by
     have := (List.getElem?_eq_some_iff.1 hi).1
     rw [wearK_len] at this; exact this
    rw [wearK_at l ws hi12] at hi
    simp only [Option.some.injEq] at hi
    subst hi
    exact (wq_six (used_rng hl (wgG_ok hw) i)).1
   ·rw [List.mem_singleton] at hx
    subst hx
    exact (wq_six (used_rng hl (wgG_ok hw) f)).1
  generalize (wearK l ws 12).map smpE ++ [smpE (wq (usedV l ws f))] = L at hz
  induction L with
  | nil => rfl
  | cons x L ih =>
    have := hz x (by simp)
    subst this
    exact (firstE_cons0.2 ⟨rfl, ih (fun y hy => hz y (by simp [hy]))⟩)
 exact ⟨e, by unfold worR; rw [if_pos e]⟩
/-- what the law asks of each valve. -/
theorem swL_at (l : List P2) {v : Nat} (h : v < 12) : (swL l)[v]? = some (swS l v (l.length - 1)) := upto_get _ _ _ h
theorem swOr_ok {l : List P2} (h : TrOk l) : swOr l = swL l := by unfold swOr; rw [if_pos (trainE_of_ok h)]
theorem trOk_take {l : List P2} (h : TrOk l) (c : Nat) : TrOk (l.take c) :=
 trOk_of (by rw [List.length_take]; have := h.len; omega) (fun x hx => h.mem (List.mem_of_mem_take hx)) (h.sorted.sublist (List.take_sublist c l))
theorem trOk_drop {l : List P2} (h : TrOk l) (c : Nat) : TrOk (l.drop c) :=
 trOk_of (by rw [List.length_drop]; have := h.len; omega) (fun x hx => h.mem (List.mem_of_mem_drop hx)) (h.sorted.sublist (List.drop_sublist c l))
end
end Go.Proofs.YtjcmohfpenfepaaGreatDoor

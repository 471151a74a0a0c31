/- Plain facts of floats: a word of single or double precision, its value in units of 2 ^ -2000; what is written exactly; multiplication by 16, whole parts, comparison; samples and levels; what is no number. No function of the program in sight. -/
import Derived.Laws.FloatArith
import Derived.Laws.NewFold
namespace Go.Proofs.YtpmngcffkhbofaaGreatDoor.Flp
open Ieee
theorem signed_eq (s : Bool) (m up : Nat) : signed s m up = (if s then -1 else 1) * ((m : Int) * 2 ^ up) := by
 unfold signed
 rw [Nat.shiftLeft_eq]
 cases s <;> simp
theorem signed_shift (s : Bool) (m a b : Nat) : signed s m (a + b) = signed s m a * 2 ^ b := by
 rw [signed_eq, signed_eq, Int.pow_add]
 rw [Int.mul_assoc, Int.mul_assoc]
/-- the value of a number, in units of 2 ^ -2000. -/
def valU (s : Bool) (m : Nat) (e : Int) : Int := signed s m (e + 2000).toNat
theorem pow_pos2 (k : Nat) : (0 : Int) < 2 ^ k := Int.pow_pos (by decide)
theorem compare_scale (a b k : Int) (hk : 0 < k) : compare (a * k) (b * k) = compare a b := by
 have h1 : a * k < b * k ↔ a < b := Int.mul_lt_mul_right hk
 have h2 : a * k = b * k ↔ a = b := Int.mul_eq_mul_right_iff (by omega)
 simp only [compare, compareOfLessAndEq, h1, h2]
theorem order_val {s t : Bool} {m n : Nat} {i j : Int} (hi : -2000 ≤ i) (hj : -2000 ≤ j) : (Datum.number s m i).order (.number t n j) = some (compare (valU s m i) (valU t n j)) := by
 show some (compare (signed s m (i - min i j).toNat) (signed t n (j - min i j).toNat)) = _
 have e1 : (i + 2000).toNat = (i - min i j).toNat + (min i j + 2000).toNat := by omega
 have e2 : (j + 2000).toNat = (j - min i j).toNat + (min i j + 2000).toNat := by omega
 unfold valU
 rw [e1, e2, signed_shift, signed_shift, compare_scale _ _ _ (pow_pos2 _)]
theorem cut_zero_drop (w : Toward) (neg : Bool) (n : Nat) : w.cut neg n 0 = n := by
 unfold Toward.cut
 simp only [Nat.zero_min, Nat.shiftLeft_zero, Nat.div_one, Nat.mod_one]
 cases w <;> simp
theorem cut_exact (w : Toward) (neg : Bool) (q d : Nat) (hq : 0 < q) : w.cut neg (q * 2 ^ d) d = q := by
 have hd : d ≤ (q * 2 ^ d).log2 := by
  rw [Nat.le_log2 (Nat.ne_of_gt (Nat.mul_pos hq (Nat.two_pow_pos d)))]
  exact Nat.le_mul_of_pos_left _ hq
 have hm : min d ((q * 2 ^ d).log2 + 2) = d := by omega
 have hp : 0 < 2 ^ d := Nat.two_pow_pos d
 unfold Toward.cut
 rw [hm]
 simp only [Nat.shiftLeft_eq, Nat.one_mul, Nat.mul_div_cancel q hp, Nat.mul_mod_left]
 have h2 : ¬ 2 ^ d < 2 * 0 := by omega
 have h3 : (2 ^ d == 2 * 0) = false := by rw [beq_eq_false_iff_ne]; omega
 cases w <;> simp
/-- the two formats' facts. -/
structure Good (f : Format) where
 top : Int
 bin : f.binade = 2 ^ f.fractionBits
 inf : f.infRung < f.signWeight
 pos : 0 < f.binade
 place : -2000 ≤ f.leastPlace
 low : f.leastPlace ≤ top - f.fractionBits
 room : ∀ (last : Int), last ≤ top - f.fractionBits → f.leastPlace ≤ last → (last - f.leastPlace).toNat * f.binade + 2 * f.binade ≤ f.infRung
def good_single : Good single where
 top := 100
 bin := rfl
 inf := by decide
 pos := by decide
 place := by decide
 low := by decide
 room := fun last h1 h2 => by
  have e1 : single.leastPlace = -149 := by decide
  have e2 : single.binade = 8388608 := by decide
  have e3 : single.infRung = 255 * 8388608 := by decide
  have e4 : single.fractionBits = 23 := rfl
  rw [e4] at h1
  rw [e1] at h2
  rw [e1, e2, e3]
  have h3 : (last - -149).toNat ≤ 226 := by omega
  exact Nat.le_trans (Nat.add_le_add_right (Nat.mul_le_mul_right 8388608 h3) _) (by decide)
/-- a rung that is read. -/
theorem read_rung {f : Format} (g : Good f) (neg : Bool) (kept k : Nat) (hk : kept < 2 * f.binade) (h : k = 0 ∨ f.binade ≤ kept) (hi : k * f.binade + kept < f.infRung) :
 f.read (f.word neg (k * f.binade + kept)) = .number neg kept (f.leastPlace + k) := by
 have hb := g.pos
 have hs : k * f.binade + kept < f.signWeight := by have := g.inf; omega
 have hsp : 0 < f.signWeight := by omega
 have h1 : (f.word neg (k * f.binade + kept)) / f.signWeight % 2 = if neg then 1 else 0 := by
  unfold Format.word
  cases neg
  ·simp only [Bool.false_eq_true, if_false]; rw [Nat.div_eq_of_lt hs]
  ·simp only [if_true]; rw [Nat.add_div_left _ hsp, Nat.div_eq_of_lt hs]
 have h2 : (f.word neg (k * f.binade + kept)) % f.signWeight = k * f.binade + kept := by
  unfold Format.word
  cases neg
  ·simp only [Bool.false_eq_true, if_false]; exact Nat.mod_eq_of_lt hs
  ·simp only [if_true]; rw [Nat.add_mod_left, Nat.mod_eq_of_lt hs]
 have hn : (((f.word neg (k * f.binade + kept)) / f.signWeight % 2 == 1)) = neg := by
  rw [h1]; cases neg <;> rfl
 unfold Format.read
 simp only [h2, hn]
 by_cases hlt : k * f.binade + kept < f.binade
 ·rw [if_pos hlt]
  have hk0 : k = 0 := by
   rcases h with h | h
   ·exact h
   ·have := Nat.zero_le (k * f.binade); omega
  subst hk0
  simp
 ·rw [if_neg hlt, if_pos hi]
  have hge : f.binade ≤ kept := by
   rcases h with h | h
   ·subst h; omega
   ·exact h
  obtain ⟨r, rfl⟩ : ∃ r, kept = f.binade + r := ⟨kept - f.binade, by omega⟩
  have hr : r < f.binade := by omega
  have hd : (k * f.binade + (f.binade + r)) / f.binade = k + 1 := by
   rw [show k * f.binade + (f.binade + r) = r + f.binade * (k + 1) by rw [Nat.mul_add, Nat.mul_one, Nat.mul_comm f.binade k]; omega, Nat.add_mul_div_left _ _ hb, Nat.div_eq_of_lt hr]; omega
  have hm : (k * f.binade + (f.binade + r)) % f.binade = r := by
   rw [show k * f.binade + (f.binade + r) = r + f.binade * (k + 1) by rw [Nat.mul_add, Nat.mul_one, Nat.mul_comm f.binade k]; omega, Nat.add_mul_mod_self_left, Nat.mod_eq_of_lt hr]
  rw [hd, hm]
  simp
/-- what the format has is written as it is. -/
theorem read_nearest {f : Format} (g : Good f) (neg : Bool) (mag : Nat) (place : Int) (hm : mag ≠ 0) (M : Nat) (P : Int) (hM : M < 2 * f.binade) (hP : f.leastPlace ≤ P)
 (heq : (place ≤ P ∧ mag = M * 2 ^ (P - place).toNat) ∨ (P ≤ place ∧ mag * 2 ^ (place - P).toNat = M)) (hbig : place + mag.log2 ≤ g.top) :
 ∃ (m : Nat) (e : Int), f.read (f.nearest neg mag place) = .number neg m e ∧ f.leastPlace ≤ e ∧ m < 2 * f.binade ∧ ((place ≤ e ∧ mag = m * 2 ^ (e - place).toNat) ∨ (e ≤ place ∧ mag * 2 ^ (place - e).toNat = m)) := by
 have hb := g.pos
 have hbn := g.bin
 obtain ⟨last, hlast⟩ : ∃ l, l = max (place + mag.log2 - f.fractionBits) f.leastPlace := ⟨_, rfl⟩
 have hl1 : f.leastPlace ≤ last := by omega
 have hmlog := Nat.log2_self_le hm
 have hmlog2 : mag < 2 ^ (mag.log2 + 1) := Nat.lt_log2_self
 have h2b : 2 * f.binade = 2 ^ (f.fractionBits + 1) := by rw [hbn, Nat.pow_succ]; omega
 -- the kept digits
 obtain ⟨kept, hkept, hval⟩ : ∃ kept, Toward.even.cut neg (mag <<< (place - last).toNat) (last - place).toNat = kept ∧ ((place ≤ last ∧ mag = kept * 2 ^ (last - place).toNat) ∨ (last ≤ place ∧ mag * 2 ^ (place - last).toNat = kept)) := by
  rcases Int.le_total last place with h | h
  ·refine ⟨mag * 2 ^ (place - last).toNat, ?_, .inr ⟨h, rfl⟩⟩
   rw [show (last - place).toNat = 0 by omega, cut_zero_drop, Nat.shiftLeft_eq]
  ·obtain ⟨d, hd⟩ : ∃ d, d = (last - place).toNat := ⟨_, rfl⟩
   have hdiv : 2 ^ d ∣ mag := by
    rcases heq with ⟨h1, h2⟩ | ⟨h1, h2⟩
    ·have hdp : d ≤ (P - place).toNat := by
      rcases Int.le_total (place + mag.log2 - f.fractionBits) f.leastPlace with h3 | h3
      ·omega
      ·-- log2 mag ≤ fractionBits + (P - place)
       have : mag < 2 ^ (f.fractionBits + 1 + (P - place).toNat) := by
        rw [Nat.pow_add, ← h2b]
        conv => lhs; rw [h2]
        exact Nat.mul_lt_mul_of_pos_right hM (Nat.two_pow_pos _)
       have : mag.log2 < f.fractionBits + 1 + (P - place).toNat := (Nat.log2_lt hm).2 this
       omega
     rw [h2, show (P - place).toNat = d + ((P - place).toNat - d) by omega, Nat.pow_add]
     exact ⟨M * 2 ^ ((P - place).toNat - d), by rw [Nat.mul_left_comm]⟩
    ·have hlt : mag < 2 ^ (f.fractionBits + 1) := by
      have := Nat.le_mul_of_pos_right mag (Nat.two_pow_pos (place - P).toNat)
      rw [← h2b]; omega
     have : mag.log2 < f.fractionBits + 1 := (Nat.log2_lt hm).2 hlt
     have hd0 : d = 0 := by omega
     rw [hd0]; exact ⟨mag, by simp⟩
   obtain ⟨q, hq⟩ := hdiv
   have hq' : mag = q * 2 ^ d := by rw [hq, Nat.mul_comm]
   have hqp : 0 < q := by
    rcases Nat.eq_zero_or_pos q with h0 | h0
    ·rw [h0, Nat.zero_mul] at hq'; exact absurd hq' hm
    ·exact h0
   refine ⟨q, ?_, .inl ⟨h, by rw [← hd]; exact hq'⟩⟩
   rw [show (place - last).toNat = 0 by omega, Nat.shiftLeft_zero, ← hd, hq', cut_exact _ _ _ _ hqp]
 -- its size
 have hsz : kept < 2 * f.binade ∧ (last = f.leastPlace ∨ f.binade ≤ kept) := by
  rw [h2b, hbn]
  rcases Int.le_total f.leastPlace (place + mag.log2 - f.fractionBits) with h3 | h3
  ·have hl : last = place + mag.log2 - f.fractionBits := by omega
   rcases hval with ⟨h1, h2⟩ | ⟨h1, h2⟩
   ·have hd : mag.log2 = f.fractionBits + (last - place).toNat := by omega
    rw [hd] at hmlog hmlog2
    constructor
    ·have : kept * 2 ^ (last - place).toNat < 2 ^ (f.fractionBits + 1) * 2 ^ (last - place).toNat := by
      rw [← h2, ← Nat.pow_add]
      rw [show f.fractionBits + 1 + (last - place).toNat = f.fractionBits + (last - place).toNat + 1 by omega]
      exact hmlog2
     exact Nat.lt_of_mul_lt_mul_right this
    ·refine .inr ?_
     have : 2 ^ f.fractionBits * 2 ^ (last - place).toNat ≤ kept * 2 ^ (last - place).toNat := by
      rw [← h2, ← Nat.pow_add]; exact hmlog
     exact Nat.le_of_mul_le_mul_right this (Nat.two_pow_pos _)
   ·have hd : mag.log2 + (place - last).toNat = f.fractionBits := by omega
    rw [← h2]
    constructor
    ·rw [← hd, show mag.log2 + (place - last).toNat + 1 = mag.log2 + 1 + (place - last).toNat by omega, Nat.pow_add]
     exact Nat.mul_lt_mul_of_pos_right hmlog2 (Nat.two_pow_pos _)
    ·refine .inr ?_
     rw [← hd, Nat.pow_add]
     exact Nat.mul_le_mul_right _ hmlog
  ·have hl : last = f.leastPlace := by omega
   refine ⟨?_, .inl hl⟩
   rcases hval with ⟨h1, h2⟩ | ⟨h1, h2⟩
   ·have hlt : kept * 2 ^ (last - place).toNat < 2 ^ (f.fractionBits + 1) * 2 ^ (last - place).toNat := by
     rw [← h2, ← Nat.pow_add]
     exact Nat.lt_of_lt_of_le hmlog2 (Nat.pow_le_pow_right (by decide) (by omega))
    exact Nat.lt_of_mul_lt_mul_right hlt
   ·rw [← h2]
    refine Nat.lt_of_lt_of_le (Nat.mul_lt_mul_of_pos_right hmlog2 (Nat.two_pow_pos _)) ?_
    rw [← Nat.pow_add]
    exact Nat.pow_le_pow_right (by decide) (by omega)
 have hlow := g.low
 have hroom := g.room last (by omega) hl1
 have hmin : min ((last - f.leastPlace).toNat * f.binade + kept) f.infRung = (last - f.leastPlace).toNat * f.binade + kept := by omega
 have hlt : (last - f.leastPlace).toNat * f.binade + kept < f.infRung := by omega
 have hr := read_rung g neg kept (last - f.leastPlace).toNat hsz.1 (hsz.2.imp (fun h => by omega) id) hlt
 refine ⟨kept, last, ?_, hl1, hsz.1, hval⟩
 unfold Format.nearest
 rw [if_neg hm]
 simp only [← hlast, hkept]
 rw [hmin, hr]
 congr 1
 omega
theorem val_eq {neg : Bool} {m mag : Nat} {e place : Int} (he : -2000 ≤ e) (hp : -2000 ≤ place) (h : (place ≤ e ∧ mag = m * 2 ^ (e - place).toNat) ∨ (e ≤ place ∧ mag * 2 ^ (place - e).toNat = m)) : valU neg m e = valU neg mag place := by
 unfold valU
 rw [signed_eq, signed_eq]
 congr 1
 rcases h with ⟨h1, rfl⟩ | ⟨h1, rfl⟩
 ·rw [show (e + 2000).toNat = (e - place).toNat + (place + 2000).toNat by omega, Int.pow_add, ← Int.mul_assoc]
  push_cast
  rfl
 ·rw [show (place + 2000).toNat = (place - e).toNat + (e + 2000).toNat by omega, Int.pow_add, ← Int.mul_assoc]
  push_cast
  rfl
theorem val_zero (s : Bool) (e : Int) : valU s 0 e = 0 := by
 unfold valU
 rw [signed_eq]; simp
/-- a number that the format has keeps its value. -/
theorem nearest_val {f : Format} (g : Good f) (neg : Bool) (mag : Nat) (place : Int) (hp : -2000 ≤ place) (M : Nat) (P : Int) (hM : M < 2 * f.binade) (hP : f.leastPlace ≤ P)
 (heq : (place ≤ P ∧ mag = M * 2 ^ (P - place).toNat) ∨ (P ≤ place ∧ mag * 2 ^ (place - P).toNat = M)) (hbig : mag ≠ 0 → place + mag.log2 ≤ g.top) :
 ∃ (m : Nat) (e : Int), f.read (f.nearest neg mag place) = .number neg m e ∧ f.leastPlace ≤ e ∧ m < 2 * f.binade ∧ valU neg m e = valU neg mag place := by
 by_cases hm : mag = 0
 ·subst hm
  have hb := g.pos
  have hr := read_rung g neg 0 0 (by omega) (.inl rfl) (by have := g.room f.leastPlace g.low (Int.le_refl _); omega)
  refine ⟨0, f.leastPlace, ?_, Int.le_refl _, by omega, by rw [val_zero, val_zero]⟩
  unfold Format.nearest
  rw [if_pos rfl]
  simpa using hr
 ·obtain ⟨m, e, h1, h2, h3, h4⟩ := read_nearest g neg mag place hm M P hM hP heq (hbig hm)
  exact ⟨m, e, h1, h2, h3, val_eq (by have := g.place; omega) hp h4⟩
/-- the whole part. -/
theorem cut_zero (neg : Bool) (n d : Nat) : Toward.zero.cut neg n d = n / 2 ^ d := by
 unfold Toward.cut
 simp only [Nat.shiftLeft_eq, Nat.one_mul, Bool.toNat_false, Nat.add_zero]
 rcases Nat.le_total d (n.log2 + 2) with h | h
 ·rw [Nat.min_eq_left h]
 ·rw [Nat.min_eq_right h]
  have h1 : n < 2 ^ (n.log2 + 1) := Nat.lt_log2_self
  have h2 : 2 ^ (n.log2 + 1) ≤ 2 ^ (n.log2 + 2) := Nat.pow_le_pow_right (by decide) (by omega)
  have h3 : 2 ^ (n.log2 + 2) ≤ 2 ^ d := Nat.pow_le_pow_right (by decide) h
  rw [Nat.div_eq_of_lt (by omega), Nat.div_eq_of_lt (by omega)]
/-- the unit's exponent. -/
def uk : Nat := 2000
theorem uk_eq : uk = 2000 := rfl
def U : Int := 2 ^ uk
theorem U_pos : 0 < U := pow_pos2 uk
theorem U_nat : U = ((2 ^ uk : Nat) : Int) := by unfold U; push_cast; rfl
theorem mag_div (m : Nat) (e : Int) (he : -2000 ≤ e) : (m <<< e.toNat) / 2 ^ (-e).toNat = m * 2 ^ (e + 2000).toNat / 2 ^ uk ∧ ((m <<< e.toNat) % 2 ^ (-e).toNat = 0 ↔ m * 2 ^ (e + 2000).toNat % 2 ^ uk = 0) := by
 rw [Nat.shiftLeft_eq]
 rcases Int.le_total 0 e with h | h
 ·rw [show (-e).toNat = 0 by omega, show (e + 2000).toNat = e.toNat + uk by rw [uk_eq]; omega, Nat.pow_add, ← Nat.mul_assoc, Nat.mul_div_cancel _ (Nat.two_pow_pos _), Nat.mul_mod_left]
  simp [Nat.mod_one]
 ·have e1 : 2 ^ uk = 2 ^ (-e).toNat * 2 ^ (e + 2000).toNat := by rw [← Nat.pow_add]; congr 1; rw [uk_eq]; omega
  rw [e1, show e.toNat = 0 by omega, Nat.pow_zero, Nat.mul_one, Nat.mul_div_mul_right _ _ (Nat.two_pow_pos _), Nat.mul_mod_mul_right]
  refine ⟨rfl, fun hz => by rw [hz, Nat.zero_mul], fun hz => ?_⟩
  rcases Nat.mul_eq_zero.1 hz with h0 | h0
  ·exact h0
  ·have := Nat.two_pow_pos (e + 2000).toNat; omega
theorem tdiv_sign (s : Bool) (N D : Nat) : (if s then -1 else 1) * ((N / D : Nat) : Int) = Int.tdiv ((if s then -1 else 1) * (N : Int)) (D : Int) := by
 cases s
 ·simp only [Bool.false_eq_true, if_false, Int.one_mul]
  exact Int.ofNat_tdiv N D
 ·simp only [if_true]
  rw [Int.neg_one_mul, Int.neg_one_mul, Int.neg_tdiv, Int.ofNat_tdiv]
theorem toInt_val (s : Bool) (m : Nat) (e : Int) (he : -2000 ≤ e) : (Datum.number s m e).toInt .zero = some (Int.tdiv (valU s m e) U) := by
 show some (signed s (Toward.zero.cut s (m <<< e.toNat) (-e).toNat) 0) = _
 rw [cut_zero, (mag_div m e he).1]
 unfold valU
 rw [signed_eq, signed_eq, U_nat, Int.pow_zero, Int.mul_one]
 congr 1
 have hN : ((m : Int) * 2 ^ (e + 2000).toNat) = ((m * 2 ^ (e + 2000).toNat : Nat) : Int) := by push_cast; rfl
 rw [hN]
 exact tdiv_sign s _ _
/-- what a word of a format reads as. -/
theorem read_number {f : Format} (g : Good f) {x : Nat} {s : Bool} {m : Nat} {e : Int} (h : f.read x = .number s m e) : f.leastPlace ≤ e ∧ m < 2 * f.binade ∧ e < f.leastPlace + (f.infRung / f.binade : Nat) := by
 have hb := g.pos
 have hroom := g.room f.leastPlace g.low (Int.le_refl _)
 have hd0 : 0 < f.infRung / f.binade := Nat.div_pos (by omega) hb
 unfold Format.read at h
 simp only at h
 split at h
 ·cases h
  exact ⟨Int.le_refl _, by omega, by omega⟩
 ·split at h
  ·rename_i h1 h2
   cases h
   refine ⟨by omega, ?_, ?_⟩
   ·have := Nat.mod_lt (x % f.signWeight) hb
    omega
   ·have : x % f.signWeight / f.binade ≤ f.infRung / f.binade := Nat.div_le_div_right (by omega)
    omega
  ·split at h <;> cases h
theorem read_single {x : Nat} {s : Bool} {m : Nat} {e : Int} (h : single.read x = .number s m e) : -149 ≤ e ∧ m < 16777216 ∧ e ≤ 105 := by
 obtain ⟨h1, h2, h3⟩ := read_number good_single h
 have e1 : single.leastPlace = -149 := by decide
 have e2 : single.binade = 8388608 := by decide
 have e3 : single.infRung / single.binade = 255 := by decide
 rw [e1] at h1 h3
 rw [e2] at h2
 rw [e3] at h3
 omega
theorem log_bound {s : Bool} {m : Nat} {e : Int} (he : -2000 ≤ e) (hm : m ≠ 0) (k : Nat) (h : -(2 ^ k * U) ≤ valU s m e ∧ valU s m e ≤ 2 ^ k * U) : e + m.log2 ≤ k := by
 have h1 : ((m * 2 ^ (e + 2000).toNat : Nat) : Int) ≤ ((2 ^ k * 2 ^ uk : Nat) : Int) := by
  unfold valU at h
  rw [signed_eq] at h
  have e1 : ((2 ^ k * 2 ^ uk : Nat) : Int) = 2 ^ k * U := by rw [U_nat]; push_cast; rfl
  have e2 : ((m * 2 ^ (e + 2000).toNat : Nat) : Int) = (m : Int) * 2 ^ (e + 2000).toNat := by push_cast; rfl
  rw [e1, e2]
  generalize 2 ^ k * U = b at h
  generalize (m : Int) * 2 ^ (e + 2000).toNat = v at h
  clear e1 e2
  cases s
  ·simp only [Bool.false_eq_true, if_false, Int.one_mul] at h; exact h.2
  ·simp only [if_true, Int.neg_one_mul] at h; exact Int.neg_le_neg_iff.1 h.1
 have h2 : m * 2 ^ (e + 2000).toNat ≤ 2 ^ k * 2 ^ uk := Int.ofNat_le.1 h1
 have h3 := Nat.log2_self_le hm
 have h4 : 2 ^ (m.log2 + (e + 2000).toNat) ≤ 2 ^ (k + uk) := by
  rw [Nat.pow_add, Nat.pow_add]
  exact Nat.le_trans (Nat.mul_le_mul_right _ h3) h2
 have h5 := (Nat.pow_le_pow_iff_right (by decide : 1 < 2)).1 h4
 rw [uk_eq] at h5
 omega
/-- the value of a word of single precision that is a number. -/
def V32 (x : Nat) : Option Int := match single.read x with
 | .number s m e => some (valU s m e)
 | _ => none
theorem sub_self (x : Nat) : single.sub x x = (V32 x).map fun _ => 0 := by
 unfold Format.sub V32
 cases h : single.read x with
 | number s m e =>
   show Option.map single.write ((Datum.number s m e).sum (Datum.number (!s) m e)) = some 0
   have ht : signed s m (e - min e e).toNat + signed (!s) m (e - min e e).toNat = 0 := by
    rw [signed_eq, signed_eq]
    cases s <;> simp <;> omega
   have hs : (Datum.number s m e).sum (Datum.number (!s) m e) = some (.number false 0 (min e e)) := by
    simp only [Datum.sum, ht, if_true]
    cases s <;> rfl
   rw [hs]
   show some (single.nearest false 0 (min e e)) = some 0
   unfold Format.nearest
   rw [if_pos rfl]
   rfl
 | infinity s =>
   show Option.map single.write ((Datum.infinity s).sum (Datum.infinity (!s))) = none
   cases s <;> rfl
 | nan s t => rfl
theorem order32 {x y : Nat} {v u : Int} (hx : V32 x = some v) (hy : V32 y = some u) : single.order x y = some (compare v u) := by
 unfold V32 at hx hy
 unfold Format.order
 cases h : single.read x with
 | number s m e =>
   rw [h] at hx
   cases h2 : single.read y with
   | number t n j =>
     rw [h2] at hy
     simp only [Option.some.injEq] at hx hy
     rw [order_val (by have := (read_single h).1; omega) (by have := (read_single h2).1; omega), hx, hy]
   | infinity t => rw [h2] at hy; cases hy
   | nan t u => rw [h2] at hy; cases hy
 | infinity t => rw [h] at hx; cases hx
 | nan t u => rw [h] at hx; cases hx
theorem U_def : U = 2 ^ uk := rfl
theorem mul_16 {x : Nat} {v : Int} (hx : V32 x = some v) (hb : -(2 ^ 10 * U) ≤ v ∧ v ≤ 2 ^ 10 * U) : ∃ y, single.mul 1098907648 x = some y ∧ V32 y = some (16 * v) := by
 have h16 : single.read 1098907648 = .number false 8388608 (-19) := by decide +kernel
 unfold V32 at hx
 cases h : single.read x with
 | infinity t => rw [h] at hx; cases hx
 | nan t u => rw [h] at hx; cases hx
 | number s m e =>
   rw [h] at hx
   simp only [Option.some.injEq] at hx
   obtain ⟨h1, h2, h3⟩ := read_single h
   have hv : valU s (8388608 * m) (-19 + e) = 16 * v := by
    rw [← hx]
    unfold valU
    rw [signed_eq, signed_eq, show (e + 2000).toNat = (-19 + e + 2000).toNat + 19 by omega, Int.pow_add]
    generalize (2 : Int) ^ (-19 + e + 2000).toNat = p
    have e1 : (2 : Int) ^ 19 = 524288 := by decide
    rw [e1, Int.natCast_mul, show ((8388608 : Nat) : Int) = 8388608 from rfl]
    cases s <;> simp only [Bool.false_eq_true, if_false, if_true, Int.one_mul, Int.neg_one_mul]
    ·rw [show (8388608 : Int) * m * p = 8388608 * (m * p) by rw [Int.mul_assoc], show (m : Int) * (p * 524288) = 524288 * (m * p) by rw [← Int.mul_assoc, Int.mul_comm]]; omega
    ·rw [show (8388608 : Int) * m * p = 8388608 * (m * p) by rw [Int.mul_assoc], show (m : Int) * (p * 524288) = 524288 * (m * p) by rw [← Int.mul_assoc, Int.mul_comm]]; omega
   have hlog : -19 + e + (8388608 * m).log2 ≤ 100 := by
    by_cases hm : m = 0
    ·subst hm
     have : (8388608 * 0).log2 = 0 := by decide
     omega
    ·have hl := log_bound (s := s) (e := e) (m := m) (by omega) hm 10 (by rw [hx]; exact hb)
     have hlt : 8388608 * m < 2 ^ (m.log2 + 1 + 23) := by
      rw [Nat.pow_add, Nat.mul_comm]
      exact Nat.mul_lt_mul_of_pos_right Nat.lt_log2_self (by decide)
     have := (Nat.log2_lt (by omega : 8388608 * m ≠ 0)).2 hlt
     omega
   obtain ⟨m', e', r1, r2, r3, r4⟩ := nearest_val good_single s (8388608 * m) (-19 + e) (by omega) m (e + 4) (by
    have : single.binade = 8388608 := by decide
    rw [this]; omega) (by
    have : single.leastPlace = -149 := by decide
    rw [this]; omega) (.inl ⟨by omega, by
     rw [show (e + 4 - (-19 + e)).toNat = 23 by omega, Nat.mul_comm]⟩) (fun _ => hlog)
   refine ⟨single.nearest s (8388608 * m) (-19 + e), ?_, ?_⟩
   ·unfold Format.mul
    rw [h16, h]
    show Option.map single.write (some (Datum.number (false ^^ s) (8388608 * m) (-19 + e))) = _
    rw [Bool.false_xor]
    rfl
   ·unfold V32
    rw [r1]
    simp only
    rw [r4, hv]
theorem tdiv_bound {v : Int} (k : Int) (hk : 0 ≤ k) (h : -(k * U) ≤ v ∧ v ≤ k * U) : -k ≤ Int.tdiv v U ∧ Int.tdiv v U ≤ k := by
 have hU := U_pos
 generalize U = u at h hU
 constructor
 ·have h1 : -v ≤ k * u := by omega
  have : Int.tdiv (-v) u ≤ k := by
   rcases Int.le_total 0 (-v) with h0 | h0
   ·rw [Int.tdiv_eq_ediv_of_nonneg h0]
    exact Int.ediv_le_of_le_mul hU h1
   ·have : Int.tdiv (-v) u ≤ 0 := by
     rw [Int.neg_tdiv]
     have := Int.tdiv_nonneg (show 0 ≤ v by omega) (Int.le_of_lt hU)
     omega
    omega
  rw [Int.neg_tdiv] at this
  omega
 ·rcases Int.le_total 0 v with h0 | h0
  ·rw [Int.tdiv_eq_ediv_of_nonneg h0]
   exact Int.ediv_le_of_le_mul hU h.2
  ·have h1 := Int.tdiv_nonneg (show 0 ≤ -v by omega) (Int.le_of_lt hU)
   rw [Int.neg_tdiv] at h1
   omega
theorem toInt32 {x : Nat} {v : Int} (hx : V32 x = some v) (k : Int) (hk : 0 ≤ k ∧ k ≤ 1000000) (h : -(k * U) ≤ v ∧ v ≤ k * U) : floatToIntVal .f32 x .i64 = some (Int.tdiv v U) := by
 have hb := tdiv_bound k hk.1 h
 unfold V32 at hx
 cases hr : single.read x with
 | infinity t => rw [hr] at hx; cases hx
 | nan t u => rw [hr] at hx; cases hx
 | number s m e =>
   rw [hr] at hx
   simp only [Option.some.injEq] at hx
   have h1 : (FloatKind.f32.decode x).toInt .zero = some (Int.tdiv v U) := by
    show (single.read x).toInt .zero = _
    rw [hr, toInt_val s m e (by have := (read_single hr).1; omega), hx]
   have e1 : IntKind.i64.min = -9223372036854775808 := by decide
   have e2 : IntKind.i64.max = 9223372036854775807 := by decide
   unfold floatToIntVal
   rw [h1]
   simp only
   rw [e1, e2, if_pos (by omega)]
theorem ofInt_val (n : Int) : valU (decide (n < 0)) n.natAbs 0 = n * U := by
 unfold valU
 rw [signed_eq, U_def]
 show (if decide (n < 0) = true then -1 else 1) * ((n.natAbs : Int) * 2 ^ uk) = n * 2 ^ uk
 rw [← Int.mul_assoc]
 congr 1
 by_cases h : n < 0
 ·rw [if_pos (decide_eq_true h)]; omega
 ·rw [if_neg (by simpa using h)]; omega
theorem log_small {n k : Nat} (h : n < 2 ^ k) (hk : 0 < k) : n.log2 < k := by
 by_cases h0 : n = 0
 ·subst h0; exact hk
 ·exact (Nat.log2_lt h0).2 h
theorem ofInt32 (n : Int) (h : -16777216 < n ∧ n < 16777216) : V32 (floatOfInt .f32 n) = some (n * U) := by
 have hp : single.leastPlace = -149 := by decide
 have hb : single.binade = 8388608 := by decide
 have hl : n.natAbs.log2 < 24 := log_small (by omega) (by decide)
 obtain ⟨m', e', r1, r2, r3, r4⟩ := nearest_val good_single (decide (n < 0)) n.natAbs 0 (by omega) n.natAbs 0 (by rw [hb]; omega) (by rw [hp]; omega) (.inl ⟨by omega, by simp⟩) (fun _ => by
  show 0 + ((n.natAbs.log2 : Nat) : Int) ≤ 100
  omega)
 show (match single.read (single.nearest (decide (n < 0)) n.natAbs 0) with | .number s m e => some (valU s m e) | _ => none) = _
 rw [r1]
 simp only
 rw [r4, ofInt_val]
theorem tdiv_mul (w : Int) : Int.tdiv w U * U = w ↔ w / U * U = w := by
 have hU := U_pos
 generalize U = u at hU
 constructor
 ·intro h
  rw [← h, Int.mul_ediv_cancel _ (by omega)]
 ·intro h
  rw [← h, Int.mul_tdiv_cancel _ (by omega)]
/-- the error of a sample. -/
def smpE (x : Nat) : Int := match V32 x with
 | some v => if v < -(1024 * U) ∨ 1024 * U < v then 3 else if 16 * v / U * U = 16 * v then 0 else 3
 | none => 1
theorem read_nan {f : Format} {s : Nat} {q : Nat} (hi : f.binade ≤ f.infRung) (hq : f.infRung + 1 + q < f.signWeight) : ∃ a b, f.read (s * f.signWeight + (f.infRung + 1 + q)) = .nan a b := by
 have hm : (s * f.signWeight + (f.infRung + 1 + q)) % f.signWeight = f.infRung + 1 + q := by
  rw [Nat.add_comm, Nat.mul_comm, Nat.add_mul_mod_self_left, Nat.mod_eq_of_lt hq]
 unfold Format.read
 simp only [hm]
 rw [if_neg (by omega), if_neg (by omega), if_neg (by omega)]
 exact ⟨_, _, rfl⟩
theorem order_nan {f : Format} {r : Nat} (h : ∃ a b, f.read r = .nan a b) (z : Nat) : f.order r z = none ∧ f.order z r = none := by
 obtain ⟨a, b, h⟩ := h
 unfold Format.order
 rw [h]
 refine ⟨rfl, ?_⟩
 cases f.read z <;> rfl
theorem nan32 (x y t : Nat) : ∃ a b, single.read ((Question.nanBits .f32 x y).cut t) = .nan a b := by
 have h1 : single.signWeight = 2147483648 := by decide
 have h2 : single.infRung = 2139095040 := by decide
 have h := read_nan (f := single) (s := t % 2) (q := t / 2 % 8388607) (by decide) (by rw [h1, h2]; omega)
 rw [h1, h2] at h
 have e : (Question.nanBits .f32 x y).cut t = t % 2 * 2147483648 + (2139095040 + 1 + t / 2 % 8388607) := by
  show t % 2 * 2 ^ 31 + 0x7f800000 + 1 + t / 2 % (2 ^ 23 - 1) = _
  omega
 rw [e]; exact h
theorem run_sub_nan {P : Program} (w : World) (t : TypeId) (x y : Nat) (h : single.sub x y = none) : ∃ r, (∃ a b, single.read r = .nan a b) ∧ (binOp .sub t (.float .f32 x) (.float .f32 y)).run P w = .ok (.float .f32 r) w.drew := by
 refine ⟨(Question.nanBits .f32 x y).cut (w.tape w.drawn (.nanBits .f32 x y)), nan32 _ _ _, ?_⟩
 have h' : FloatKind.f32.format.sub x y = none := h
 simp [binOp, Op.floatArith, h', Question.forced]
end Go.Proofs.YtpmngcffkhbofaaGreatDoor.Flp

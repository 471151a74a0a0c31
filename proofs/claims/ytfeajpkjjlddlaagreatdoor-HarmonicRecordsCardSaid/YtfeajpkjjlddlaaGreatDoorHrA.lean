/- The reference of chapter 4: a pattern checked; its spectrum. -/
import Derived.Test.YtfeajpkjjlddlaaGreatDoorHqA
import Derived.Test.YtfeajpkjjlddlaaGreatDoorHarP
namespace Go.Proofs.YtfeajpkjjlddlaaGreatDoor
section
set_option linter.unusedSimpArgs false
set_option linter.unusedVariables false
open Go.RowKit

theorem patE_bd {l : List Int} (h : patE l = 0) (k : Nat) : -100 ≤ l[k]?.getD 0 ∧ l[k]?.getD 0 ≤ 100 := by
  unfold patE allE at h
  have hm := firstE_mapOk h
  by_cases hk : k < l.length
  · rw [List.getElem?_eq_getElem hk]
    exact withinE_zero (hm _ (List.getElem_mem hk))
  · rw [List.getElem?_eq_none (by omega)]; simp
/-- the partial sum of an order. -/
def parO (l : List Int) (h n : Nat) : Int × Int × Int × Int := (upto (termC l h) n).foldl cyAdd (0, 0, 0, 0)
theorem upto_snoc {α : Type} (f : Nat → α) (n : Nat) : upto f (n + 1) = upto f n ++ [f n] := by
  simp [upto, List.range_succ]
theorem parO_succ (l : List Int) (h n : Nat) : parO l h (n + 1) = cyAdd (parO l h n) (termC l h n) := by
  rw [parO, upto_snoc, cyAdd_snoc]; rfl
theorem termC_rot {l : List Int} (hp : patE l = 0) (h n : Nat) (hh : h < 12) (hn : n < 12) : termC l h n = rotC (mod12 (-((h : Int) * n))) (l[n]?.getD 0, 0, 0, 0) := by
  have hb := patE_bd hp n
  have hq : (h : Int) * n ≤ 121 := by
    have : h * n ≤ 11 * 11 := Nat.mul_le_mul (by omega) (by omega)
    exact_mod_cast this
  have hq0 : (0 : Int) ≤ (h : Int) * n := by exact_mod_cast Nat.zero_le _
  have e : wrap64 (-(h : Int) * n) = -((h : Int) * n) := by
    rw [Int.neg_mul]; unfold wrap64; omega
  rw [termC, e, turn_rot _ _ (mod12_lt _)]
  refine ⟨?_, ?_, ?_, ?_⟩ <;> simp only <;> omega
/-- the cells of a spectrum that is being summed. -/
def spG (l : List Int) (h n j : Nat) : Int := if j / 4 < h then cyAt (orderC l ((j / 4 : Nat) : Int)) (j % 4) else if j / 4 = h then cyAt (parO l h n) (j % 4) else 0
theorem upto_congr {α : Type} {f g : Nat → α} {n : Nat} (h : ∀ j, j < n → f j = g j) : upto f n = upto g n := by
  apply List.ext_getElem?
  intro j
  rw [upto_get, upto_get]
  split
  · rw [h j (by assumption)]
  · rfl
theorem spG_zero (l : List Int) (h : Nat) : upto (spG l h 0) 48 = upto (specF l h) 48 := upto_congr fun j _ => by
  unfold spG specF
  by_cases c : j < 4 * h
  · rw [if_pos (by omega), if_pos c]
  · rw [if_neg (by omega), if_neg c]
    split
    · have : j % 4 = 0 ∨ j % 4 = 1 ∨ j % 4 = 2 ∨ j % 4 = 3 := by omega
      rcases this with e | e | e | e <;> rw [e] <;> rfl
    · rfl
theorem spG_all (l : List Int) (h : Nat) : upto (spG l h 12) 48 = upto (specF l (h + 1)) 48 := upto_congr fun j _ => by
  unfold spG specF
  by_cases c : j / 4 < h
  · rw [if_pos c, if_pos (by omega)]
  · rw [if_neg c]
    by_cases c2 : j / 4 = h
    · rw [if_pos c2, if_pos (by omega), c2]; rfl
    · rw [if_neg c2, if_neg (by omega)]
theorem upto_set4 (F G : Nat → Int) (h : Nat) (hh : h < 12) (y : Int × Int × Int × Int) (hG : ∀ j, G j = if j / 4 = h then cyAt y (j % 4) else F j) :
    ((((upto F 48).set (h * 4) y.1).set (h * 4 + 1) y.2.1).set (h * 4 + 2) y.2.2.1).set (h * 4 + 3) y.2.2.2 = upto G 48 := by
  apply List.ext_getElem?
  intro j
  simp only [List.getElem?_set, upto_get, List.length_set, upto_length]
  rw [hG]
  by_cases hj : j < 48
  · rw [if_pos hj]
    by_cases c : j / 4 = h
    · rw [if_pos c]
      have : j = h * 4 ∨ j = h * 4 + 1 ∨ j = h * 4 + 2 ∨ j = h * 4 + 3 := by omega
      rcases this with rfl | rfl | rfl | rfl
      · rw [if_neg (by omega), if_neg (by omega), if_neg (by omega), if_pos rfl, if_pos hj, if_pos hj, show (h * 4) % 4 = 0 by omega]; rfl
      · rw [if_neg (by omega), if_neg (by omega), if_pos rfl, if_pos hj, if_pos hj, show (h * 4 + 1) % 4 = 1 by omega]; rfl
      · rw [if_neg (by omega), if_pos rfl, if_pos hj, if_pos hj, show (h * 4 + 2) % 4 = 2 by omega]; rfl
      · rw [if_pos rfl, if_pos hj, if_pos hj, show (h * 4 + 3) % 4 = 3 by omega]; rfl
    · rw [if_neg c, if_neg (by omega), if_neg (by omega), if_neg (by omega), if_neg (by omega), if_pos hj]
  · rw [if_neg (by omega), if_neg (by omega), if_neg (by omega), if_neg (by omega), if_neg hj, if_neg hj]
theorem spG_set (l : List Int) (h n : Nat) (hh : h < 12) (y : Int × Int × Int × Int) (hy : y = parO l h (n + 1)) :
    ((((upto (spG l h n) 48).set (h * 4) y.1).set (h * 4 + 1) y.2.1).set (h * 4 + 2) y.2.2.1).set (h * 4 + 3) y.2.2.2 = upto (spG l h (n + 1)) 48 :=
  upto_set4 _ _ h hh y fun j => by
    subst hy
    unfold spG
    by_cases c : j / 4 = h
    · rw [if_neg (by omega), if_pos c, if_pos c]
    · rw [if_neg c, if_neg c, if_neg c]
theorem spG_get (l : List Int) (h n i : Nat) (hh : h < 12) (hi : i < 4) : (upto (spG l h n) 48)[h * 4 + i]?.getD 0 = cyAt (parO l h n) i := by
  rw [upto_get, if_pos (by omega)]
  unfold spG
  rw [Option.getD_some, if_neg (by omega), if_pos (by omega), show (h * 4 + i) % 4 = i by omega]

theorem Tryz.undSpR : Tryz.prog.underlying 26 = some (.array 12 25) := by kernel_rfl
theorem Tryz.infoSpR : (Tryz.prog.info? 26).map (·.size) = some 48 := by kernel_rfl
theorem load48R {l : List Int} (hl : l.length = 48) {w : World} {B : Nat} (h : BlkI w B 26 l) : Sem.run Tryz.prog (Instr.loadAt 26 (.pointer (some ⟨B, 0, none⟩))) w = .ok (.agg (ia l)) w := loadRow Tryz.undSpR (by rw [Tryz.infoSpR, hl]) h
theorem Tryz.loadVar48R {l : List Int} (hl : l.length = 48) {w : World} {B : Nat} (h : BlkI w B 26 l) : Sem.run Tryz.prog (loadVar 26 ⟨B, 0, none⟩) w = .ok (.agg (ia l)) w :=
  run_loadVar_row w B 26 26 (ia l) (0, 0) _ h Tryz.undSpR rfl (by rw [Tryz.infoSpR, ia_size, hl])

end

section
set_option linter.unusedSimpArgs false
set_option linter.unusedVariables false
open Go.RowKit

theorem own_mono {w : World} {base base' : Nat} {e : TypeId} {size : Nat} {v : Value} {n : Nat} {xs : List Value} (h : w.ownsRow base e size v n xs) (hb : base' ≤ base) : w.ownsRow base' e size v n xs := by
  refine ⟨h.1, ?_⟩
  rcases h.2 with h1 | ⟨g, cap, cur, hv, hg, hr⟩
  · exact .inl h1
  · exact .inr ⟨g, cap, cur, hv, by omega, hr⟩
theorem own_setRow {w : World} {base e size n B : Nat} {cs : Array Value} {v : Value} {xs : List Value} (h : w.ownsRow base e size v n xs) (hB : B < base) : (w.setRow B cs).ownsRow base e size v n xs := by
  refine ⟨h.1, ?_⟩
  rcases h.2 with h1 | ⟨g, cap, cur, hv, hg, hh, hr⟩
  · exact .inl h1
  · exact .inr ⟨g, cap, cur, hv, hg, (setRow_other _ _ _ _ (show g ≠ B by omega)).trans hh, hr⟩
theorem eqCyR0 (a b c d : Int) (W : World) : Sem.run Tryz.prog (binOp .eql 25 (.agg #[.int .i64 a, .int .i64 b, .int .i64 c, .int .i64 d]) (.agg #[.int .i64 0, .int .i64 0, .int .i64 0, .int .i64 0])) W = .ok (.bool (cyIs0 (a, b, c, d))) W := by
  go_simp
  by_cases h1 : a = 0 <;> by_cases h2 : b = 0 <;> by_cases h3 : c = 0 <;> by_cases h4 : d = 0 <;> simp [cyIs0, h1, h2, h3, h4]
theorem specL_get (l : List Int) (h i : Nat) (hh : h < 12) (hi : i < 4) : (specL l)[h * 4 + i]?.getD 0 = cyAt (orderC l (h : Int)) i := by
  rw [specL, upto_get, if_pos (by omega)]
  unfold specF
  rw [Option.getD_some, if_pos (by omega), show (h * 4 + i) / 4 = h by omega, show (h * 4 + i) % 4 = i by omega]

theorem upto_set1 (F G : Nat → Int) (n k : Nat) (hk : k < n) (x : Int) (hG : ∀ j, G j = if j = k then x else F j) : (upto F n).set k x = upto G n := by
  apply List.ext_getElem?
  intro j
  rw [List.getElem?_set, upto_get, upto_get, upto_length, hG]
  by_cases c : k = j
  · subst c; rw [if_pos rfl, if_pos hk, if_pos hk, if_pos rfl]
  · rw [if_neg c, if_neg (Ne.symm c)]
theorem zeros_upto (n : Nat) : List.replicate n (0 : Int) = upto (fun _ => 0) n := by
  apply List.ext_getElem?
  intro j
  rw [upto_get, List.getElem?_replicate]
/-- a pattern, delayed. -/
def delL (l : List Int) (n : Int) : List Int := upto (fun k => l[((((k : Nat) : Int) - n) % 12).toNat]?.getD 0) 12
def delF (l : List Int) (n : Int) (k j : Nat) : Int := if j < k then l[((((j : Nat) : Int) - n) % 12).toNat]?.getD 0 else 0

theorem delJ (k : Nat) (n : Int) (hk : k < 12) : ∃ m : Nat, m < 12 ∧ (m : Int) = (((k : Int) + n).tmod 12 + 12).tmod 12 ∧ (-12 ≤ ((k : Int) + n).tmod 12 ∧ ((k : Int) + n).tmod 12 ≤ 12) ∧ ∀ j : Nat, j < 12 → (((((j : Nat) : Int) - n) % 12).toNat = k ↔ j = m) := by
  obtain ⟨m, hm⟩ : ∃ m : Nat, (m : Int) = ((k : Int) + n) % 12 := ⟨(((k : Int) + n) % 12).toNat, by omega⟩
  have h1 : ((k : Int) + n).tmod 12 = ((k : Int) + n) % 12 ∨ ((k : Int) + n).tmod 12 = ((k : Int) + n) % 12 - 12 := by
    rcases Int.le_total 0 ((k : Int) + n) with h | h
    · left; exact Int.tmod_eq_emod_of_nonneg h
    · rw [Int.tmod_eq_emod]
      split
      · left; omega
      · right; simp
  refine ⟨m, by omega, ?_, by omega, fun j hj => by omega⟩
  have h2 : 0 ≤ ((k : Int) + n).tmod 12 + 12 := by omega
  rw [Int.tmod_eq_emod_of_nonneg h2]
  omega
def delG (l : List Int) (n : Int) (k j : Nat) : Int := if ((((j : Nat) : Int) - n) % 12).toNat < k then l[((((j : Nat) : Int) - n) % 12).toNat]?.getD 0 else 0
def delE (l : List Int) (n : Int) : Int := firstE [patE l, withinE n (-100000) 100000]

end

section
set_option linter.unusedSimpArgs false
set_option linter.unusedVariables false
open Go.RowKit

/-- a rounded number is no NaN. -/
theorem word_nan (neg : Bool) (r : Nat) (h : r ≤ Ieee.double.infRung) : (Ieee.double.read (Ieee.double.word neg r)).isNaN = false := by
  have e1 : Ieee.double.signWeight = 9223372036854775808 := by decide
  have e2 : Ieee.double.infRung = 9218868437227405312 := by decide
  have hm : Ieee.double.word neg r % Ieee.double.signWeight = r := by
    rw [e2] at h
    unfold Ieee.Format.word
    rw [e1]
    cases neg <;> simp only [if_true, if_false, Bool.false_eq_true] <;> omega
  unfold Ieee.Format.read
  simp only [hm]
  split
  · rfl
  · split
    · rfl
    · split
      · rfl
      · omega
theorem near_nan (n : Int) : (Ieee.double.read (FloatKind.nearest .f64 n)).isNaN = false := by
  show (Ieee.double.read (Ieee.double.nearest (n < 0) n.natAbs 0)).isNaN = false
  unfold Ieee.Format.nearest
  split
  · exact word_nan _ 0 (Nat.zero_le _)
  · exact word_nan _ _ (Nat.min_le_right _ _)
theorem order_self (d : Ieee.Datum) (h : d.isNaN = false) : d.order d = some .eq := by
  cases d with
  | nan s f => simp [Ieee.Datum.isNaN] at h
  | infinity s => simp [Ieee.Datum.order]
  | number s m i => simp [Ieee.Datum.order]
theorem near_eq (n : Int) : Op.floatEq .f64 (FloatKind.nearest .f64 n) (FloatKind.nearest .f64 n) = true := by
  unfold Op.floatEq
  rw [show FloatKind.f64.format.order (FloatKind.nearest .f64 n) (FloatKind.nearest .f64 n) = some .eq from order_self _ (near_nan n)]
  rfl
/-- a complex number of two integers. -/
def cxV (a b : Int) : Value := .complex .f64 (FloatKind.nearest .f64 a) (FloatKind.nearest .f64 b)

/-- an array is itself. -/
theorem eqItems_self (e : TypeId) (c : Nat) (xs : Array Value) (w : World) : ∀ is : List Nat, (∀ i ∈ is, ∃ v, (part e xs (i * c)).run Tryz.prog w = .ok v w ∧ (Op.equalIn 9999 e v v).run Tryz.prog w = .ok true w) →
    (Op.eqItems 9999 e c xs xs is).run Tryz.prog w = .ok true w := by
  intro is
  induction is with
  | nil => intro _; rfl
  | cons i is ih =>
    intro h
    obtain ⟨v, h1, h2⟩ := h i (by simp)
    simp only [Op.eqItems, Sem.run_bind]
    rw [h1]
    simp only [Result.andThen_ok, h1, h2]
    simp only [Bool.not_true, Bool.false_eq_true, if_false]
    exact ih (fun j hj => h j (by simp [hj]))
theorem extract4 {cs : Array Value} {o : Nat} {a b c d : Value} (h0 : cs[o]? = some a) (h1 : cs[o + 1]? = some b) (h2 : cs[o + 2]? = some c) (h3 : cs[o + 3]? = some d) : cs.extract o (o + 4) = #[a, b, c, d] := by
  have hs : o + 3 < cs.size := (Array.getElem?_eq_some_iff.1 h3).1
  apply Array.ext_getElem?
  intro j
  rw [Array.getElem?_extract]
  by_cases hj : j < 4
  · rw [if_pos (by omega)]
    have : j = 0 ∨ j = 1 ∨ j = 2 ∨ j = 3 := by omega
    rcases this with rfl | rfl | rfl | rfl
    · simpa using h0
    · simpa using h1
    · simpa using h2
    · simpa using h3
  · rw [if_neg (by omega)]
    rw [Array.getElem?_eq_none (by simp; omega)]
theorem Tryz.infoCyR4 : (Tryz.prog.info? 25).map (·.size) = some 4 := by kernel_rfl
theorem Tryz.infoCyH4 : (Tryz.prog.info? 34).map (·.size) = some 4 := by kernel_rfl
theorem part4 {T : TypeId} (hT : (Tryz.prog.info? T).map (·.size) = some 4) {fs : Array Field} (hu : Tryz.prog.underlying T = some (.struct fs)) (l : List Int) (k : Nat) (hk : k * 4 + 3 < l.length) (w : World) :
    (part T (ia l) (k * 4)).run Tryz.prog w = .ok (.agg #[.int .i64 (l[k * 4]?.getD 0), .int .i64 (l[k * 4 + 1]?.getD 0), .int .i64 (l[k * 4 + 2]?.getD 0), .int .i64 (l[k * 4 + 3]?.getD 0)]) w := by
  obtain ⟨i, hi⟩ : ∃ i, Tryz.prog.info? T = some i := by
    cases h : Tryz.prog.info? T with
    | none => rw [h] at hT; cases hT
    | some i => exact ⟨i, rfl⟩
  have hs : i.size = 4 := by rw [hi] at hT; simpa using hT
  simp [part, isAgg, run_underlying hu, sizeOf, typeInfo, hi, hs]
  exact extract4 (ia_get l _ (by omega)) (ia_get l _ (by omega)) (ia_get l _ (by omega)) (ia_get l _ (by omega))
theorem Tryz.undCyR : ∃ fs, Tryz.prog.underlying 25 = some (.struct fs) := ⟨_, Tryz.underlying25⟩
theorem Tryz.undCyH : ∃ fs, Tryz.prog.underlying 34 = some (.struct fs) := ⟨_, Tryz.underlying34⟩
theorem eqCyR_self (a b c d : Int) (w : World) : (Op.equalIn 9999 25 (.agg #[.int .i64 a, .int .i64 b, .int .i64 c, .int .i64 d]) (.agg #[.int .i64 a, .int .i64 b, .int .i64 c, .int .i64 d])).run Tryz.prog w = .ok true w := by
  go_simp
theorem eqSp_self (l : List Int) (hl : l.length = 48) (w : World) : Sem.run Tryz.prog (binOp .eql 26 (.agg (ia l)) (.agg (ia l))) w = .ok (.bool true) w := by
  obtain ⟨fs, hu⟩ := Tryz.undCyR
  obtain ⟨i, hi⟩ : ∃ i, Tryz.prog.info? 25 = some i := by
    cases h : Tryz.prog.info? 25 with
    | none => have := Tryz.infoCyR4; rw [h] at this; cases this
    | some i => exact ⟨i, rfl⟩
  have hc : Tryz.prog.cellsOf 25 = 4 := by kernel_rfl
  rw [run_eql_struct, run_equalIn_array w 9999 (t := 26) (e := 25) (n := 12) _ _ Tryz.undSpR hi, hc, eqItems_self _ _ _ w _ (fun i hi => by
    have := List.mem_range.1 hi
    exact ⟨_, part4 Tryz.infoCyR4 hu l i (by omega) w, eqCyR_self _ _ _ _ w⟩)]
  rfl
end

section
set_option linter.unusedSimpArgs false
set_option linter.unusedVariables false
open Go.RowKit

theorem run_store_cx {P : Program} {w : World} {m : Mode} {a : Addr} (k : FloatKind) (x y : Nat) : (store a (.complex k x y) m).run P w = stored P w a (.complex k x y) m := run_store P w a _ m rfl
attribute [local go_sem] run_store_cx
theorem upto_setV {α : Type} (F G : Nat → α) (n k : Nat) (hk : k < n) (x : α) (hG : ∀ j, j < n → G j = if j = k then x else F j) : (upto F n).set k x = upto G n := by
  apply List.ext_getElem?
  intro j
  rw [List.getElem?_set, upto_get, upto_get, upto_length]
  by_cases hj : j < n
  · rw [if_pos hj, if_pos hj, hG j hj]
    by_cases c : k = j
    · subst c; rw [if_pos rfl, if_pos hk, if_pos rfl]
    · rw [if_neg c, if_neg (Ne.symm c)]
  · rw [if_neg hj, if_neg hj, if_neg (by omega)]
theorem loadV {T e : TypeId} {n : Nat} {vs : List Value} {w : World} {B : Nat} (hu : Tryz.prog.underlying T = some (.array n e)) (hi : (Tryz.prog.info? T).map (·.size) = some vs.length) (h : Blk w B T vs) : Sem.run Tryz.prog (Instr.loadAt T (.pointer (some ⟨B, 0, none⟩))) w = .ok (.agg vs.toArray) w := by
  have := run_loadVar_row (P := Tryz.prog) w B T T vs.toArray (0, 0) _ h hu rfl (by rw [hi, List.size_toArray])
  simp only [Instr.loadAt, Instr.sureAddr, Sem.run_bind, Sem.run_pure, Result.andThen_ok, this]
theorem loadVarV {T e : TypeId} {n : Nat} {vs : List Value} {w : World} {B : Nat} (hu : Tryz.prog.underlying T = some (.array n e)) (hi : (Tryz.prog.info? T).map (·.size) = some vs.length) (h : Blk w B T vs) : Sem.run Tryz.prog (loadVar T ⟨B, 0, none⟩) w = .ok (.agg vs.toArray) w :=
  run_loadVar_row w B T T vs.toArray (0, 0) _ h hu rfl (by rw [hi, List.size_toArray])
theorem wpList_storeV {w : World} {ops : Array Oper} {rest : List Oper} {o : Oper} {a : Act} {Q : Exit → Act → World → Prop} (hg : o.guard = none) (T : TypeId) (x y : Operand) (hop : o.op = Op.store T x y) (B : Nat) (vs old : List Value)
    (hx : a.eval x = .pointer (some ⟨B, 0, none⟩)) (hy : a.eval y = .agg vs.toArray) (hB : Blk w B T old) (hlo : old.length = vs.length) (hi : (Tryz.prog.info? T).map (·.size) = some vs.length) (h1 : vs.toArray.all (·.oneCell') = true)
    (hK : wpList Tryz.prog ops Q rest (a.put o.dst undef) (w.setRow B vs.toArray)) : wpList Tryz.prog ops Q (o :: rest) a w :=
  wpList_plain hg fun _ hK' => wp_store_row T x y hop B vs.toArray hx hy T old.toArray hB (by rw [hi, List.size_toArray]) (by rw [List.size_toArray, List.size_toArray, hlo]) h1 (hK' _ _ hK)
theorem Blk.setRowV {w : World} {B : Nat} {T : TypeId} {old : List Value} (h : Blk w B T old) (vs : List Value) : Blk (w.setRow B vs.toArray) B T vs := setRow_heap w B _ _ T (0, 0) h

def qF (l : List Int) (k j : Nat) : Value := if j < k then cxV (orderC l ((3 * j : Nat) : Int)).1 (orderC l ((3 * j : Nat) : Int)).2.2.1 else .complex .f64 0 0
def quL (l : List Int) : List Value := upto (qF l 4) 4
def cx0 : List Value := [.complex .f64 0 0, .complex .f64 0 0, .complex .f64 0 0, .complex .f64 0 0]
theorem cxV0 : cxV 0 0 = .complex .f64 0 0 := by kernel_rfl
def quOr (E : Int) (l : List Int) : List Value := if E = 0 then quL l else cx0
theorem qF_one (l : List Int) (k : Nat) : (upto (qF l k) 4).toArray.all (·.oneCell') = true := by
  rw [Array.all_eq_true_iff_forall_mem]
  intro v hv
  simp [upto] at hv
  obtain ⟨j, _, rfl⟩ := hv
  unfold qF cxV
  split <;> rfl
theorem cx0_qF (l : List Int) : cx0 = upto (qF l 0) 4 := by rfl

/-- an element of a spectrum. -/
theorem idx48 {l : List Int} (hl : l.length = 48) {k : Nat} (hk : k < 12) (w : World) : Sem.run Tryz.prog (Instr.index 35 (.agg (ia l)) (.int .i64 k)) w = .ok (.agg #[.int .i64 (l[k * 4]?.getD 0), .int .i64 (l[k * 4 + 1]?.getD 0), .int .i64 (l[k * 4 + 2]?.getD 0), .int .i64 (l[k * 4 + 3]?.getD 0)]) w := by
  obtain ⟨fs, hu⟩ := Tryz.undCyH
  obtain ⟨i, hi⟩ : ∃ i, Tryz.prog.info? 34 = some i := by
    cases h : Tryz.prog.info? 34 with
    | none => have := Tryz.infoCyH4; rw [h] at this; cases this
    | some i => exact ⟨i, rfl⟩
  have hs : i.size = 4 := by have := Tryz.infoCyH4; rw [hi] at this; simpa using this
  simp [Instr.index, asIntOf, run_underlying Tryz.undSp, sizeOf, typeInfo, hi, hs]
  rw [if_pos hk]
  exact part4 Tryz.infoCyH4 hu l k (by omega) w
def bkF (S : List Int) (k j : Nat) : Int := if j < 4 * k then S[j]?.getD 0 else 0
theorem bk_set (S : List Int) (k : Nat) (hk : k < 12) :
    ((((upto (bkF S k) 48).set (k * 4) (S[k * 4]?.getD 0)).set (k * 4 + 1) (S[k * 4 + 1]?.getD 0)).set (k * 4 + 2) (S[k * 4 + 2]?.getD 0)).set (k * 4 + 3) (S[k * 4 + 3]?.getD 0) = upto (bkF S (k + 1)) 48 := by
  rw [upto_set4 (bkF S k) (fun j => if j / 4 = k then cyAt (S[k * 4]?.getD 0, S[k * 4 + 1]?.getD 0, S[k * 4 + 2]?.getD 0, S[k * 4 + 3]?.getD 0) (j % 4) else bkF S k j) k hk (S[k * 4]?.getD 0, S[k * 4 + 1]?.getD 0, S[k * 4 + 2]?.getD 0, S[k * 4 + 3]?.getD 0) (fun j => rfl)]
  refine upto_congr fun j hj => ?_
  unfold bkF
  by_cases c : j / 4 = k
  · rw [if_pos c, if_pos (by omega)]
    have : j % 4 = 0 ∨ j % 4 = 1 ∨ j % 4 = 2 ∨ j % 4 = 3 := by omega
    rcases this with e | e | e | e
    · rw [e, show j = k * 4 by omega]; rfl
    · rw [e, show j = k * 4 + 1 by omega]; rfl
    · rw [e, show j = k * 4 + 2 by omega]; rfl
    · rw [e, show j = k * 4 + 3 by omega]; rfl
  · rw [if_neg c]
    by_cases c2 : j < 4 * k
    · rw [if_pos c2, if_pos (by omega)]
    · rw [if_neg c2, if_neg (by omega)]
theorem bk_all {S : List Int} (hS : S.length = 48) : upto (bkF S 12) 48 = S := by
  apply List.ext_getElem?
  intro j
  rw [upto_get]
  unfold bkF
  by_cases c : j < 48
  · rw [if_pos c, if_pos (by omega), List.getElem?_eq_getElem (by omega)]; rfl
  · rw [if_neg c, List.getElem?_eq_none (by omega)]

end

end Go.Proofs.YtfeajpkjjlddlaaGreatDoor

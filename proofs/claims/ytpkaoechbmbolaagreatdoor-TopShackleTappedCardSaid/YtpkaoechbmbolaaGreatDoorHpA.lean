/- The package harmonic: the extreme corner of a polygon; the greatest number of a list and its place. -/
import Derived.Test.YtpkaoechbmbolaaGreatDoorHarZ
namespace Go.Proofs.YtpkaoechbmbolaaGreatDoor
section
set_option linter.unusedSimpArgs false
set_option linter.unusedVariables false
open Go.RowKit

def maxN (l : List Int) : Nat → Int
  | 0 => l[0]?.getD 0
  | k + 1 => if maxN l k < l[k + 1]?.getD 0 then l[k + 1]?.getD 0 else maxN l k
def maxW (l : List Int) : Int := maxN l (l.length - 1)
def pickI (b : Bool) (x y : Int) : Int := bif b then x else y
def sumG (d p : Int × Int) : Int := wrap64 (wrap64 (p.1 * d.1) + wrap64 (p.2 * d.2))
def extE (l : List (Int × Int)) (d : Int × Int) : Int := firstE [polE l, pointE d, whenE (d.1 == 0 && d.2 == 0) 6]
def extL (l : List (Int × Int)) (d : Int × Int) : Int := findX (fun y => maxW (l.map (sumG d)) == y) (l.map (sumG d))
theorem polE_zero {l : List (Int × Int)} (h : polE l = 0) : 3 ≤ l.length ∧ l.length ≤ 8 := by
  have h1 : polN l = 0 := by
    unfold polE orE at h
    split at h
    · assumption
    · exact h
  unfold polN firstE whenE at h1
  by_cases a : (l.length : Int) < 3
  · simp [a] at h1
  · by_cases b : (8 : Int) < l.length
    · simp [a, b, firstE] at h1
    · omega
theorem firstE_head {a : Int} {l : List Int} (h : firstE (a :: l) = 0) : a = 0 := by
  unfold firstE at h
  by_cases ha : a = 0
  · exact ha
  · simp [ha] at h
end

section
set_option linter.unusedSimpArgs false
set_option linter.unusedVariables false
open Go.RowKit

theorem mulBd {x y A B : Int} (hx : -A ≤ x ∧ x ≤ A) (hy : -B ≤ y ∧ y ≤ B) : -(A * B) ≤ x * y ∧ x * y ≤ A * B := by
  have h1 : x.natAbs ≤ A.toNat := by omega
  have h2 : y.natAbs ≤ B.toNat := by omega
  have h3 : (x * y).natAbs ≤ A.toNat * B.toNat := by rw [Int.natAbs_mul]; exact Nat.mul_le_mul h1 h2
  have h4 : ((A.toNat * B.toNat : Nat) : Int) = A * B := by
    rw [Int.natCast_mul, Int.toNat_of_nonneg (by omega), Int.toNat_of_nonneg (by omega)]
  omega
theorem wrapSm {x : Int} (h : -4611686018427387904 ≤ x ∧ x ≤ 4611686018427387904) : wrap64 x = x := by unfold wrap64; omega
theorem firstE_mapOk {α : Type} {g : α → Int} {l : List α} (h : firstE (l.map g) = 0) : ∀ x ∈ l, g x = 0 := by
  induction l with
  | nil => simp
  | cons a l ih =>
    rw [List.map_cons] at h
    obtain ⟨h1, h2⟩ := firstE_cons_ok h
    intro x hx
    rcases List.mem_cons.1 hx with rfl | hx
    · exact h1
    · exact ih h2 x hx
theorem brE_zero {x : Int × Int} (h : brE x = 0) : (0 ≤ x.1 ∧ x.1 ≤ 50) ∧ (0 ≤ x.2 ∧ x.2 ≤ 2000) := by
  unfold brE at h
  obtain ⟨h1, h⟩ := firstE_cons_ok h
  obtain ⟨h2, _⟩ := firstE_cons_ok h
  unfold withinE at h1 h2
  constructor
  · by_cases c : x.1 < 0 ∨ 50 < x.1
    · simp [c] at h1
    · omega
  · by_cases c : x.2 < 0 ∨ 2000 < x.2
    · simp [c] at h2
    · omega
theorem fltE_zero {ls : List (Int × Int)} (h : fltE ls = 0) : (0 < ls.length ∧ ls.length ≤ 3) ∧ ∀ x ∈ ls, brE x = 0 := by
  unfold fltE orE at h
  by_cases hn : fltN ls = 0
  · rw [if_pos hn] at h
    refine ⟨?_, firstE_mapOk h⟩
    unfold fltN at hn
    obtain ⟨h1, hn⟩ := firstE_cons_ok hn
    obtain ⟨h2, _⟩ := firstE_cons_ok hn
    unfold whenE at h1 h2
    by_cases c : ((ls.length : Int) == 0) = true
    · simp [c] at h1
    · by_cases d : (3 : Int) < ls.length
      · simp [d] at h2
      · simp at c
        have : 0 < ls.length := List.length_pos_iff.2 c
        omega
  · rw [if_neg hn] at h; exact absurd h hn
theorem left_bd {x : Int × Int} {h : Int} (hx : brE x = 0) (hh : 0 ≤ h ∧ h ≤ 13) : leftB x h = x.2 - h * h * x.1 ∧ (-8450 ≤ leftB x h ∧ leftB x h ≤ 8450) := by
  obtain ⟨h1, h2⟩ := brE_zero hx
  have a1 := mulBd (x := h) (y := h) (A := 13) (B := 13) (by omega) (by omega)
  have a0 : 0 ≤ h * h := Int.mul_nonneg hh.1 hh.1
  generalize hq : h * h = q at a1 a0
  have b1 := mulBd (x := q) (y := x.1) (A := 169) (B := 50) (by omega) (by omega)
  have b0 : 0 ≤ q * x.1 := Int.mul_nonneg a0 h1.1
  have e : leftB x h = x.2 - q * x.1 := by
    unfold leftB
    rw [hq, wrapSm (x := q) (by omega), wrapSm (x := q * x.1) (by omega), wrapSm (by omega)]
  rw [e]
  omega
/-- a fraction whose parts are small. -/
def St (B : Int) (p : Int × Int) : Prop := (-B ≤ p.1 ∧ p.1 ≤ B) ∧ (-B ≤ p.2 ∧ p.2 ≤ B) ∧ p.2 ≠ 0
theorem susT_st {B : Int} {p x : Int × Int} {h : Int} (hp : St B p) (hB : 0 ≤ B ∧ B ≤ 100000000) (hx : brE x = 0) (hh : 0 ≤ h ∧ h ≤ 13) (ht : leftB x h ≠ 0) :
    St (10000 * B) (susT h p x) ∧ susT h p x = (p.1 * leftB x h + h * p.2, p.2 * leftB x h) := by
  obtain ⟨_, hl⟩ := left_bd hx hh
  obtain ⟨h1, h2, h3⟩ := hp
  have a := mulBd h1 hl
  have b := mulBd (x := h) (A := 13) (by omega) h2
  have c := mulBd h2 hl
  have d : p.2 * leftB x h ≠ 0 := Int.mul_ne_zero h3 ht
  have e : susT h p x = (p.1 * leftB x h + h * p.2, p.2 * leftB x h) := by
    unfold susT
    rw [wrapSm (x := p.1 * leftB x h) (by omega), wrapSm (x := h * p.2) (by omega), wrapSm (x := p.2 * leftB x h) (by omega), wrapSm (by omega)]
  refine ⟨?_, e⟩
  rw [e]
  exact ⟨by omega, by omega, d⟩
theorem susOk_of {ls : List (Int × Int)} {h : Int} (hf : fltE ls = 0) (hh : 0 ≤ h ∧ h ≤ 13) (ht : tunedB ls h = false) : SusOk ls h := by
  obtain ⟨⟨hl1, hl2⟩, hb⟩ := fltE_zero hf
  have ht' : ∀ x ∈ ls, leftB x h ≠ 0 := fun x hx => by
    unfold tunedB at ht
    rw [List.any_eq_false] at ht
    simpa using ht x hx
  have h0 : St 1 (0, 1) := ⟨by simp, by simp, by simp⟩
  have fin : ∀ B, B ≤ 1000000000000 → St B (susL ls h) → SusOk ls h := fun B hB hs => ⟨by have := hs.1; omega, by have := hs.2.1; omega, hs.2.2⟩
  match ls, hl1, hl2, hb, ht', fin with
  | [a], _, _, hb, ht', fin =>
    have s1 := (susT_st h0 (by omega) (hb a (by simp)) hh (ht' a (by simp))).1
    exact fin _ (by omega) s1
  | [a, b], _, _, hb, ht', fin =>
    have s1 := (susT_st h0 (by omega) (hb a (by simp)) hh (ht' a (by simp))).1
    have s2 := (susT_st s1 (by omega) (hb b (by simp)) hh (ht' b (by simp))).1
    exact fin _ (by omega) s2
  | [a, b, c], _, _, hb, ht', fin =>
    have s1 := (susT_st h0 (by omega) (hb a (by simp)) hh (ht' a (by simp))).1
    have s2 := (susT_st s1 (by omega) (hb b (by simp)) hh (ht' b (by simp))).1
    have s3 := (susT_st s2 (by omega) (hb c (by simp)) hh (ht' c (by simp))).1
    exact fin _ (by omega) s3

set_option maxHeartbeats 400000 in
theorem checkOrder_any (h : Int) (w : World) :
    Calls Tryz.prog 62 #[.int .i64 h] w fun r w' => r = .returned (.int .i64 (withinE h 1 12)) ∧ w = w' := by
  go_enter Tryz.func62, Tryz.ntmps62
  go_wp2_with fail
  refine (withinH_any _ _ _ _).mono ?_
  rintro e w' ⟨rfl, rfl⟩
  go_wp2_with fail
  go_ret
  exact ⟨rfl, rfl⟩
theorem withinE_zero {n lo hi : Int} (h : withinE n lo hi = 0) : lo ≤ n ∧ n ≤ hi := by
  unfold withinE at h
  by_cases c : n < lo ∨ hi < n
  · simp [c] at h
  · omega
def susE (ls : List (Int × Int)) (h : Int) : Int := firstE [fltE ls, withinE h 1 12]
/-- what Susceptance returns. -/
def susX (ls : List (Int × Int)) (h : Int) : (Int × Int) × Int := bif susE ls h == 0 then (bif tunedB ls h then ((0, 0), 17) else (susR ls h, 0)) else ((0, 0), susE ls h)
end

section
set_option linter.unusedSimpArgs false
set_option linter.unusedVariables false
open Go.RowKit

theorem fieldR0 (a b : Int) (w : World) : Sem.run Tryz.prog (Instr.field 165 (.agg #[.int .i64 a, .int .i64 b]) 0) w = .ok (.int .i64 a) w := by kernel_rfl
/-- a resonance between an order and the next one. -/
def crossB (a b : Int) : Bool := a == 0 || (negB a && decide (0 < b)) || (decide (0 < a) && negB b)
def resB (ls : List (Int × Int)) (h : Int) : Bool := bif tunedB ls h then false else bif tunedB ls (h + 1) then false else crossB (susR ls h).1 (susR ls (h + 1)).1
def resL (ls : List (Int × Int)) : List Int := chosenL (resB ls) 1 11
end

section
set_option linter.unusedSimpArgs false
set_option linter.unusedVariables false
open Go.RowKit

theorem Tryz.infoGauss : (Tryz.prog.info? 63).map (·.size) = some 2 := by kernel_rfl
def negI (x : Int) : Int := wrap64 (-x)
set_option maxRecDepth 100000 in
set_option maxHeartbeats 2000000 in
theorem point_any (v : Value) (ls : List (Int × Int)) (h : Int) (w : World) (hv : Pairs w v ls) (hl : ls.length ≤ 1000000) (hS : SusOk ls h) :
    Calls Tryz.prog 71 #[.agg #[v], .int .i64 h] w fun e w' => e = .returned (.tuple #[.agg #[.int .i64 0, .int .i64 (negI (susR ls h).1)], .int .i64 (susR ls h).2]) ∧ Below w.heap.size w w' := by
  have TS := Lib.hid (fun W hP => susceptance_any v ls h W hP hl hS)
  generalize susR ls h = s at TS ⊢
  obtain ⟨n, d⟩ := s
  obtain ⟨m, hm⟩ : ∃ m, m = negI n := ⟨_, rfl⟩
  simp only at TS ⊢
  rw [← hm]
  have em : IntKind.i64.wrap (-n) = m := by rw [hm, negI, wrapEq]
  have HV := Lib.hid hv
  obtain ⟨a, cp, rfl, _, _⟩ := id hv
  clear hv hS hm
  go_enter Tryz.func71, Tryz.ntmps71
  go_upto_region 1 with fail
  obtain ⟨W1, hW1⟩ : ∃ v, v = World.alloc w (Obj.cells #[.slice a ls.length cp] 34) := ⟨_, rfl⟩
  have kW1 : Below w.heap.size w W1 := by rw [hW1]; exact below_new _ _
  have iW1 : Blk W1 (w.heap.size) 34 [.slice a ls.length cp] := by rw [hW1]; exact Blk.new _ _ _
  have sW1 : W1.heap.size = w.heap.size + 1 := by rw [hW1]; simp
  rw [← hW1]
  clear hW1
  obtain ⟨W2, hW2⟩ : ∃ v, v = World.alloc W1 (Obj.cells #[.int .i64 0, .int .i64 0] 63) := ⟨_, rfl⟩
  have kW2 : Below W1.heap.size W1 W2 := by rw [hW2]; exact below_new _ _
  have iW2 : BlkI W2 (w.heap.size + 1) 63 (List.replicate 2 0) := by rw [hW2, ← sW1]; exact BlkI.new W1 63 (List.replicate 2 0)
  have sW2 : W2.heap.size = w.heap.size + 1 + 1 := by rw [hW2]; simp [sW1]
  rw [← hW2]
  clear hW2
  have i1 := iW1.carry kW2
  have i4 := iW2
  have hB := bthen kW1 kW2
  clear iW1 iW2 kW1 kW2 sW1 sW2
  have a0 := i1.cell (j := 0) (v := .slice a ls.length cp) rfl
  go_wp2_with fail
  refine (TS.out W2 (HV.out.carry hB)).mono ?_
  rintro e w3 ⟨rfl, hb⟩
  replace i4 := i4.carry hb
  replace hB := bthen hB hb
  clear hb a0 i1
  go_upto_region 2 with (refine wpList_storeA rfl _ _ _ rfl w3.heap.size [n, d] (List.replicate 2 0) rfl rfl (BlkI.new w3 165 (List.replicate 2 0)) rfl Tryz.infoRatio ?_)
  obtain ⟨W4, hW4⟩ : ∃ v, v = World.setRow (World.alloc w3 (Obj.cells #[.int .i64 0, .int .i64 0] 165)) w3.heap.size (ia ([n, d])) := ⟨_, rfl⟩
  have kW4 : Below w3.heap.size w3 W4 := by rw [hW4]; exact zrow_below _ _ _ _
  have iW4 : BlkI W4 w3.heap.size 165 ([n, d]) := by rw [hW4]; exact zrow_blk w3 _ (List.replicate 2 0) _
  rw [← hW4]
  clear hW4
  have i4p := i4
  replace i4 := i4.carry kW4
  replace hB := bthen hB kW4
  have hs4 : w.heap.size + 1 < w3.heap.size := Blk.lt i4p
  have hs5 : w.heap.size + 1 < W4.heap.size := Blk.lt i4
  obtain ⟨G, hG⟩ : ∃ G, G = w3.heap.size := ⟨_, rfl⟩
  have i6 := iW4
  rw [← hG] at i6 hs4 ⊢
  clear iW4 kW4 hG i4p
  refine wp_region_held_drew (S := (fun W => W.cell? ⟨G, 0, none⟩ = some (.int .i64 n) ∧ W.cell? ⟨G, 1, none⟩ = some (.int .i64 d))) (by kernel_rfl) ⟨BlkI.cell i6 (j := 0) (by simp), BlkI.cell i6 (j := 1) (by simp)⟩ (fun hHeld0 => ?_)
  obtain ⟨wzd, hwz⟩ : ∃ v, v = W4.drew := ⟨_, rfl⟩
  rw [← hwz] at hHeld0 ⊢
  have hbzd : Below w.heap.size w wzd := by rw [hwz]; exact hB.drew
  have hlzd : Below W4.heap.size W4 wzd := by rw [hwz]; exact (Below.refl _ _).drew
  have i4 := i4.carry hlzd
  have i6 := i6.carry hlzd
  clear hwz hlzd
  refine wpAnyH_take (i := 0) (oi := { dst := some 10, op := Op.fieldAddr 165 (Operand.tmp 6) 0, type := 0, pos := "filter.go:180", after := #[], guard := none }) (v := ?_) rfl (by kernel_rfl) (by kernel_rfl) (by kernel_rfl) (fun _ _ _ h => h) (Or.inl ⟨by rfl, ?_⟩) (by assumption) ?_
  rotate_left
  · (intro w hSw; (try dsimp only at hSw); go_simp); (try with_reducible rfl)
  try simp only [Act.put, List.setIfInBounds_toArray, List.set_cons_zero, List.set_cons_succ]
  refine wpAnyH_take (i := 1) (oi := { dst := some 11, op := Op.load 3 (Operand.tmp 10), type := 3, pos := "filter.go:180", after := #[{ on := 0, ground := Ground.data }], guard := none }) (v := ?_) rfl (by kernel_rfl) (by kernel_rfl) (by kernel_rfl) (fun _ _ _ h => h) (Or.inl ⟨by rfl, ?_⟩) (by assumption) ?_
  rotate_left
  · (intro w hSw; (try dsimp only at hSw); go_simp); (try with_reducible rfl)
  try simp only [Act.put, List.setIfInBounds_toArray, List.set_cons_zero, List.set_cons_succ]
  refine wpAnyH_take (i := 2) (oi := { dst := some 12, op := Op.unOp UnOp.neg 3 (Operand.tmp 11), type := 3, pos := "filter.go:180", after := #[{ on := 1, ground := Ground.data }], guard := none }) (v := ?_) rfl (by kernel_rfl) (by kernel_rfl) (by kernel_rfl) (fun _ _ _ h => h) (Or.inl ⟨by rfl, ?_⟩) (by assumption) ?_
  rotate_left
  · (intro w hSw; (try dsimp only at hSw); go_simp); (try with_reducible rfl)
  try simp only [Act.put, List.setIfInBounds_toArray, List.set_cons_zero, List.set_cons_succ]
  refine wpAnyH_take (i := 3) (oi := { dst := some 13, op := Op.build 63 #[(1, Operand.tmp 12)], type := 63, pos := "filter.go:180", after := #[{ on := 2, ground := Ground.data }], guard := none }) (v := ?_) rfl (by kernel_rfl) (by kernel_rfl) (by kernel_rfl) (fun _ _ _ h => h) (Or.inl ⟨by rfl, ?_⟩) (by assumption) ?_
  rotate_left
  · (intro w hSw; (try dsimp only at hSw); go_simp); (try with_reducible rfl)
  try simp only [Act.put, List.setIfInBounds_toArray, List.set_cons_zero, List.set_cons_succ]
  refine wpAnyH_take (i := 4) (oi := { dst := some 14, op := Op.fieldAddr 165 (Operand.tmp 6) 1, type := 0, pos := "filter.go:180", after := #[{ on := 6, ground := Ground.gcOnly Departure.lateStores }], guard := none }) (v := ?_) rfl (by kernel_rfl) (by kernel_rfl) (by kernel_rfl) (fun _ _ _ h => h) (Or.inl ⟨by rfl, ?_⟩) (by assumption) ?_
  rotate_left
  · (intro w hSw; (try dsimp only at hSw); go_simp); (try with_reducible rfl)
  try simp only [Act.put, List.setIfInBounds_toArray, List.set_cons_zero, List.set_cons_succ]
  refine wpAnyH_take (i := 5) (oi := { dst := some 15, op := Op.load 3 (Operand.tmp 14), type := 3, pos := "filter.go:180", after := #[{ on := 4, ground := Ground.data }, { on := 6, ground := Ground.gcOnly Departure.lateStores }], guard := none }) (v := ?_) rfl (by kernel_rfl) (by kernel_rfl) (by kernel_rfl) (fun _ _ _ h => h) (Or.inl ⟨by rfl, ?_⟩) (by assumption) ?_
  rotate_left
  · (intro w hSw; (try dsimp only at hSw); go_simp); (try with_reducible rfl)
  try simp only [Act.put, List.setIfInBounds_toArray, List.set_cons_zero, List.set_cons_succ]
  refine wpAnyH_ready (rs := [6]) (by kernel_rfl) (by simp) ?_
  refine (AllReadyH.cons (o := { dst := none, op := Op.store 63 (Operand.tmp 4) (Operand.tmp 13), type := 0, pos := "filter.go:180", after := #[{ on := 3, ground := Ground.data }, { on := 0, ground := Ground.phase }, { on := 1, ground := Ground.phase }, { on := 2, ground := Ground.phase }, { on := 3, ground := Ground.phase }, { on := 4, ground := Ground.textOnly Departure.lateStores }, { on := 5, ground := Ground.textOnly Departure.lateStores }], guard := none }) rfl (fun K hK => ?_) AllReadyH.nil)
  refine wp_storeA _ _ _ rfl (w.heap.size + 1) [0, m] [0, 0] rfl rfl i4 rfl Tryz.infoGauss ?_
  obtain ⟨wz6, hwz⟩ : ∃ v, v = World.setRow wzd (w.heap.size + 1) (ia [0, m]) := ⟨_, rfl⟩
  rw [← hwz]
  have hbz6 : Below w.heap.size w wz6 := by rw [hwz]; exact below_rowA hbzd (by omega) _
  replace i4 := BlkI.setRowA i4 [0, m]
  rw [← hwz] at i4
  replace i6 := BlkI.setRowO i6 (B' := w.heap.size + 1) (by omega) (ia [0, m])
  rw [← hwz] at i6
  clear hwz
  refine hK.out _ _ ⟨BlkI.cell i6 (j := 0) (by simp), BlkI.cell i6 (j := 1) (by simp)⟩ (fun hHeld1 => ?_)
  clear hK K hHeld0
  try simp only [Act.put, List.setIfInBounds_toArray, List.set_cons_zero, List.set_cons_succ]
  refine wpAnyH_take (i := 7) (oi := { dst := some 5, op := Op.assign (Operand.tmp 15), type := 3, pos := "filter.go:180", after := #[{ on := 5, ground := Ground.data }, { on := 6, ground := Ground.chain }, { on := 0, ground := Ground.phase }, { on := 1, ground := Ground.phase }, { on := 2, ground := Ground.phase }, { on := 3, ground := Ground.phase }, { on := 4, ground := Ground.phase }, { on := 5, ground := Ground.phase }, { on := 6, ground := Ground.phase }], guard := none }) (v := ?_) rfl (by kernel_rfl) (by kernel_rfl) (by kernel_rfl) (fun _ _ _ h => h) (Or.inl ⟨by rfl, ?_⟩) (by assumption) ?_
  rotate_left
  · (intro w hSw; (try dsimp only at hSw); go_simp); (try with_reducible rfl)
  try simp only [Act.put, List.setIfInBounds_toArray, List.set_cons_zero, List.set_cons_succ]
  refine wpAnyH_done (by kernel_rfl) ?_ _
  clear hHeld1
  have hB := hbz6
  obtain ⟨W5, hW5⟩ : ∃ v, v = wz6 := ⟨_, rfl⟩
  rw [← hW5] at hB i4 ⊢
  clear hW5
  go_wp2_with fail
  have z0 : W5.cell? ⟨w.heap.size + 1, 0, none⟩ = some (.int .i64 0) := BlkI.cell i4 (j := 0) (by simp)
  have z1 : W5.cell? ⟨w.heap.size + 1, 1, none⟩ = some (.int .i64 m) := BlkI.cell i4 (j := 1) (by simp)
  exact bodyPost_ret (v := .tuple #[.agg #[.int .i64 0, .int .i64 m], .int .i64 d]) (by simp [results, Tryz.f71, go_sem, z0, z1]) rfl ⟨rfl, hB⟩

/-- a filter meets a polygon. -/
def meetB (ls l : List (Int × Int)) (h : Int) : Bool := bif tunedB ls h then false else negB (outL l (0, negI (susR ls h).1) (susR ls h).2)
set_option maxRecDepth 100000 in
set_option maxHeartbeats 2000000 in
theorem meets_any (v u : Value) (ls l : List (Int × Int)) (h : Int) (w : World) (hv : Pairs w v ls) (hl : ls.length ≤ 1000000) (hu : Pairs w u l) (hlu : l.length ≤ 1000000) (hS : tunedB ls h = false → SusOk ls h) :
    Calls Tryz.prog 34 #[.agg #[v], u, .int .i64 h] w fun e w' => e = .returned (.bool (meetB ls l h)) ∧ Below w.heap.size w w' := by
  obtain ⟨r, hr⟩ : ∃ r, r = meetB ls l h := ⟨_, rfl⟩
  rw [← hr]
  rw [meetB] at hr
  have TT := Lib.hid (fun W hP => tuned_any v ls h W hP hl)
  have TP := Lib.hid (fun W hP hS => point_any v ls h W hP hl hS)
  generalize tunedB ls h = t at TT hr hS
  generalize susR ls h = s at TP hr
  obtain ⟨n, d⟩ := s
  simp only at TP hr
  generalize negI n = m at TP hr
  have TO := Lib.hid (fun W hP => outside_any u l (0, m) d W hP hlu)
  generalize outL l (0, m) d = o at TO hr
  have HR := Lib.hid hr
  have HV := Lib.hid hv
  have HU := Lib.hid hu
  obtain ⟨a, cp, rfl, _, _⟩ := id hv
  obtain ⟨a2, cp2, rfl, _, _⟩ := id hu
  clear hv hu hr
  go_enter Tryz.func34, Tryz.ntmps34
  go_upto_region 1 with fail
  obtain ⟨W1, hW1⟩ : ∃ v, v = World.alloc w (Obj.cells #[.slice a ls.length cp] 34) := ⟨_, rfl⟩
  have kW1 : Below w.heap.size w W1 := by rw [hW1]; exact below_new _ _
  have iW1 : Blk W1 (w.heap.size) 34 [.slice a ls.length cp] := by rw [hW1]; exact Blk.new _ _ _
  have sW1 : W1.heap.size = w.heap.size + 1 := by rw [hW1]; simp
  rw [← hW1]
  clear hW1
  have i1 := iW1
  have hB := kW1
  clear iW1 kW1 sW1
  have a0 := i1.cell (j := 0) (v := .slice a ls.length cp) rfl
  go_wp2_with fail
  refine (TT.out W1 (HV.out.carry hB)).mono ?_
  rintro e w3 ⟨rfl, hb⟩
  have a0 := cellb a0 hb
  replace hB := bthen hB hb
  clear hb i1
  cases t
  · have TP2 := Lib.hid (TP.out w3 (HV.out.carry hB) (hS rfl))
    clear hS TP
    go_wp2_with fail
    refine TP2.out.mono ?_
    rintro e w4 ⟨rfl, hb⟩
    replace hB := bthen hB hb
    clear hb a0
    go_upto_region 4 with (refine wpList_storeA rfl _ _ _ rfl w4.heap.size [0, m] (List.replicate 2 0) rfl rfl (BlkI.new w4 63 (List.replicate 2 0)) rfl Tryz.infoGauss ?_)
    obtain ⟨W5, hW5⟩ : ∃ v, v = World.setRow (World.alloc w4 (Obj.cells #[.int .i64 0, .int .i64 0] 63)) w4.heap.size (ia ([0, m])) := ⟨_, rfl⟩
    have kW5 : Below w4.heap.size w4 W5 := by rw [hW5]; exact zrow_below _ _ _ _
    have iW5 : BlkI W5 w4.heap.size 63 ([0, m]) := by rw [hW5]; exact zrow_blk w4 _ (List.replicate 2 0) _
    rw [← hW5]
    clear hW5
    replace hB := bthen hB kW5
    have c0 : W5.cell? ⟨w4.heap.size, 0, none⟩ = some (.int .i64 0) := BlkI.cell iW5 (j := 0) (by simp)
    have c1 : W5.cell? ⟨w4.heap.size, 1, none⟩ = some (.int .i64 m) := BlkI.cell iW5 (j := 1) (by simp)
    clear iW5 kW5
    have TO2 := Lib.hid (TO.out W5 (HU.out.carry hB))
    go_wp2_with fail
    refine TO2.out.mono ?_
    rintro e w6 ⟨rfl, hb⟩
    go_wp2
    go_ret
    exact ⟨ret_bool HR.out.symm, bthen hB hb⟩
  · clear hS TP
    go_wp2
    go_ret
    exact ⟨ret_bool HR.out.symm, hB⟩

def meeE (ls l : List (Int × Int)) (h : Int) : Int := firstE [fltE ls, polE l, withinE h 1 12]
theorem meeE_zero {ls l : List (Int × Int)} {h : Int} (he : meeE ls l h = 0) : fltE ls = 0 ∧ polE l = 0 ∧ 1 ≤ h ∧ h ≤ 12 := by
  unfold meeE at he
  obtain ⟨h1, he⟩ := firstE_cons_ok he
  obtain ⟨h2, he⟩ := firstE_cons_ok he
  obtain ⟨h3, _⟩ := firstE_cons_ok he
  exact ⟨h1, h2, withinE_zero h3⟩
set_option maxRecDepth 100000 in
set_option maxHeartbeats 1000000 in
theorem checkMeeting_any (v u : Value) (ls l : List (Int × Int)) (h : Int) (w : World) (hv : Pairs w v ls) (hl : ls.length ≤ 1000000) (hu : Pairs w u l) (hlu : l.length ≤ 1000000) :
    Calls Tryz.prog 49 #[.agg #[v], u, .int .i64 h] w fun e w' => e = .returned (.int .i64 (meeE ls l h)) ∧ Below w.heap.size w w' := by
  have TC := Lib.hid (fun W hP => CheckFilter_any v ls W hP hl)
  have TP := Lib.hid (fun W hP => CheckPolygon_any u l W hP hlu)
  have TH := Lib.hid (fun W => checkOrder_any h W)
  rw [meeE]
  generalize fltE ls = e1 at TC ⊢
  generalize polE l = e2 at TP ⊢
  generalize withinE h 1 12 = e3 at TH ⊢
  have TF := Lib.hid (fun (u : Value) (W : World) (h : Ints W u [e1, e2, e3]) => firstH_any u [e1, e2, e3] W (by simp [maxLen]) h)
  generalize firstE [e1, e2, e3] = E at TF ⊢
  have HV := Lib.hid hv
  have HU := Lib.hid hu
  obtain ⟨a, cp, rfl, _, _⟩ := id hv
  obtain ⟨a2, cp2, rfl, _, _⟩ := id hu
  clear hv hu
  go_enter Tryz.func49, Tryz.ntmps49
  go_upto_region 1 with fail
  obtain ⟨W1, hW1⟩ : ∃ v, v = World.alloc w (Obj.cells #[.slice a ls.length cp] 34) := ⟨_, rfl⟩
  have kW1 : Below w.heap.size w W1 := by rw [hW1]; exact below_new _ _
  have iW1 : Blk W1 (w.heap.size) 34 [.slice a ls.length cp] := by rw [hW1]; exact Blk.new _ _ _
  have sW1 : W1.heap.size = w.heap.size + 1 := by rw [hW1]; simp
  rw [← hW1]
  clear hW1
  have a0 := iW1.cell (j := 0) (v := .slice a ls.length cp) rfl
  have hB := kW1
  clear iW1 kW1 sW1
  go_wp2_with fail
  refine (TC.out W1 (HV.out.carry hB)).mono ?_
  rintro e w3 ⟨rfl, hb⟩
  replace hB := bthen hB hb
  clear hb a0
  go_wp2_with fail
  refine (TP.out w3 (HU.out.carry hB)).mono ?_
  rintro e w4 ⟨rfl, hb⟩
  replace hB := bthen hB hb
  clear hb
  go_wp2_with fail
  refine (TH.out w4).mono ?_
  rintro e w' ⟨rfl, rfl⟩
  go_wp2_with fail
  obtain ⟨W4, hW4⟩ : ∃ v, v = World.alloc w4 (Obj.cells #[.int .i64 e1, .int .i64 e2, .int .i64 e3] 39) := ⟨_, rfl⟩
  have kW4 : Below w4.heap.size w4 W4 := by rw [hW4]; exact below_new _ _
  have iW4 : Blk W4 (w4.heap.size) 39 [.int .i64 e1, .int .i64 e2, .int .i64 e3] := by rw [hW4]; exact Blk.new _ _ _
  have sW4 : W4.heap.size = w4.heap.size + 1 := by rw [hW4]; simp
  rw [← hW4]
  clear hW4
  refine (TF.out _ W4 (BlkI.ints (l := [e1, e2, e3]) iW4 rfl)).mono ?_
  rintro e w' ⟨rfl, rfl⟩
  go_wp2_with fail
  go_ret
  exact ⟨rfl, bthen hB kW4⟩
set_option maxRecDepth 100000 in
set_option maxHeartbeats 1000000 in
theorem Meets_any (v u : Value) (ls l : List (Int × Int)) (h : Int) (w : World) (hv : Pairs w v ls) (hl : ls.length ≤ 1000000) (hu : Pairs w u l) (hlu : l.length ≤ 1000000) :
    Calls Tryz.prog 15 #[.agg #[v], u, .int .i64 h] w fun e w' => e = .returned (.tuple #[.bool (bOr (meeE ls l h) (meetB ls l h)), .int .i64 (meeE ls l h)]) ∧ Below w.heap.size w w' := by
  have hso : meeE ls l h = 0 → tunedB ls h = false → SusOk ls h := fun he ht => by
    obtain ⟨h1, _, h3⟩ := meeE_zero he
    exact susOk_of h1 (by omega) ht
  have TC := Lib.hid (fun W hP hQ => checkMeeting_any v u ls l h W hP hl hQ hlu)
  have TM := Lib.hid (fun (W : World) hP hQ (he : meeE ls l h = 0) => meets_any v u ls l h W hP hl hQ hlu (hso he))
  clear hso
  generalize meeE ls l h = E at TC TM ⊢
  generalize meetB ls l h = m at TM ⊢
  have HV := Lib.hid hv
  have HU := Lib.hid hu
  obtain ⟨a, cp, rfl, _, _⟩ := id hv
  obtain ⟨a2, cp2, rfl, _, _⟩ := id hu
  clear hv hu
  go_enter Tryz.func15, Tryz.ntmps15
  go_upto_region 1 with fail
  obtain ⟨W1, hW1⟩ : ∃ v, v = World.alloc w (Obj.cells #[.slice a ls.length cp] 34) := ⟨_, rfl⟩
  have kW1 : Below w.heap.size w W1 := by rw [hW1]; exact below_new _ _
  have iW1 : Blk W1 (w.heap.size) 34 [.slice a ls.length cp] := by rw [hW1]; exact Blk.new _ _ _
  have sW1 : W1.heap.size = w.heap.size + 1 := by rw [hW1]; simp
  rw [← hW1]
  clear hW1
  have a0 := iW1.cell (j := 0) (v := .slice a ls.length cp) rfl
  have hB := kW1
  clear iW1 kW1 sW1
  go_wp2_with fail
  refine (TC.out W1 (HV.out.carry hB) (HU.out.carry hB)).mono ?_
  rintro e w3 ⟨rfl, hb⟩
  have a0 := cellb a0 hb
  replace hB := bthen hB hb
  clear hb
  by_cases he : E = 0
  · subst he
    have TM2 := Lib.hid (TM.out w3 (HV.out.carry hB) (HU.out.carry hB) (by trivial))
    clear TM
    go_wp2_with fail
    refine TM2.out.mono ?_
    rintro e w6 ⟨rfl, hb⟩
    go_wp2
    go_ret2
    exact ⟨rfl, bthen hB hb⟩
  · have z : (E == 0) = false := by rw [beq_eq_false_iff_ne]; exact he
    have HNE := Lib.hid z
    go_wp2_with fail
    go_ret2
    exact ⟨by rw [bOr, HNE.out]; rfl, hB⟩
end

end Go.Proofs.YtpkaoechbmbolaaGreatDoor

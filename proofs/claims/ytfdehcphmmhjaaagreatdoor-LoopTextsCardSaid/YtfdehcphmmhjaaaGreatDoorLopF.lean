/- Texts of loops: the reference's Text and Print. -/
import Derived.Test.YtfdehcphmmhjaaaGreatDoorLopA
import Derived.Lib.ItoaMem
import Derived.Laws.BytesArg
namespace Go.Proofs.YtfdehcphmmhjaaaGreatDoor
set_option linter.unusedSimpArgs false
set_option linter.unusedVariables false
open Go.RowKit

theorem exec_conv {P : Program} {ρ : Operand → Value} {o : Oper} {src dst : TypeId} {x : Operand} {v : Value} {w : World} (hop : o.op = Op.convert src dst x) (h : Sem.run P (convert src dst (ρ x)) w = .ok v w) : (execOp ρ o).run P w = .ok (.value v) w := by
  unfold execOp
  simp [hop, h, eqGuard, Result.andThen]
def decB (n : Nat) : ByteArray := ⟨(Lib.decDigits n).toArray⟩
theorem decB_small {n : Nat} (h : n < 10) : decB n = strOfNums [48 + (n : Int)] := by
  apply baEq
  rw [strOfNums_data]
  show Lib.decDigits n = _
  rw [Lib.decDigits, dif_pos h]
  simp only [List.map_cons, List.map_nil]
  rw [show (48 + (n : Int)).toNat = 48 + n by omega]
theorem decB_big {n : Nat} (h : ¬ n < 10) : decB n = decB (n / 10) ++ strOfNums [48 + ((n % 10 : Nat) : Int)] := by
  apply baEq
  rw [data_append, strOfNums_data]
  show Lib.decDigits n = Lib.decDigits (n / 10) ++ _
  rw [Lib.decDigits, dif_neg h]
  simp only [List.map_cons, List.map_nil]
  rw [show (48 + ((n % 10 : Nat) : Int)).toNat = 48 + n % 10 by omega]
theorem decB_len : ∀ (d n : Nat), n < 10 ^ d → (decB n).size ≤ d + 1
  | 0, n, h => by
    obtain rfl : n = 0 := by simpa using h
    rw [decB_small (by decide), strOfNums_size]; simp
  | d + 1, n, h => by
    by_cases h10 : n < 10
    · rw [decB_small h10, strOfNums_size]; simp
    · have := decB_len d (n / 10) (by rw [Nat.pow_succ] at h; omega)
      rw [decB_big h10, ByteArray.size_append, strOfNums_size, List.length_singleton]
      omega
theorem convB {W : World} {g : Nat} {x : Int} (hc : W.cell? ⟨g, 0, none⟩ = some (.int .u8 x)) : Sem.run Tryz.prog (convert 142 9 (.slice (some ⟨g, 0, none⟩) 1 1)) W = .ok (.string (strOfNums [x])) W :=
  run_convert_bytes_arg W 142 5 Tryz.underlying142 Tryz.underlying5 g 0 1 1 [x] rfl (fun i hi => match i, hi with | 0, _ => hc) 9 Tryz.underlying9
set_option maxRecDepth 100000 in
theorem Text_any.small (n : Nat) (w : World) (h10 : n < 10) :
    Calls Tryz.prog 52 #[.int .i64 (n : Int)] w fun e w' => e = .returned (.string (decB n)) ∧ Below w.heap.size w w' := by
  have d0 : ¬ (n : Int) < 0 := by omega
  have d1 : (n : Int) < 10 := by omega
  have v0 : IntKind.i64.wrap (48 + (n : Int)) = 48 + (n : Int) := IntWalk.i64_in _ (by omega)
  have v1 : IntKind.u8.wrap (48 + (n : Int)) = 48 + (n : Int) := IntWalk.u8_in _ (by omega)
  have hcv := convB (W := w.alloc (.cells #[.int .u8 (48 + (n : Int))] 5)) (g := w.heap.size) (x := 48 + (n : Int)) (cell_new w _ _ 0)
  have HS := Lib.hid (decB_small h10)
  go_enter Tryz.func52, Tryz.ntmps52
  go_wp2
  go_ret
  exact ⟨by rw [HS.out]; rfl, below_new _ _⟩
set_option maxRecDepth 100000 in
set_option maxHeartbeats 4000000 in
theorem Text_any : ∀ (d n : Nat) (w : World), n < 10 ^ d → n ≤ 1000000000 → d ≤ 9 →
    Calls Tryz.prog 52 #[.int .i64 (n : Int)] w fun e w' => e = .returned (.string (decB n)) ∧ Below w.heap.size w w'
  | 0, n, w, h, hn, _ => Text_any.small n w (by rw [Nat.pow_zero] at h; omega)
  | d + 1, n, w, h, hn, hd => by
    by_cases h10 : n < 10
    · exact Text_any.small n w h10
    · have d0 : ¬ (n : Int) < 0 := by omega
      have d1 : ¬ (n : Int) < 10 := by omega
      have T := Lib.hid (fun W => Text_any d (n / 10) W (by rw [Nat.pow_succ] at h; omega) (by omega) (by omega))
      have HL := Lib.hid (decB_len d (n / 10) (by rw [Nat.pow_succ] at h; omega))
      have HS := Lib.hid (decB_big h10)
      obtain ⟨q, hq⟩ : ∃ q, q = n / 10 := ⟨_, rfl⟩
      obtain ⟨r, hr⟩ : ∃ r, r = n % 10 := ⟨_, rfl⟩
      have v0 : IntKind.i64.wrap (Int.tdiv (n : Int) 10) = (q : Int) := by
        rw [hq, show Int.tdiv (n : Int) 10 = ((n / 10 : Nat) : Int) from rfl]
        exact IntWalk.i64_in _ (by omega)
      have v0' : IntKind.i64.wrap ((n : Int) / 10) = (q : Int) := by
        rw [hq]
        exact (IntWalk.i64_in _ (by omega)).trans (by omega)
      have v1 : Int.tmod (n : Int) 10 = (r : Int) := by rw [hr]; rfl
      have v1' : (n : Int) % 10 = (r : Int) := by omega
      rw [← hq] at T HL HS
      rw [← hr] at HS
      have hr9 : r < 10 := by omega
      clear hq hr h
      have v2 : IntKind.i64.wrap (48 + (r : Int)) = 48 + (r : Int) := IntWalk.i64_in _ (by omega)
      have v3 : IntKind.u8.wrap (48 + (r : Int)) = 48 + (r : Int) := IntWalk.u8_in _ (by omega)
      have hcat : ∀ W, Sem.run Tryz.prog (binOp .add 9 (.string (decB q)) (.string (strOfNums [48 + (r : Int)]))) W = .ok (.string (decB n)) W := fun W => by
        rw [HS.out]
        exact catS2 _ _ _ _ (by rw [strOfNums_size]; have := HL.out; simp; omega)
      go_enter Tryz.func52, Tryz.ntmps52
      go_upto_region 7 with fail
      refine wp_region_E 99 (by kernel_rfl) ?_
      obtain ⟨wz, hwz⟩ : ∃ v, v = w.drew := ⟨_, rfl⟩
      rw [← hwz]
      have hlz : Below w.heap.size w wz := by rw [hwz]; exact (Below.refl _ _).drew
      have hbz := bthen (Below.refl _ _) hlz
      clear hwz hlz
      refine wpAnyE_take (i := 0) (oi := { dst := some 26, op := Op.move (Operand.tmp 0), type := 3, pos := "words.go:21", after := #[], guard := none }) (v := ?_) rfl (by kernel_rfl) (by kernel_rfl) (by kernel_rfl) (by kernel_rfl) (fun _ _ _ h => h) (Or.inl ⟨by rfl, ?_⟩) ?_
      rotate_left
      · (intro w hE; (try dsimp only); go_simp); (try with_reducible rfl)
      try simp only [Act.put, List.setIfInBounds_toArray, List.set_cons_zero, List.set_cons_succ]
      refine wpAnyE_take (i := 1) (oi := { dst := some 27, op := Op.binOp BinOp.quo 3 (Operand.tmp 26) (Operand.const (Value.int IntKind.i64 10)) 3, type := 3, pos := "words.go:21", after := #[{ on := 0, ground := Ground.data }], guard := none }) (v := ?_) rfl (by kernel_rfl) (by kernel_rfl) (by kernel_rfl) (by kernel_rfl) (fun _ _ _ h => h) (Or.inl ⟨by rfl, ?_⟩) ?_
      rotate_left
      · (intro w hE; (try dsimp only); go_simp); (try with_reducible rfl)
      try simp only [Act.put, List.setIfInBounds_toArray, List.set_cons_zero, List.set_cons_succ]
      refine wpAnyE_take (i := 3) (oi := { dst := some 29, op := Op.move (Operand.tmp 0), type := 3, pos := "words.go:21", after := #[], guard := none }) (v := ?_) rfl (by kernel_rfl) (by kernel_rfl) (by kernel_rfl) (by kernel_rfl) (fun _ _ _ h => h) (Or.inl ⟨by rfl, ?_⟩) ?_
      rotate_left
      · (intro w hE; (try dsimp only); go_simp); (try with_reducible rfl)
      try simp only [Act.put, List.setIfInBounds_toArray, List.set_cons_zero, List.set_cons_succ]
      refine wpAnyE_take (i := 4) (oi := { dst := some 30, op := Op.binOp BinOp.rem 3 (Operand.tmp 29) (Operand.const (Value.int IntKind.i64 10)) 3, type := 3, pos := "words.go:21", after := #[{ on := 3, ground := Ground.data }], guard := none }) (v := ?_) rfl (by kernel_rfl) (by kernel_rfl) (by kernel_rfl) (by kernel_rfl) (fun _ _ _ h => h) (Or.inl ⟨by rfl, ?_⟩) ?_
      rotate_left
      · (intro w hE; (try dsimp only); go_simp); (try with_reducible rfl)
      try simp only [Act.put, List.setIfInBounds_toArray, List.set_cons_zero, List.set_cons_succ]
      refine wpAnyE_take (i := 5) (oi := { dst := some 31, op := Op.binOp BinOp.add 3 (Operand.const (Value.int IntKind.i64 48)) (Operand.tmp 30) 3, type := 3, pos := "words.go:21", after := #[{ on := 4, ground := Ground.data }], guard := none }) (v := ?_) rfl (by kernel_rfl) (by kernel_rfl) (by kernel_rfl) (by kernel_rfl) (fun _ _ _ h => h) (Or.inl ⟨by rfl, ?_⟩) ?_
      rotate_left
      · (intro w hE; (try dsimp only); go_simp); (try with_reducible rfl)
      try simp only [Act.put, List.setIfInBounds_toArray, List.set_cons_zero, List.set_cons_succ]
      refine wpAnyE_take (i := 6) (oi := { dst := some 32, op := Op.convert 3 5 (Operand.tmp 31), type := 5, pos := "words.go:21", after := #[{ on := 5, ground := Ground.data }], guard := none }) (v := ?_) rfl (by kernel_rfl) (by kernel_rfl) (by kernel_rfl) (by kernel_rfl) (fun _ _ _ h => h) (Or.inl ⟨by rfl, ?_⟩) ?_
      rotate_left
      · (intro w hE; (try dsimp only); go_simp); (try with_reducible rfl)
      try simp only [Act.put, List.setIfInBounds_toArray, List.set_cons_zero, List.set_cons_succ]
      refine wpAnyE_call (i := 2) (oi := { dst := some 28, op := Op.call { callee := Callee.value (Operand.func 52), args := #[Operand.tmp 27], argTypes := #[3] }, type := 9, pos := "words.go:21", after := #[{ on := 1, ground := Ground.data }], guard := none }) (fun w hE => T.out w) rfl (by kernel_rfl) (by kernel_rfl) (by kernel_rfl) (by kernel_rfl) (fun _ _ _ h => h) (by rfl) (fun w hE => by (try dsimp only); go_simp) ?_
      try simp only [Act.put, List.setIfInBounds_toArray, List.set_cons_zero, List.set_cons_succ]
      refine wpAnyE_one (i := 7) (o := { dst := some 33, op := Op.buildSlice 142 1 #[(0, Operand.tmp 32)], type := 142, pos := "words.go:21", after := #[{ on := 6, ground := Ground.data }], guard := none }) (by kernel_rfl) rfl (fun wy1 hE K hK => ?_)
      have hbz1 := bthen hbz hE
      clear hE
      go_simp
      obtain ⟨wx1, hwz⟩ : ∃ v, v = wy1.alloc (.cells #[.int .u8 (48 + (r : Int))] 5) := ⟨_, rfl⟩
      rw [← hwz]
      have hl : Below wy1.heap.size wy1 wx1 := by rw [hwz]; exact below_new _ _
      have hcz1 := bthen hbz1 hl
      have iN : Blk wx1 wy1.heap.size 5 [.int .u8 (48 + (r : Int))] := by rw [hwz]; exact Blk.new _ _ _
      generalize wy1.heap.size = G at iN ⊢
      clear hwz
      refine hK _ _ (fun _ => hl) ?_
      clear hK K hl
      try simp only [Act.put, List.setIfInBounds_toArray, List.set_cons_zero, List.set_cons_succ]
      refine wpAnyE_take (i := 8) (oi := { dst := some 34, op := Op.convert 142 9 (Operand.tmp 33), type := 9, pos := "words.go:21", after := #[{ on := 7, ground := Ground.data }], guard := none }) (v := ?_) rfl (by kernel_rfl) (by kernel_rfl) (by kernel_rfl) (by kernel_rfl) (fun _ _ _ h => h) (Or.inl ⟨by rfl, ?_⟩) ?_
      rotate_left
      · (intro w hE; (try dsimp only); refine Eq.trans (exec_conv (v := .string (strOfNums [48 + (r : Int)])) rfl (convB (Blk.cell (iN.carry hE) (j := 0) (v := .int .u8 (48 + (r : Int))) rfl))) ?_); (try with_reducible rfl)
      try simp only [Act.put, List.setIfInBounds_toArray, List.set_cons_zero, List.set_cons_succ]
      refine wpAnyE_take (i := 9) (oi := { dst := some 35, op := Op.binOp BinOp.add 9 (Operand.tmp 28) (Operand.tmp 34) 9, type := 9, pos := "words.go:21", after := #[{ on := 2, ground := Ground.data }, { on := 8, ground := Ground.data }], guard := none }) (v := ?_) rfl (by kernel_rfl) (by kernel_rfl) (by kernel_rfl) (by kernel_rfl) (fun _ _ _ h => h) (Or.inl ⟨by rfl, ?_⟩) ?_
      rotate_left
      · (intro w hE; (try dsimp only); refine Eq.trans (exec_add (v := .string (decB n)) rfl (hcat w)) ?_); (try with_reducible rfl)
      try simp only [Act.put, List.setIfInBounds_toArray, List.set_cons_zero, List.set_cons_succ]
      refine wpAnyE_take (i := 10) (oi := { dst := some 2, op := Op.assign (Operand.tmp 35), type := 9, pos := "words.go:21", after := #[{ on := 9, ground := Ground.data }, { on := 2, ground := Ground.chain }, { on := 0, ground := Ground.phase }, { on := 1, ground := Ground.phase }, { on := 2, ground := Ground.phase }, { on := 3, ground := Ground.phase }, { on := 4, ground := Ground.phase }, { on := 5, ground := Ground.phase }, { on := 6, ground := Ground.phase }, { on := 7, ground := Ground.phase }, { on := 8, ground := Ground.phase }, { on := 9, ground := Ground.phase }], guard := none }) (v := ?_) rfl (by kernel_rfl) (by kernel_rfl) (by kernel_rfl) (by kernel_rfl) (fun _ _ _ h => h) (Or.inl ⟨by rfl, ?_⟩) ?_
      rotate_left
      · (intro w hE; (try dsimp only); go_simp); (try with_reducible rfl)
      try simp only [Act.put, List.setIfInBounds_toArray, List.set_cons_zero, List.set_cons_succ]
      refine wpAnyE_done (by kernel_rfl) (fun wy2 hE => ?_) _
      have hbz2 := bthen hcz1 hE
      have iN := iN.carry hE
      clear hE
      have hq := hbz2
      go_wp2_with fail
      go_ret
      exact ⟨rfl, hq⟩
theorem word_dec {n : Int} (h : 0 ≤ n) : word n = decB n.toNat := by
  unfold word decB
  obtain ⟨m, rfl⟩ : ∃ m : Nat, n = (m : Int) := ⟨n.toNat, by omega⟩
  rw [Lib.itoa_nonneg, Int.toNat_natCast]
/-- the numeral of a negative number. -/
def negB (n : Nat) : ByteArray := ⟨(45 :: Lib.decDigits n).toArray⟩
theorem negB_small {n : Nat} (h : n < 10) : negB n = (⟨#[45]⟩ : ByteArray) ++ decB n := by
  apply baEq
  rw [data_append]
  simp [negB, decB]
theorem negB_big {n : Nat} (h : ¬ n < 10) : negB n = negB (n / 10) ++ decB (n % 10) := by
  apply baEq
  rw [data_append]
  show 45 :: Lib.decDigits n = 45 :: Lib.decDigits (n / 10) ++ Lib.decDigits (n % 10)
  rw [Lib.decDigits, dif_neg h]
  conv => rhs; rhs; rw [Lib.decDigits, dif_pos (by omega : n % 10 < 10)]
  simp
theorem negB_len (d n : Nat) (h : n < 10 ^ d) : (negB n).size ≤ d + 2 := by
  have h1 := decB_len d n h
  unfold decB at h1
  unfold negB
  rw [mk_size] at h1 ⊢
  rw [List.length_cons]; omega
theorem word_neg {n : Nat} (h : 1 ≤ n) : word (-(n : Int)) = negB n := by
  unfold word negB
  rw [Lib.itoa_neg n h]
theorem dec_small_len {n : Nat} (h : n < 10) : (decB n).size ≤ 2 := by
  have := decB_len 1 n (by omega)
  omega
set_option maxRecDepth 100000 in
set_option maxHeartbeats 4000000 in
theorem Text_neg : ∀ (d n : Nat) (w : World), n < 10 ^ d → 1 ≤ n → n ≤ 1000000000 → d ≤ 9 →
    Calls Tryz.prog 52 #[.int .i64 (-(n : Int))] w fun e w' => e = .returned (.string (negB n)) ∧ Below w.heap.size w w'
  | 0, n, w, h, h1, _, _ => by rw [Nat.pow_zero] at h; omega
  | d + 1, n, w, h, h1, hn, hd => by
    have d0 : -(n : Int) < 0 := by omega
    by_cases h10 : n < 10
    · have d1 : -10 < -(n : Int) := by omega
      have T := Lib.hid (fun W => Text_any.small n W h10)
      have v0 : IntKind.i64.wrap (0 - -(n : Int)) = (n : Int) := (IntWalk.i64_in _ (by omega)).trans (by omega)
      have v1 : IntKind.i64.wrap (n : Int) = (n : Int) := IntWalk.i64_in _ (by omega)
      have hs := dec_small_len h10
      have HS := Lib.hid (negB_small h10)
      generalize decB n = b at T hs HS
      go_enter Tryz.func52, Tryz.ntmps52
      go_wp2_with fail
      refine (T.out w).mono ?_
      rintro e w1 ⟨rfl, hb⟩
      have hz : (⟨#[45]⟩ : ByteArray).size = 1 := rfl
      have hc : (⟨#[45]⟩ : ByteArray).size + b.size ≤ 1000 := by omega
      go_wp2
      go_ret
      exact ⟨by rw [HS.out]; rfl, hb⟩
    · have d1 : ¬ -10 < -(n : Int) := by omega
      have T := Lib.hid (fun W => Text_neg d (n / 10) W (by rw [Nat.pow_succ] at h; omega) (by omega) (by omega) (by omega))
      have T2 := Lib.hid (fun W => Text_any.small (n % 10) W (by omega))
      have hl := negB_len d (n / 10) (by rw [Nat.pow_succ] at h; omega)
      have hs := dec_small_len (n := n % 10) (by omega)
      have HS := Lib.hid (negB_big h10)
      obtain ⟨q, hq⟩ : ∃ q, q = n / 10 := ⟨_, rfl⟩
      obtain ⟨r, hr⟩ : ∃ r, r = n % 10 := ⟨_, rfl⟩
      have v0 : IntKind.i64.wrap (Int.tdiv (-(n : Int)) 10) = -(q : Int) := by
        rw [hq, Int.neg_tdiv, show Int.tdiv (n : Int) 10 = ((n / 10 : Nat) : Int) from rfl]
        exact IntWalk.i64_in _ (by omega)
      have v1 : Int.tmod (-(n : Int)) 10 = -(r : Int) := by rw [hr, Int.neg_tmod]; rfl
      have v2 : IntKind.i64.wrap (0 - -(r : Int)) = (r : Int) := (IntWalk.i64_in _ (by omega)).trans (by omega)
      rw [← hq] at T hl HS
      rw [← hr] at T2 hs HS
      obtain ⟨x, hx⟩ : ∃ x, x = -(n : Int) := ⟨_, rfl⟩
      obtain ⟨y, hy⟩ : ∃ y, y = -(q : Int) := ⟨_, rfl⟩
      obtain ⟨z, hz⟩ : ∃ z, z = -(r : Int) := ⟨_, rfl⟩
      obtain ⟨u, hu⟩ : ∃ u, u = (r : Int) := ⟨_, rfl⟩
      rw [← hx] at v0 v1 d0 d1 ⊢
      rw [← hy] at v0 T
      rw [← hz] at v1 v2
      rw [← hu] at v2 T2
      have v4 : IntKind.i64.wrap (-z) = u := by rw [← v2]; congr 1; omega
      have hx9 : 0 ≤ u ∧ u < 10 := by omega
      clear hq hr h hx hy hz hu hn h1 h10
      obtain ⟨bq, hbq⟩ : ∃ b, b = negB q := ⟨_, rfl⟩
      obtain ⟨br, hbr⟩ : ∃ b, b = decB r := ⟨_, rfl⟩
      rw [← hbq] at T hl HS
      rw [← hbr] at T2 hs HS
      clear hbq hbr
      go_enter Tryz.func52, Tryz.ntmps52
      go_wp2_with fail
      refine (T.out w).mono ?_
      rintro e w1 ⟨rfl, hb⟩
      go_wp2_with fail
      refine (T2.out w1).mono ?_
      rintro e w2 ⟨rfl, hb2⟩
      have hc : bq.size + br.size ≤ 1000 := by omega
      go_wp2
      go_ret
      exact ⟨by rw [HS.out]; rfl, bthen hb hb2⟩
theorem TextR_any (x : Int) (w : World) (h0 : -1000000 < x) (h1 : x < 1000000) :
    Calls Tryz.prog 52 #[.int .i64 x] w fun e w' => e = .returned (.string (word x)) ∧ Below w.heap.size w w' := by
  rcases Int.lt_or_le x 0 with hx | hx
  · obtain ⟨u, rfl⟩ : ∃ u : Nat, x = -(u : Int) := ⟨x.natAbs, by omega⟩
    rw [word_neg (by omega)]
    exact Text_neg 6 u w (by omega) (by omega) (by omega) (by omega)
  · obtain ⟨u, rfl⟩ : ∃ u : Nat, x = (u : Int) := ⟨x.toNat, by omega⟩
    rw [word_dec hx, Int.toNat_natCast]
    exact Text_any 6 u w (by omega) (by omega) (by omega)
end Go.Proofs.YtfdehcphmmhjaaaGreatDoor

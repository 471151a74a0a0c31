/- Texts: the reference's Text. -/
import Derived.Test.YtoihfmndhfnmmaaGreatDoorTxtF
import Derived.Lib.ItoaMem
import Derived.Laws.BytesArg
import Derived.Test.YtoihfmndhfnmmaaGreatDoorHpJ
import Derived.Test.YtoihfmndhfnmmaaGreatDoorHqD
namespace Go.Proofs.YtoihfmndhfnmmaaGreatDoor
section
set_option linter.unusedSimpArgs false
set_option linter.unusedVariables false
open Go.RowKit

theorem exec_conv {P : Program} {ρ : Operand → Value} {o : Oper} {src dst : TypeId} {x : Operand} {v : Value} {w : World} (hop : o.op = Op.convert src dst x) (h : Sem.run P (convert src dst (ρ x)) w = .ok v w) : (execOp ρ o).run P w = .ok (.value v) w := by
  unfold execOp
  simp [hop, h, eqGuard, Result.andThen]
def decB (n : Nat) : ByteArray := ⟨(Lib.decDigits n).toArray⟩
theorem decB_small {n : Nat} (h : n < 10) : decB n = strOfNums [48 + (n : Int)] := by
  apply baEq
  rw [strOfNums_data]
  show Lib.decDigits n = _
  rw [Lib.decDigits, dif_pos h]
  simp only [List.map_cons, List.map_nil]
  rw [show (48 + (n : Int)).toNat = 48 + n by omega]
theorem decB_big {n : Nat} (h : ¬ n < 10) : decB n = decB (n / 10) ++ strOfNums [48 + ((n % 10 : Nat) : Int)] := by
  apply baEq
  rw [data_append, strOfNums_data]
  show Lib.decDigits n = Lib.decDigits (n / 10) ++ _
  rw [Lib.decDigits, dif_neg h]
  simp only [List.map_cons, List.map_nil]
  rw [show (48 + ((n % 10 : Nat) : Int)).toNat = 48 + n % 10 by omega]
theorem decB_len : ∀ (d n : Nat), n < 10 ^ d → (decB n).size ≤ d + 1
  | 0, n, h => by
    obtain rfl : n = 0 := by simpa using h
    rw [decB_small (by decide), strOfNums_size]; simp
  | d + 1, n, h => by
    by_cases h10 : n < 10
    · rw [decB_small h10, strOfNums_size]; simp
    · have := decB_len d (n / 10) (by rw [Nat.pow_succ] at h; omega)
      rw [decB_big h10, ByteArray.size_append, strOfNums_size, List.length_singleton]
      omega
theorem convB {W : World} {g : Nat} {x : Int} (hc : W.cell? ⟨g, 0, none⟩ = some (.int .u8 x)) : Sem.run Tryz.prog (convert 217 9 (.slice (some ⟨g, 0, none⟩) 1 1)) W = .ok (.string (strOfNums [x])) W :=
  run_convert_bytes_arg W 217 5 Tryz.underlying217 Tryz.underlying5 g 0 1 1 [x] rfl (fun i hi => match i, hi with | 0, _ => hc) 9 Tryz.underlying9
set_option maxRecDepth 100000 in
theorem Text_any.small (n : Nat) (w : World) (h10 : n < 10) :
    Calls Tryz.prog 88 #[.int .i64 (n : Int)] w fun e w' => e = .returned (.string (decB n)) ∧ Below w.heap.size w w' := by
  have d0 : ¬ (n : Int) < 0 := by omega
  have d1 : (n : Int) < 10 := by omega
  have v0 : IntKind.i64.wrap (48 + (n : Int)) = 48 + (n : Int) := IntWalk.i64_in _ (by omega)
  have v1 : IntKind.u8.wrap (48 + (n : Int)) = 48 + (n : Int) := IntWalk.u8_in _ (by omega)
  have hcv := convB (W := w.alloc (.cells #[.int .u8 (48 + (n : Int))] 5)) (g := w.heap.size) (x := 48 + (n : Int)) (cell_new w _ _ 0)
  have HS := Lib.hid (decB_small h10)
  go_enter Tryz.func88, Tryz.ntmps88
  go_wp2
  go_ret
  exact ⟨by rw [HS.out]; rfl, below_new _ _⟩
set_option maxRecDepth 100000 in
set_option maxHeartbeats 4000000 in
theorem Text_any : ∀ (d n : Nat) (w : World), n < 10 ^ d → n ≤ 1000000000 → d ≤ 9 →
    Calls Tryz.prog 88 #[.int .i64 (n : Int)] w fun e w' => e = .returned (.string (decB n)) ∧ Below w.heap.size w w'
  | 0, n, w, h, hn, _ => Text_any.small n w (by rw [Nat.pow_zero] at h; omega)
  | d + 1, n, w, h, hn, hd => by
    by_cases h10 : n < 10
    · exact Text_any.small n w h10
    · have d0 : ¬ (n : Int) < 0 := by omega
      have d1 : ¬ (n : Int) < 10 := by omega
      have T := Lib.hid (fun W => Text_any d (n / 10) W (by rw [Nat.pow_succ] at h; omega) (by omega) (by omega))
      have HL := Lib.hid (decB_len d (n / 10) (by rw [Nat.pow_succ] at h; omega))
      have HS := Lib.hid (decB_big h10)
      obtain ⟨q, hq⟩ : ∃ q, q = n / 10 := ⟨_, rfl⟩
      obtain ⟨r, hr⟩ : ∃ r, r = n % 10 := ⟨_, rfl⟩
      have v0 : IntKind.i64.wrap (Int.tdiv (n : Int) 10) = (q : Int) := by
        rw [hq, show Int.tdiv (n : Int) 10 = ((n / 10 : Nat) : Int) from rfl]
        exact IntWalk.i64_in _ (by omega)
      have v0' : IntKind.i64.wrap ((n : Int) / 10) = (q : Int) := by
        rw [hq]
        exact (IntWalk.i64_in _ (by omega)).trans (by omega)
      have v1 : Int.tmod (n : Int) 10 = (r : Int) := by rw [hr]; rfl
      have v1' : (n : Int) % 10 = (r : Int) := by omega
      rw [← hq] at T HL HS
      rw [← hr] at HS
      have hr9 : r < 10 := by omega
      clear hq hr h
      have v2 : IntKind.i64.wrap (48 + (r : Int)) = 48 + (r : Int) := IntWalk.i64_in _ (by omega)
      have v3 : IntKind.u8.wrap (48 + (r : Int)) = 48 + (r : Int) := IntWalk.u8_in _ (by omega)
      have hcat : ∀ W, Sem.run Tryz.prog (binOp .add 9 (.string (decB q)) (.string (strOfNums [48 + (r : Int)]))) W = .ok (.string (decB n)) W := fun W => by
        rw [HS.out]
        exact catS2 _ _ _ _ (by rw [strOfNums_size]; have := HL.out; simp; omega)
      go_enter Tryz.func88, Tryz.ntmps88
      go_upto_region 7 with fail
      refine wp_region_E 99 (by kernel_rfl) ?_
      obtain ⟨wz, hwz⟩ : ∃ v, v = w.drew := ⟨_, rfl⟩
      rw [← hwz]
      have hlz : Below w.heap.size w wz := by rw [hwz]; exact (Below.refl _ _).drew
      have hbz := bthen (Below.refl _ _) hlz
      clear hwz hlz
      refine wpAnyE_take (i := 0) (oi := { dst := some 26, op := Op.move (Operand.tmp 0), type := 3, pos := "words.go:21", after := #[], guard := none }) (v := ?_) rfl (by kernel_rfl) (by kernel_rfl) (by kernel_rfl) (by kernel_rfl) (fun _ _ _ h => h) (Or.inl ⟨by rfl, ?_⟩) ?_
      rotate_left
      · (intro w hE; (try dsimp only); go_simp); (try with_reducible rfl)
      try simp only [Act.put, List.setIfInBounds_toArray, List.set_cons_zero, List.set_cons_succ]
      refine wpAnyE_take (i := 1) (oi := { dst := some 27, op := Op.binOp BinOp.quo 3 (Operand.tmp 26) (Operand.const (Value.int IntKind.i64 10)) 3, type := 3, pos := "words.go:21", after := #[{ on := 0, ground := Ground.data }], guard := none }) (v := ?_) rfl (by kernel_rfl) (by kernel_rfl) (by kernel_rfl) (by kernel_rfl) (fun _ _ _ h => h) (Or.inl ⟨by rfl, ?_⟩) ?_
      rotate_left
      · (intro w hE; (try dsimp only); go_simp); (try with_reducible rfl)
      try simp only [Act.put, List.setIfInBounds_toArray, List.set_cons_zero, List.set_cons_succ]
      refine wpAnyE_take (i := 3) (oi := { dst := some 29, op := Op.move (Operand.tmp 0), type := 3, pos := "words.go:21", after := #[], guard := none }) (v := ?_) rfl (by kernel_rfl) (by kernel_rfl) (by kernel_rfl) (by kernel_rfl) (fun _ _ _ h => h) (Or.inl ⟨by rfl, ?_⟩) ?_
      rotate_left
      · (intro w hE; (try dsimp only); go_simp); (try with_reducible rfl)
      try simp only [Act.put, List.setIfInBounds_toArray, List.set_cons_zero, List.set_cons_succ]
      refine wpAnyE_take (i := 4) (oi := { dst := some 30, op := Op.binOp BinOp.rem 3 (Operand.tmp 29) (Operand.const (Value.int IntKind.i64 10)) 3, type := 3, pos := "words.go:21", after := #[{ on := 3, ground := Ground.data }], guard := none }) (v := ?_) rfl (by kernel_rfl) (by kernel_rfl) (by kernel_rfl) (by kernel_rfl) (fun _ _ _ h => h) (Or.inl ⟨by rfl, ?_⟩) ?_
      rotate_left
      · (intro w hE; (try dsimp only); go_simp); (try with_reducible rfl)
      try simp only [Act.put, List.setIfInBounds_toArray, List.set_cons_zero, List.set_cons_succ]
      refine wpAnyE_take (i := 5) (oi := { dst := some 31, op := Op.binOp BinOp.add 3 (Operand.const (Value.int IntKind.i64 48)) (Operand.tmp 30) 3, type := 3, pos := "words.go:21", after := #[{ on := 4, ground := Ground.data }], guard := none }) (v := ?_) rfl (by kernel_rfl) (by kernel_rfl) (by kernel_rfl) (by kernel_rfl) (fun _ _ _ h => h) (Or.inl ⟨by rfl, ?_⟩) ?_
      rotate_left
      · (intro w hE; (try dsimp only); go_simp); (try with_reducible rfl)
      try simp only [Act.put, List.setIfInBounds_toArray, List.set_cons_zero, List.set_cons_succ]
      refine wpAnyE_take (i := 6) (oi := { dst := some 32, op := Op.convert 3 5 (Operand.tmp 31), type := 5, pos := "words.go:21", after := #[{ on := 5, ground := Ground.data }], guard := none }) (v := ?_) rfl (by kernel_rfl) (by kernel_rfl) (by kernel_rfl) (by kernel_rfl) (fun _ _ _ h => h) (Or.inl ⟨by rfl, ?_⟩) ?_
      rotate_left
      · (intro w hE; (try dsimp only); go_simp); (try with_reducible rfl)
      try simp only [Act.put, List.setIfInBounds_toArray, List.set_cons_zero, List.set_cons_succ]
      refine wpAnyE_call (i := 2) (oi := { dst := some 28, op := Op.call { callee := Callee.value (Operand.func 88), args := #[Operand.tmp 27], argTypes := #[3] }, type := 9, pos := "words.go:21", after := #[{ on := 1, ground := Ground.data }], guard := none }) (fun w hE => T.out w) rfl (by kernel_rfl) (by kernel_rfl) (by kernel_rfl) (by kernel_rfl) (fun _ _ _ h => h) (by rfl) (fun w hE => by (try dsimp only); go_simp) ?_
      try simp only [Act.put, List.setIfInBounds_toArray, List.set_cons_zero, List.set_cons_succ]
      refine wpAnyE_one (i := 7) (o := { dst := some 33, op := Op.buildSlice 217 1 #[(0, Operand.tmp 32)], type := 217, pos := "words.go:21", after := #[{ on := 6, ground := Ground.data }], guard := none }) (by kernel_rfl) rfl (fun wy1 hE K hK => ?_)
      have hbz1 := bthen hbz hE
      clear hE
      go_simp
      obtain ⟨wx1, hwz⟩ : ∃ v, v = wy1.alloc (.cells #[.int .u8 (48 + (r : Int))] 5) := ⟨_, rfl⟩
      rw [← hwz]
      have hl : Below wy1.heap.size wy1 wx1 := by rw [hwz]; exact below_new _ _
      have hcz1 := bthen hbz1 hl
      have iN : Blk wx1 wy1.heap.size 5 [.int .u8 (48 + (r : Int))] := by rw [hwz]; exact Blk.new _ _ _
      generalize wy1.heap.size = G at iN ⊢
      clear hwz
      refine hK _ _ (fun _ => hl) ?_
      clear hK K hl
      try simp only [Act.put, List.setIfInBounds_toArray, List.set_cons_zero, List.set_cons_succ]
      refine wpAnyE_take (i := 8) (oi := { dst := some 34, op := Op.convert 217 9 (Operand.tmp 33), type := 9, pos := "words.go:21", after := #[{ on := 7, ground := Ground.data }], guard := none }) (v := ?_) rfl (by kernel_rfl) (by kernel_rfl) (by kernel_rfl) (by kernel_rfl) (fun _ _ _ h => h) (Or.inl ⟨by rfl, ?_⟩) ?_
      rotate_left
      · (intro w hE; (try dsimp only); refine Eq.trans (exec_conv (v := .string (strOfNums [48 + (r : Int)])) rfl (convB (Blk.cell (iN.carry hE) (j := 0) (v := .int .u8 (48 + (r : Int))) rfl))) ?_); (try with_reducible rfl)
      try simp only [Act.put, List.setIfInBounds_toArray, List.set_cons_zero, List.set_cons_succ]
      refine wpAnyE_take (i := 9) (oi := { dst := some 35, op := Op.binOp BinOp.add 9 (Operand.tmp 28) (Operand.tmp 34) 9, type := 9, pos := "words.go:21", after := #[{ on := 2, ground := Ground.data }, { on := 8, ground := Ground.data }], guard := none }) (v := ?_) rfl (by kernel_rfl) (by kernel_rfl) (by kernel_rfl) (by kernel_rfl) (fun _ _ _ h => h) (Or.inl ⟨by rfl, ?_⟩) ?_
      rotate_left
      · (intro w hE; (try dsimp only); refine Eq.trans (exec_add (v := .string (decB n)) rfl (hcat w)) ?_); (try with_reducible rfl)
      try simp only [Act.put, List.setIfInBounds_toArray, List.set_cons_zero, List.set_cons_succ]
      refine wpAnyE_take (i := 10) (oi := { dst := some 2, op := Op.assign (Operand.tmp 35), type := 9, pos := "words.go:21", after := #[{ on := 9, ground := Ground.data }, { on := 2, ground := Ground.chain }, { on := 0, ground := Ground.phase }, { on := 1, ground := Ground.phase }, { on := 2, ground := Ground.phase }, { on := 3, ground := Ground.phase }, { on := 4, ground := Ground.phase }, { on := 5, ground := Ground.phase }, { on := 6, ground := Ground.phase }, { on := 7, ground := Ground.phase }, { on := 8, ground := Ground.phase }, { on := 9, ground := Ground.phase }], guard := none }) (v := ?_) rfl (by kernel_rfl) (by kernel_rfl) (by kernel_rfl) (by kernel_rfl) (fun _ _ _ h => h) (Or.inl ⟨by rfl, ?_⟩) ?_
      rotate_left
      · (intro w hE; (try dsimp only); go_simp); (try with_reducible rfl)
      try simp only [Act.put, List.setIfInBounds_toArray, List.set_cons_zero, List.set_cons_succ]
      refine wpAnyE_done (by kernel_rfl) (fun wy2 hE => ?_) _
      have hbz2 := bthen hcz1 hE
      have iN := iN.carry hE
      clear hE
      have hq := hbz2
      go_wp2_with fail
      go_ret
      exact ⟨rfl, hq⟩
end

section
set_option linter.unusedSimpArgs false
set_option linter.unusedVariables false
open Go.RowKit

theorem word_dec {n : Int} (h : 0 ≤ n) : word n = decB n.toNat := by
  unfold word decB
  obtain ⟨m, rfl⟩ : ∃ m : Nat, n = (m : Int) := ⟨n.toNat, by omega⟩
  rw [Lib.itoa_nonneg, Int.toNat_natCast]
def accB (l : List (Int × Int)) : ByteArray := ⟨((l.map fun x => (lineB x).data.toList).flatten).toArray⟩
theorem accB_data (l : List (Int × Int)) : (accB l).data.toList = (l.map fun x => (lineB x).data.toList).flatten := rfl
theorem accB_snoc (l : List (Int × Int)) (x : Int × Int) : accB (l ++ [x]) = ((((accB l ++ ⟨#[98, 114, 97, 110, 99, 104, 32]⟩) ++ word x.1) ++ ⟨#[32]⟩) ++ word x.2) ++ ⟨#[10]⟩ := by
  apply baEq
  simp only [data_append]
  rw [accB_data, accB_data, List.map_append, List.flatten_append]
  simp only [List.map_cons, List.map_nil, List.flatten_cons, List.flatten_nil, List.append_nil, lineB, data_append, List.append_assoc]
theorem accB_len (l : List (Int × Int)) (h : ∀ x ∈ l, brE x = 0) : (accB l).size ≤ 60 * l.length := by
  rw [← data_len, accB_data]
  induction l with
  | nil => simp
  | cons x t ih =>
    have h1 := lineB_size x (h x (List.mem_cons_self ..))
    have h2 := ih (fun y hy => h y (List.mem_cons_of_mem _ hy))
    rw [← data_len] at h1
    rw [List.map_cons, List.flatten_cons, List.length_append, List.length_cons]
    omega
theorem join_flat : ∀ xs : List (List UInt8), Lib.join xs [] = xs.flatten
  | [] => rfl
  | [x] => by simp [Lib.join, List.intercalate]
  | x :: y :: r => by
    have ih := join_flat (y :: r)
    unfold Lib.join at ih ⊢
    simp only [List.intercalate, List.intersperse_cons_cons, List.flatten_cons, List.nil_append] at ih ⊢
    rw [ih]
theorem accB_all (l : List (Int × Int)) : accB l = printB l := by
  unfold accB printB joinE
  rw [join_flat, List.map_map]
  rfl
set_option maxRecDepth 100000 in
set_option maxHeartbeats 4000000 in
theorem PrintR_any (v : Value) (ls : List (Int × Int)) (w : World) (hv : Pairs w v ls) (hf : fltE ls = 0) :
    Calls Tryz.prog 33 #[.agg #[v]] w fun e w' => e = .returned (.string (printB ls)) ∧ Below w.heap.size w w' := by
  obtain ⟨⟨h0, h3⟩, hbr⟩ := fltE_zero hf
  obtain ⟨b, off, cp, rfl, hcs⟩ := hv.head h0
  have HBR := Lib.hid hbr
  have HCS := Lib.hid hcs
  obtain ⟨n, hn⟩ : ∃ n, n = ls.length := ⟨_, rfl⟩
  rw [← hn] at h0 h3 ⊢
  have HN := Lib.hid hn
  clear hbr hcs hf hv hn
  go_enter Tryz.func33, Tryz.ntmps33
  go_upto_region 1 with fail
  obtain ⟨W1, hW1⟩ : ∃ v, v = World.alloc w (Obj.cells #[.slice (some ⟨b, off, none⟩) n cp] 67) := ⟨_, rfl⟩
  have kW1 : Below w.heap.size w W1 := by rw [hW1]; exact below_new _ _
  have iW1 : Blk W1 (w.heap.size) 67 [.slice (some ⟨b, off, none⟩) n cp] := by rw [hW1]; exact Blk.new _ _ _
  have sW1 : W1.heap.size = w.heap.size + 1 := by rw [hW1]; simp
  rw [← hW1]
  clear hW1
  go_wp2_with fail
  go_loopw [3, 4] (fun z i wr => ∃ k : Nat, k ≤ n ∧ i = .int .i64 k ∧ z = .string (accB (ls.take k)) ∧ Below W1.heap.size W1 wr) (fun _ i _ => n - (intOf i).toNat)
  case atStart => exact ⟨0, by omega, rfl, rfl, Below.refl _ _⟩
  case round =>
    obtain ⟨k, hk, rfl, rfl, hx⟩ := hrel
    have cF := (iW1.carry hx).cell (j := 0) (v := .slice (some ⟨b, off, none⟩) n cp) rfl
    by_cases hlt : k < n
    · have d1 : (k : Int) < (n : Int) := by omega
      have d3 : 0 ≤ (k : Int) := by omega
      obtain ⟨x, hxk⟩ : ∃ x, ls[k]? = some x := ⟨_, List.getElem?_eq_getElem (by rw [← HN.out]; exact hlt)⟩
      obtain ⟨x0, x1⟩ := HCS.out k x hxk
      have hB := bthen kW1 hx
      replace x0 := cellb x0 hB
      replace x1 := cellb x1 hB
      have hb := brE_zero (HBR.out x (List.mem_of_getElem? hxk))
      have hT := accB_snoc (ls.take k) x
      rw [← show ls.take (k + 1) = ls.take k ++ [x] by rw [List.take_add_one, hxk]; rfl] at hT
      have HT := Lib.hid hT
      clear hT
      have hal := accB_len (ls.take k) (fun y hy => HBR.out y (List.mem_of_mem_take hy))
      rw [List.length_take] at hal
      have w1s := word_size x.1 (by omega)
      have w2s := word_size x.2 (by omega)
      have T1 := Lib.hid (fun W => Text_any 4 x.1.toNat W (by omega) (by omega) (by omega))
      have T2 := Lib.hid (fun W => Text_any 4 x.2.toNat W (by omega) (by omega) (by omega))
      rw [show ((x.1.toNat : Nat) : Int) = x.1 by omega, ← word_dec hb.1.1] at T1
      rw [show ((x.2.toNat : Nat) : Int) = x.2 by omega, ← word_dec hb.2.1] at T2
      obtain ⟨x0', x1'⟩ := x
      simp only at x0 x1 HT T1 T2 w1s w2s
      generalize word x0' = t1 at HT T1 w1s
      generalize word x1' = t2 at HT T2 w2s
      generalize accB (ls.take k) = ac at HT hal
      have q1 : (⟨#[98, 114, 97, 110, 99, 104, 32]⟩ : ByteArray).size = 7 := rfl
      have q2 : (⟨#[32]⟩ : ByteArray).size = 1 := rfl
      have q3 : (⟨#[10]⟩ : ByteArray).size = 1 := rfl
      have g1 := fun W => catS2 9 ac ⟨#[98, 114, 97, 110, 99, 104, 32]⟩ W (by omega)
      have g2 := fun W => catS2 9 (ac ++ ⟨#[98, 114, 97, 110, 99, 104, 32]⟩) t1 W (by rw [ByteArray.size_append]; omega)
      have g3 := fun W => catS2 9 ((ac ++ ⟨#[98, 114, 97, 110, 99, 104, 32]⟩) ++ t1) ⟨#[32]⟩ W (by rw [ByteArray.size_append, ByteArray.size_append]; omega)
      have g4 := fun W => catS2 9 (((ac ++ ⟨#[98, 114, 97, 110, 99, 104, 32]⟩) ++ t1) ++ ⟨#[32]⟩) t2 W (by rw [ByteArray.size_append, ByteArray.size_append, ByteArray.size_append]; omega)
      have g5 := fun W => catS2 9 ((((ac ++ ⟨#[98, 114, 97, 110, 99, 104, 32]⟩) ++ t1) ++ ⟨#[32]⟩) ++ t2) ⟨#[10]⟩ W (by rw [ByteArray.size_append, ByteArray.size_append, ByteArray.size_append, ByteArray.size_append]; omega)
      generalize hz1 : ac ++ ⟨#[98, 114, 97, 110, 99, 104, 32]⟩ = z1 at HT g1 g2 g3 g4 g5
      generalize hz2 : z1 ++ t1 = z2 at HT g2 g3 g4 g5
      generalize hz3 : z2 ++ ⟨#[32]⟩ = z3 at HT g3 g4 g5
      generalize hz4 : z3 ++ t2 = z4 at HT g4 g5
      generalize hz5 : z4 ++ ⟨#[10]⟩ = z5 at HT g5
      have GG := Lib.hid (And.intro g1 (And.intro g2 (And.intro g3 (And.intro g4 g5))))
      clear hz1 hz2 hz3 hz4 hz5 g1 g2 g3 g4 g5 q1 q2 q3 hb hB
      go_upto_region 5 with fail
      refine wp_region_E 99 (by kernel_rfl) ?_
      obtain ⟨wz, hwz⟩ : ∃ v, v = wr.drew := ⟨_, rfl⟩
      rw [← hwz]
      have hlz : Below wr.heap.size wr wz := by rw [hwz]; exact (Below.refl _ _).drew
      have hbz := bthen hx hlz
      have cF := cellb cF hlz
      have x0 := cellb x0 hlz
      have x1 := cellb x1 hlz
      clear hwz hlz
      refine wpAnyE_take (i := 0) (oi := { dst := some 12, op := Op.move (Operand.tmp 3), type := 9, pos := "ref.go:481", after := #[], guard := none }) (v := ?_) rfl (by kernel_rfl) (by kernel_rfl) (by kernel_rfl) (by kernel_rfl) (fun _ _ _ h => h) (Or.inl ⟨by rfl, ?_⟩) ?_
      rotate_left
      · (intro w hE; have cF := cellb cF hE; have x0 := cellb x0 hE; have x1 := cellb x1 hE; (try dsimp only); go_simp); (try with_reducible rfl)
      try simp only [Act.put, List.setIfInBounds_toArray, List.set_cons_zero, List.set_cons_succ]
      refine wpAnyE_take (i := 1) (oi := { dst := some 13, op := Op.binOp BinOp.add 9 (Operand.tmp 12) (Operand.const (Value.string { data := #[98, 114, 97, 110, 99, 104, 32] })) 9, type := 9, pos := "ref.go:481", after := #[{ on := 0, ground := Ground.data }], guard := none }) (v := ?_) rfl (by kernel_rfl) (by kernel_rfl) (by kernel_rfl) (by kernel_rfl) (fun _ _ _ h => h) (Or.inl ⟨by rfl, ?_⟩) ?_
      rotate_left
      · (intro w hE; have cF := cellb cF hE; have x0 := cellb x0 hE; have x1 := cellb x1 hE; (try dsimp only); refine Eq.trans (exec_add (v := .string z1) rfl (GG.out.1 w)) ?_); (try with_reducible rfl)
      try simp only [Act.put, List.setIfInBounds_toArray, List.set_cons_zero, List.set_cons_succ]
      refine wpAnyE_take (i := 2) (oi := { dst := some 14, op := Op.fieldAddr 67 (Operand.tmp 1) 0, type := 0, pos := "ref.go:481", after := #[], guard := none }) (v := ?_) rfl (by kernel_rfl) (by kernel_rfl) (by kernel_rfl) (by kernel_rfl) (fun _ _ _ h => h) (Or.inl ⟨by rfl, ?_⟩) ?_
      rotate_left
      · (intro w hE; have cF := cellb cF hE; have x0 := cellb x0 hE; have x1 := cellb x1 hE; (try dsimp only); go_simp); (try with_reducible rfl)
      try simp only [Act.put, List.setIfInBounds_toArray, List.set_cons_zero, List.set_cons_succ]
      refine wpAnyE_take (i := 3) (oi := { dst := some 15, op := Op.load 65 (Operand.tmp 14), type := 65, pos := "ref.go:481", after := #[{ on := 2, ground := Ground.data }], guard := none }) (v := ?_) rfl (by kernel_rfl) (by kernel_rfl) (by kernel_rfl) (by kernel_rfl) (fun _ _ _ h => h) (Or.inl ⟨by rfl, ?_⟩) ?_
      rotate_left
      · (intro w hE; have cF := cellb cF hE; have x0 := cellb x0 hE; have x1 := cellb x1 hE; (try dsimp only); go_simp); (try with_reducible rfl)
      try simp only [Act.put, List.setIfInBounds_toArray, List.set_cons_zero, List.set_cons_succ]
      refine wpAnyE_take (i := 4) (oi := { dst := some 16, op := Op.move (Operand.tmp 4), type := 3, pos := "ref.go:481", after := #[], guard := none }) (v := ?_) rfl (by kernel_rfl) (by kernel_rfl) (by kernel_rfl) (by kernel_rfl) (fun _ _ _ h => h) (Or.inl ⟨by rfl, ?_⟩) ?_
      rotate_left
      · (intro w hE; have cF := cellb cF hE; have x0 := cellb x0 hE; have x1 := cellb x1 hE; (try dsimp only); go_simp); (try with_reducible rfl)
      try simp only [Act.put, List.setIfInBounds_toArray, List.set_cons_zero, List.set_cons_succ]
      refine wpAnyE_take (i := 5) (oi := { dst := some 17, op := Op.indexAddr 65 (Operand.tmp 15) (Operand.tmp 16), type := 0, pos := "ref.go:481", after := #[{ on := 3, ground := Ground.data }, { on := 4, ground := Ground.data }], guard := none }) (v := ?_) rfl (by kernel_rfl) (by kernel_rfl) (by kernel_rfl) (by kernel_rfl) (fun _ _ _ h => h) (Or.inl ⟨by rfl, ?_⟩) ?_
      rotate_left
      · (intro w hE; have cF := cellb cF hE; have x0 := cellb x0 hE; have x1 := cellb x1 hE; (try dsimp only); go_simp); (try with_reducible rfl)
      try simp only [Act.put, List.setIfInBounds_toArray, List.set_cons_zero, List.set_cons_succ]
      refine wpAnyE_take (i := 6) (oi := { dst := some 18, op := Op.fieldAddr 151 (Operand.tmp 17) 0, type := 0, pos := "ref.go:481", after := #[{ on := 5, ground := Ground.data }], guard := none }) (v := ?_) rfl (by kernel_rfl) (by kernel_rfl) (by kernel_rfl) (by kernel_rfl) (fun _ _ _ h => h) (Or.inl ⟨by rfl, ?_⟩) ?_
      rotate_left
      · (intro w hE; have cF := cellb cF hE; have x0 := cellb x0 hE; have x1 := cellb x1 hE; (try dsimp only); go_simp); (try with_reducible rfl)
      try simp only [Act.put, List.setIfInBounds_toArray, List.set_cons_zero, List.set_cons_succ]
      refine wpAnyE_take (i := 7) (oi := { dst := some 19, op := Op.load 3 (Operand.tmp 18), type := 3, pos := "ref.go:481", after := #[{ on := 6, ground := Ground.data }], guard := none }) (v := ?_) rfl (by kernel_rfl) (by kernel_rfl) (by kernel_rfl) (by kernel_rfl) (fun _ _ _ h => h) (Or.inl ⟨by rfl, ?_⟩) ?_
      rotate_left
      · (intro w hE; have cF := cellb cF hE; have x0 := cellb x0 hE; have x1 := cellb x1 hE; (try dsimp only); go_simp); (try with_reducible rfl)
      try simp only [Act.put, List.setIfInBounds_toArray, List.set_cons_zero, List.set_cons_succ]
      refine wpAnyE_take (i := 11) (oi := { dst := some 23, op := Op.fieldAddr 67 (Operand.tmp 1) 0, type := 0, pos := "ref.go:481", after := #[], guard := none }) (v := ?_) rfl (by kernel_rfl) (by kernel_rfl) (by kernel_rfl) (by kernel_rfl) (fun _ _ _ h => h) (Or.inl ⟨by rfl, ?_⟩) ?_
      rotate_left
      · (intro w hE; have cF := cellb cF hE; have x0 := cellb x0 hE; have x1 := cellb x1 hE; (try dsimp only); go_simp); (try with_reducible rfl)
      try simp only [Act.put, List.setIfInBounds_toArray, List.set_cons_zero, List.set_cons_succ]
      refine wpAnyE_take (i := 12) (oi := { dst := some 24, op := Op.load 65 (Operand.tmp 23), type := 65, pos := "ref.go:481", after := #[{ on := 11, ground := Ground.data }], guard := none }) (v := ?_) rfl (by kernel_rfl) (by kernel_rfl) (by kernel_rfl) (by kernel_rfl) (fun _ _ _ h => h) (Or.inl ⟨by rfl, ?_⟩) ?_
      rotate_left
      · (intro w hE; have cF := cellb cF hE; have x0 := cellb x0 hE; have x1 := cellb x1 hE; (try dsimp only); go_simp); (try with_reducible rfl)
      try simp only [Act.put, List.setIfInBounds_toArray, List.set_cons_zero, List.set_cons_succ]
      refine wpAnyE_take (i := 13) (oi := { dst := some 25, op := Op.move (Operand.tmp 4), type := 3, pos := "ref.go:481", after := #[], guard := none }) (v := ?_) rfl (by kernel_rfl) (by kernel_rfl) (by kernel_rfl) (by kernel_rfl) (fun _ _ _ h => h) (Or.inl ⟨by rfl, ?_⟩) ?_
      rotate_left
      · (intro w hE; have cF := cellb cF hE; have x0 := cellb x0 hE; have x1 := cellb x1 hE; (try dsimp only); go_simp); (try with_reducible rfl)
      try simp only [Act.put, List.setIfInBounds_toArray, List.set_cons_zero, List.set_cons_succ]
      refine wpAnyE_take (i := 14) (oi := { dst := some 26, op := Op.indexAddr 65 (Operand.tmp 24) (Operand.tmp 25), type := 0, pos := "ref.go:481", after := #[{ on := 12, ground := Ground.data }, { on := 13, ground := Ground.data }], guard := none }) (v := ?_) rfl (by kernel_rfl) (by kernel_rfl) (by kernel_rfl) (by kernel_rfl) (fun _ _ _ h => h) (Or.inl ⟨by rfl, ?_⟩) ?_
      rotate_left
      · (intro w hE; have cF := cellb cF hE; have x0 := cellb x0 hE; have x1 := cellb x1 hE; (try dsimp only); go_simp); (try with_reducible rfl)
      try simp only [Act.put, List.setIfInBounds_toArray, List.set_cons_zero, List.set_cons_succ]
      refine wpAnyE_take (i := 15) (oi := { dst := some 27, op := Op.fieldAddr 151 (Operand.tmp 26) 1, type := 0, pos := "ref.go:481", after := #[{ on := 14, ground := Ground.data }], guard := none }) (v := ?_) rfl (by kernel_rfl) (by kernel_rfl) (by kernel_rfl) (by kernel_rfl) (fun _ _ _ h => h) (Or.inl ⟨by rfl, ?_⟩) ?_
      rotate_left
      · (intro w hE; have cF := cellb cF hE; have x0 := cellb x0 hE; have x1 := cellb x1 hE; (try dsimp only); go_simp); (try with_reducible rfl)
      try simp only [Act.put, List.setIfInBounds_toArray, List.set_cons_zero, List.set_cons_succ]
      refine wpAnyE_take (i := 16) (oi := { dst := some 28, op := Op.load 3 (Operand.tmp 27), type := 3, pos := "ref.go:481", after := #[{ on := 15, ground := Ground.data }], guard := none }) (v := ?_) rfl (by kernel_rfl) (by kernel_rfl) (by kernel_rfl) (by kernel_rfl) (fun _ _ _ h => h) (Or.inl ⟨by rfl, ?_⟩) ?_
      rotate_left
      · (intro w hE; have cF := cellb cF hE; have x0 := cellb x0 hE; have x1 := cellb x1 hE; (try dsimp only); go_simp); (try with_reducible rfl)
      try simp only [Act.put, List.setIfInBounds_toArray, List.set_cons_zero, List.set_cons_succ]
      refine wpAnyE_call (i := 8) (oi := { dst := some 20, op := Op.call { callee := Callee.value (Operand.func 88), args := #[Operand.tmp 19], argTypes := #[3] }, type := 9, pos := "ref.go:481", after := #[{ on := 7, ground := Ground.data }], guard := none }) (fun w hE => T1.out w) rfl (by kernel_rfl) (by kernel_rfl) (by kernel_rfl) (by kernel_rfl) (fun _ _ _ h => h) (by rfl) (fun w hE => by (try dsimp only); go_simp) ?_
      try simp only [Act.put, List.setIfInBounds_toArray, List.set_cons_zero, List.set_cons_succ]
      refine wpAnyE_take (i := 9) (oi := { dst := some 21, op := Op.binOp BinOp.add 9 (Operand.tmp 13) (Operand.tmp 20) 9, type := 9, pos := "ref.go:481", after := #[{ on := 1, ground := Ground.data }, { on := 8, ground := Ground.data }], guard := none }) (v := ?_) rfl (by kernel_rfl) (by kernel_rfl) (by kernel_rfl) (by kernel_rfl) (fun _ _ _ h => h) (Or.inl ⟨by rfl, ?_⟩) ?_
      rotate_left
      · (intro w hE; have cF := cellb cF hE; have x0 := cellb x0 hE; have x1 := cellb x1 hE; (try dsimp only); refine Eq.trans (exec_add (v := .string z2) rfl (GG.out.2.1 w)) ?_); (try with_reducible rfl)
      try simp only [Act.put, List.setIfInBounds_toArray, List.set_cons_zero, List.set_cons_succ]
      refine wpAnyE_take (i := 10) (oi := { dst := some 22, op := Op.binOp BinOp.add 9 (Operand.tmp 21) (Operand.const (Value.string { data := #[32] })) 9, type := 9, pos := "ref.go:481", after := #[{ on := 9, ground := Ground.data }], guard := none }) (v := ?_) rfl (by kernel_rfl) (by kernel_rfl) (by kernel_rfl) (by kernel_rfl) (fun _ _ _ h => h) (Or.inl ⟨by rfl, ?_⟩) ?_
      rotate_left
      · (intro w hE; have cF := cellb cF hE; have x0 := cellb x0 hE; have x1 := cellb x1 hE; (try dsimp only); refine Eq.trans (exec_add (v := .string z3) rfl (GG.out.2.2.1 w)) ?_); (try with_reducible rfl)
      try simp only [Act.put, List.setIfInBounds_toArray, List.set_cons_zero, List.set_cons_succ]
      refine wpAnyE_call (i := 17) (oi := { dst := some 29, op := Op.call { callee := Callee.value (Operand.func 88), args := #[Operand.tmp 28], argTypes := #[3] }, type := 9, pos := "ref.go:481", after := #[{ on := 16, ground := Ground.data }, { on := 8, ground := Ground.chain }], guard := none }) (fun w hE => T2.out w) rfl (by kernel_rfl) (by kernel_rfl) (by kernel_rfl) (by kernel_rfl) (fun _ _ _ h => h) (by rfl) (fun w hE => by (try dsimp only); go_simp) ?_
      try simp only [Act.put, List.setIfInBounds_toArray, List.set_cons_zero, List.set_cons_succ]
      refine wpAnyE_take (i := 18) (oi := { dst := some 30, op := Op.binOp BinOp.add 9 (Operand.tmp 22) (Operand.tmp 29) 9, type := 9, pos := "ref.go:481", after := #[{ on := 10, ground := Ground.data }, { on := 17, ground := Ground.data }], guard := none }) (v := ?_) rfl (by kernel_rfl) (by kernel_rfl) (by kernel_rfl) (by kernel_rfl) (fun _ _ _ h => h) (Or.inl ⟨by rfl, ?_⟩) ?_
      rotate_left
      · (intro w hE; have cF := cellb cF hE; have x0 := cellb x0 hE; have x1 := cellb x1 hE; (try dsimp only); refine Eq.trans (exec_add (v := .string z4) rfl (GG.out.2.2.2.1 w)) ?_); (try with_reducible rfl)
      try simp only [Act.put, List.setIfInBounds_toArray, List.set_cons_zero, List.set_cons_succ]
      refine wpAnyE_take (i := 19) (oi := { dst := some 31, op := Op.binOp BinOp.add 9 (Operand.tmp 30) (Operand.const (Value.string { data := #[10] })) 9, type := 9, pos := "ref.go:481", after := #[{ on := 18, ground := Ground.data }], guard := none }) (v := ?_) rfl (by kernel_rfl) (by kernel_rfl) (by kernel_rfl) (by kernel_rfl) (fun _ _ _ h => h) (Or.inl ⟨by rfl, ?_⟩) ?_
      rotate_left
      · (intro w hE; have cF := cellb cF hE; have x0 := cellb x0 hE; have x1 := cellb x1 hE; (try dsimp only); refine Eq.trans (exec_add (v := .string z5) rfl (GG.out.2.2.2.2 w)) ?_); (try with_reducible rfl)
      try simp only [Act.put, List.setIfInBounds_toArray, List.set_cons_zero, List.set_cons_succ]
      refine wpAnyE_take (i := 20) (oi := { dst := some 3, op := Op.assign (Operand.tmp 31), type := 9, pos := "ref.go:481", after := #[{ on := 19, ground := Ground.data }, { on := 17, ground := Ground.chain }, { on := 0, ground := Ground.phase }, { on := 1, ground := Ground.phase }, { on := 2, ground := Ground.phase }, { on := 3, ground := Ground.phase }, { on := 4, ground := Ground.phase }, { on := 5, ground := Ground.phase }, { on := 6, ground := Ground.phase }, { on := 7, ground := Ground.phase }, { on := 8, ground := Ground.phase }, { on := 9, ground := Ground.phase }, { on := 10, ground := Ground.phase }, { on := 11, ground := Ground.phase }, { on := 12, ground := Ground.phase }, { on := 13, ground := Ground.phase }, { on := 14, ground := Ground.phase }, { on := 15, ground := Ground.phase }, { on := 16, ground := Ground.phase }, { on := 17, ground := Ground.phase }, { on := 18, ground := Ground.phase }, { on := 19, ground := Ground.phase }], guard := none }) (v := ?_) rfl (by kernel_rfl) (by kernel_rfl) (by kernel_rfl) (by kernel_rfl) (fun _ _ _ h => h) (Or.inl ⟨by rfl, ?_⟩) ?_
      rotate_left
      · (intro w hE; have cF := cellb cF hE; have x0 := cellb x0 hE; have x1 := cellb x1 hE; (try dsimp only); go_simp); (try with_reducible rfl)
      try simp only [Act.put, List.setIfInBounds_toArray, List.set_cons_zero, List.set_cons_succ]
      refine wpAnyE_done (by kernel_rfl) (fun wy1 hE => ?_) _
      have hbz1 := bthen hbz hE
      have cF := cellb cF hE
      have x0 := cellb x0 hE
      have x1 := cellb x1 hE
      clear hE
      clear hx
      have hx := hbz1
      obtain ⟨Y1, hY1⟩ : ∃ v, v = wy1 := ⟨_, rfl⟩
      rw [← hY1] at hx ⊢
      clear hY1
      go_wp2_with fail
      go_roundw
      case rel => exact ⟨k + 1, by omega, by go_num, by rw [HT.out], hx⟩
      case measure => simp [intOf]; omega
    · obtain rfl : k = n := by omega
      have hta : ls.take k = ls := List.take_of_length_le (by rw [← HN.out]; omega)
      rw [hta, accB_all]
      clear hta
      go_wp2
      go_ret
      exact ⟨rfl, bthen kW1 hx⟩
end

section
set_option linter.unusedSimpArgs false
set_option linter.unusedVariables false
open Go.RowKit

set_option maxRecDepth 100000 in
set_option maxHeartbeats 2000000 in
theorem filter_bad (e : Int) (he : e ≠ 0) (w : World) :
    Calls Tryz.prog 35 #[.agg #[.slice none 0 0], .int .i64 e, .int .i64 e, .agg #[.slice none 0 0]] w fun r w' => r = .returned (.bool true) ∧ Below w.heap.size w w' := by
  have hz : (e != 0) = true := by rw [bne_iff_ne]; exact he
  go_enter Tryz.func35, Tryz.ntmps35
  go_upto_region 1 with fail
  obtain ⟨W1, hW1⟩ : ∃ v, v = World.alloc w (Obj.cells #[.slice none 0 0] 73) := ⟨_, rfl⟩
  have kW1 : Below w.heap.size w W1 := by rw [hW1]; exact below_new _ _
  have iW1 : Blk W1 (w.heap.size) 73 [.slice none 0 0] := by rw [hW1]; exact Blk.new _ _ _
  have sW1 : W1.heap.size = w.heap.size + 1 := by rw [hW1]; simp
  rw [← hW1]
  clear hW1
  obtain ⟨W2, hW2⟩ : ∃ v, v = World.alloc W1 (Obj.cells #[.slice none 0 0] 67) := ⟨_, rfl⟩
  have kW2 : Below W1.heap.size W1 W2 := by rw [hW2]; exact below_new _ _
  have iW2 : Blk W2 (w.heap.size + 1) 67 [.slice none 0 0] := by rw [hW2, ← sW1]; exact Blk.new _ _ _
  have sW2 : W2.heap.size = w.heap.size + 1 + 1 := by rw [hW2]; simp [sW1]
  rw [← hW2]
  clear hW2
  have b1 := iW1.carry kW2
  have c1 := b1.cell (j := 0) (v := .slice none 0 0) rfl
  have hB := bthen kW1 kW2
  clear iW1 iW2 kW1 kW2 sW1 sW2 b1
  go_wp2
  go_ret
  exact ⟨rfl, hB⟩
set_option maxRecDepth 100000 in
set_option maxHeartbeats 4000000 in
theorem filter_ok (va vb : Value) (ls : List (Int × Int)) (w : World) (ha : Pairs w va ls) (hb : Pairs w vb ls) (hlen : ls.length ≤ 1000000) :
    Calls Tryz.prog 35 #[.agg #[va], .int .i64 0, .int .i64 0, .agg #[vb]] w fun r w' => r = .returned (.bool true) ∧ Below w.heap.size w w' := by
  obtain ⟨xa, ca, rfl, _, _⟩ := id ha
  obtain ⟨xb, cb, rfl, _, _⟩ := id hb
  go_enter Tryz.func35, Tryz.ntmps35
  go_upto_region 1 with fail
  obtain ⟨W1, hW1⟩ : ∃ v, v = World.alloc w (Obj.cells #[.slice xa ls.length ca] 73) := ⟨_, rfl⟩
  have kW1 : Below w.heap.size w W1 := by rw [hW1]; exact below_new _ _
  have iW1 : Blk W1 (w.heap.size) 73 [.slice xa ls.length ca] := by rw [hW1]; exact Blk.new _ _ _
  have sW1 : W1.heap.size = w.heap.size + 1 := by rw [hW1]; simp
  rw [← hW1]
  clear hW1
  obtain ⟨W2, hW2⟩ : ∃ v, v = World.alloc W1 (Obj.cells #[.slice xb ls.length cb] 67) := ⟨_, rfl⟩
  have kW2 : Below W1.heap.size W1 W2 := by rw [hW2]; exact below_new _ _
  have iW2 : Blk W2 (w.heap.size + 1) 67 [.slice xb ls.length cb] := by rw [hW2, ← sW1]; exact Blk.new _ _ _
  have sW2 : W2.heap.size = w.heap.size + 1 + 1 := by rw [hW2]; simp [sW1]
  rw [← hW2]
  clear hW2
  have b1 := iW1.carry kW2
  have c1 := b1.cell (j := 0) (v := .slice xa ls.length ca) rfl
  have c2 := iW2.cell (j := 0) (v := .slice xb ls.length cb) rfl
  have hB := bthen kW1 kW2
  have HA := Lib.hid (ha.carry hB)
  have HB := Lib.hid (hb.carry hB)
  have HQ := Lib.hid (And.intro c1 c2)
  have HBB := Lib.hid hB
  have h0 := Below.refl W2.heap.size W2
  clear iW1 iW2 kW1 kW2 sW1 sW2 b1 ha hb hB c1 c2
  go_upto_region 3 with fail
  refine wp_region_held_drew (S := (fun W => W.cell? ⟨w.heap.size, 0, none⟩ = some (.slice xa ls.length ca) ∧ W.cell? ⟨w.heap.size + 1, 0, none⟩ = some (.slice xb ls.length cb))) (by kernel_rfl) ⟨cellb HQ.out.1 h0.drew, cellb HQ.out.2 h0.drew⟩ (fun hHeld0 => ?_)
  obtain ⟨wzd, hwz⟩ : ∃ v, v = W2.drew := ⟨_, rfl⟩
  rw [← hwz] at hHeld0 ⊢
  have hbzd : Below W2.heap.size W2 wzd := by rw [hwz]; exact h0.drew
  have hlzd : Below W2.heap.size W2 wzd := by rw [hwz]; exact (Below.refl _ _).drew
  clear hwz hlzd
  refine wpAnyH_take (i := 0) (oi := { dst := some 20, op := Op.move (Operand.tmp 1), type := 31, pos := "law.go:102", after := #[], guard := none }) (v := ?_) rfl (by kernel_rfl) (by kernel_rfl) (by kernel_rfl) (fun _ _ _ h => h) (Or.inl ⟨by rfl, ?_⟩) (by assumption) ?_
  rotate_left
  · (intro w hSw; (try dsimp only at hSw); go_simp); (try with_reducible rfl)
  try simp only [Act.put, List.setIfInBounds_toArray, List.set_cons_zero, List.set_cons_succ]
  refine wpAnyH_take (i := 1) (oi := { dst := some 21, op := Op.binOp BinOp.eql 31 (Operand.tmp 20) (Operand.const (Value.int IntKind.i64 0)) 31, type := 4, pos := "law.go:102", after := #[{ on := 0, ground := Ground.data }], guard := none }) (v := ?_) rfl (by kernel_rfl) (by kernel_rfl) (by kernel_rfl) (fun _ _ _ h => h) (Or.inl ⟨by rfl, ?_⟩) (by assumption) ?_
  rotate_left
  · (intro w hSw; (try dsimp only at hSw); go_simp); (try with_reducible rfl)
  try simp only [Act.put, List.setIfInBounds_toArray, List.set_cons_zero, List.set_cons_succ]
  refine wpAnyH_take (i := 2) (oi := { dst := some 22, op := Op.move (Operand.tmp 21), type := 4, pos := "law.go:102", after := #[{ on := 1, ground := Ground.data }], guard := none }) (v := ?_) rfl (by kernel_rfl) (by kernel_rfl) (by kernel_rfl) (fun _ _ _ h => h) (Or.inl ⟨by rfl, ?_⟩) (by assumption) ?_
  rotate_left
  · (intro w hSw; (try dsimp only at hSw); go_simp); (try with_reducible rfl)
  try simp only [Act.put, List.setIfInBounds_toArray, List.set_cons_zero, List.set_cons_succ]
  refine wpAnyH_take (i := 3) (oi := { dst := some 23, op := Op.load 73 (Operand.tmp 4), type := 73, pos := "law.go:102", after := #[{ on := 2, ground := Ground.guard }], guard := some (2, true) }) (v := ?_) rfl (by kernel_rfl) (by kernel_rfl) (by kernel_rfl) (fun _ _ _ h => h) (Or.inl ⟨by rfl, ?_⟩) (by assumption) ?_
  rotate_left
  · (intro w hSw; (try dsimp only at hSw); go_simp); (try with_reducible rfl)
  try simp only [Act.put, List.setIfInBounds_toArray, List.set_cons_zero, List.set_cons_succ]
  refine wpAnyH_take (i := 5) (oi := { dst := some 25, op := Op.load 67 (Operand.tmp 7), type := 67, pos := "law.go:102", after := #[{ on := 2, ground := Ground.guard }], guard := some (2, true) }) (v := ?_) rfl (by kernel_rfl) (by kernel_rfl) (by kernel_rfl) (fun _ _ _ h => h) (Or.inl ⟨by rfl, ?_⟩) (by assumption) ?_
  rotate_left
  · (intro w hSw; (try dsimp only at hSw); go_simp); (try with_reducible rfl)
  try simp only [Act.put, List.setIfInBounds_toArray, List.set_cons_zero, List.set_cons_succ]
  refine wpAnyH_ready (rs := [4]) (by kernel_rfl) (by simp) ?_
  refine (AllReadyH.cons (o := { dst := some 24, op := Op.call { callee := Callee.value (Operand.func 37), args := #[Operand.tmp 23], argTypes := #[73] }, type := 67, pos := "law.go:102", after := #[{ on := 3, ground := Ground.data }, { on := 2, ground := Ground.chain }, { on := 2, ground := Ground.guard }], guard := some (2, true) }) rfl (fun K hK => ?_) AllReadyH.nil)
  go_simp
  refine (told_any _ ls wzd (HA.out.carry hbzd) hlen).mono ?_
  rintro e wz4 ⟨⟨u, rfl, hu⟩, hl⟩
  (try go_wp2_with fail)
  have hbz4 := bthen hbzd hl
  clear hl
  refine hK.out _ _ ⟨cellb HQ.out.1 hbz4, cellb HQ.out.2 hbz4⟩ (fun hHeld1 => ?_)
  clear hK K hHeld0
  try simp only [Act.put, List.setIfInBounds_toArray, List.set_cons_zero, List.set_cons_succ]
  refine wpAnyH_ready (rs := [6]) (by kernel_rfl) (by simp) ?_
  refine (AllReadyH.cons (o := { dst := some 26, op := Op.call { callee := Callee.value (Operand.func 36), args := #[Operand.tmp 24, Operand.tmp 25], argTypes := #[67, 67] }, type := 4, pos := "law.go:102", after := #[{ on := 4, ground := Ground.data }, { on := 5, ground := Ground.data }, { on := 4, ground := Ground.chain }, { on := 2, ground := Ground.guard }], guard := some (2, true) }) rfl (fun K hK => ?_) AllReadyH.nil)
  go_simp
  refine (SameR_any _ _ ls ls wz4 hu (HB.out.carry hbz4) hlen).mono ?_
  rintro e wz6 ⟨rfl, hl⟩
  (try go_wp2_with fail)
  have hbz6 := bthen hbz4 hl
  have hu := hu.carry hl
  clear hl
  refine hK.out _ _ ⟨cellb HQ.out.1 hbz6, cellb HQ.out.2 hbz6⟩ (fun hHeld2 => ?_)
  clear hK K hHeld1
  try simp only [Act.put, List.setIfInBounds_toArray, List.set_cons_zero, List.set_cons_succ]
  refine wpAnyH_take (i := 7) (oi := { dst := some 27, op := Op.pick (Operand.tmp 22) (Operand.tmp 26) (Operand.const (Value.bool false)), type := 4, pos := "law.go:102", after := #[{ on := 2, ground := Ground.data }, { on := 6, ground := Ground.data }], guard := none }) (v := ?_) rfl (by kernel_rfl) (by kernel_rfl) (by kernel_rfl) (fun _ _ _ h => h) (Or.inl ⟨by rfl, ?_⟩) (by assumption) ?_
  rotate_left
  · (intro w hSw; (try dsimp only at hSw); go_simp); (try with_reducible rfl)
  try simp only [Act.put, List.setIfInBounds_toArray, List.set_cons_zero, List.set_cons_succ]
  refine wpAnyH_take (i := 8) (oi := { dst := some 8, op := Op.assign (Operand.tmp 27), type := 4, pos := "law.go:102", after := #[{ on := 7, ground := Ground.data }, { on := 6, ground := Ground.chain }, { on := 0, ground := Ground.phase }, { on := 1, ground := Ground.phase }, { on := 2, ground := Ground.phase }, { on := 3, ground := Ground.phase }, { on := 4, ground := Ground.phase }, { on := 5, ground := Ground.phase }, { on := 6, ground := Ground.phase }, { on := 7, ground := Ground.phase }], guard := none }) (v := ?_) rfl (by kernel_rfl) (by kernel_rfl) (by kernel_rfl) (fun _ _ _ h => h) (Or.inl ⟨by rfl, ?_⟩) (by assumption) ?_
  rotate_left
  · (intro w hSw; (try dsimp only at hSw); go_simp); (try with_reducible rfl)
  try simp only [Act.put, List.setIfInBounds_toArray, List.set_cons_zero, List.set_cons_succ]
  refine wpAnyH_done (by kernel_rfl) ?_ _
  clear hHeld2
  go_wp2_with fail
  go_ret
  exact ⟨by simp, bthen HBB.out (by exact hbz6)⟩
end

end Go.Proofs.YtoihfmndhfnmmaaGreatDoor

/- The package phasor: a frame is read. -/
import Derived.Test.YtjmdnolmaofbiaaDoorThmB
namespace Go.Proofs.YtjmdnolmaofbiaaDoor
set_option linter.unusedSimpArgs false
set_option linter.unusedVariables false
open Go.RowKit

theorem ia_one (l : List Int) : (ia l).all (·.oneCell') = true := by
  rw [Array.all_eq_true_iff_forall_mem]
  intro v hv
  simp [ia] at hv
  obtain ⟨x, _, rfl⟩ := hv
  rfl
theorem wpList_storeA {w : World} {ops : Array Oper} {rest : List Oper} {o : Oper} {a : Act} {Q : Exit → Act → World → Prop} (hg : o.guard = none) (T : TypeId) (x y : Operand) (hop : o.op = Op.store T x y) (B : Nat) (l old : List Int)
    (hx : a.eval x = .pointer (some ⟨B, 0, none⟩)) (hy : a.eval y = .agg (ia l)) (hB : BlkI w B T old) (hlo : old.length = l.length) (hi : (Tryd.prog.info? T).map (·.size) = some l.length)
    (hK : wpList Tryd.prog ops Q rest (a.put o.dst undef) (w.setRow B (ia l))) : wpList Tryd.prog ops Q (o :: rest) a w :=
  wpList_plain hg fun _ hK' => wp_store_row T x y hop B (ia l) hx hy T (ia old) hB (by rw [hi, ia_size]) (by rw [ia_size, ia_size, hlo]) (ia_one l) (hK' _ _ hK)
theorem BlkI.setRowA {w : World} {B : Nat} {T : TypeId} {old : List Int} (h : BlkI w B T old) (l : List Int) : BlkI (w.setRow B (ia l)) B T l := setRow_heap w B _ _ T (0, 0) h
theorem Blk.setRow {w : World} {B B' : Nat} {T : TypeId} {vs : List Value} (h : Blk w B T vs) (hne : B ≠ B') (cs : Array Value) : Blk (w.setRow B' cs) B T vs := (setRow_other w B' B cs hne).trans h
theorem wp_storeA {o : Oper} {a : Act} {w : World} {K : Act → World → Prop} {Q : Exit → Act → World → Prop} (T : TypeId) (x y : Operand) (hop : o.op = .store T x y) (B : Nat) (l old : List Int)
    (hx : a.eval x = .pointer (some ⟨B, 0, none⟩)) (hy : a.eval y = .agg (ia l)) (hB : BlkI w B T old) (hlo : old.length = l.length) (hi : (Tryd.prog.info? T).map (·.size) = some l.length)
    (h : K (a.put o.dst undef) (w.setRow B (ia l))) : o.wp Tryd.prog a w K Q :=
  wp_store_row T x y hop B (ia l) hx hy T (ia old) hB (by rw [hi, ia_size]) (by rw [ia_size, ia_size, hlo]) (ia_one l) h
theorem BlkI.setRowO {w : World} {B B' : Nat} {T : TypeId} {l : List Int} (h : BlkI w B T l) (hne : B ≠ B') (cs : Array Value) : BlkI (w.setRow B' cs) B T l := Blk.setRow h hne cs
theorem bytN {W : World} {B : Nat} {T : TypeId} {x0 x1 x2 x3 x4 x5 x6 x7 x8 x9 x10 x11 x12 x13 x14 x15 : Int} (h : BlkU W B T [x0, x1, x2, x3, x4, x5, x6, x7, x8, x9, x10, x11, x12, x13, x14, x15]) : Byt W (.slice (some ⟨B, 12, none⟩) 4 4) [x12, x13, x14, x15] := by
  refine ⟨some ⟨B, 12, none⟩, 4, rfl, by simp, fun _ => ⟨B, 12, rfl, fun j hj => ?_⟩⟩
  have hj4 : j = 0 ∨ j = 1 ∨ j = 2 ∨ j = 3 := by simp at hj; omega
  rcases hj4 with rfl | rfl | rfl | rfl
  · exact Blk.cell h (j := 12) (v := .int .u8 x12) rfl
  · exact Blk.cell h (j := 13) (v := .int .u8 x13) rfl
  · exact Blk.cell h (j := 14) (v := .int .u8 x14) rfl
  · exact Blk.cell h (j := 15) (v := .int .u8 x15) rfl
theorem bytC {W : World} {B : Nat} {T : TypeId} {x0 x1 x2 x3 x4 x5 x6 x7 x8 x9 x10 x11 x12 x13 x14 x15 : Int} (h : BlkU W B T [x0, x1, x2, x3, x4, x5, x6, x7, x8, x9, x10, x11, x12, x13, x14, x15]) : Byt W (.slice (some ⟨B, 0, none⟩) 12 16) [x0, x1, x2, x3, x4, x5, x6, x7, x8, x9, x10, x11] := by
  refine ⟨some ⟨B, 0, none⟩, 16, rfl, by simp, fun _ => ⟨B, 0, rfl, fun j hj => ?_⟩⟩
  have hj4 : j = 0 ∨ j = 1 ∨ j = 2 ∨ j = 3 ∨ j = 4 ∨ j = 5 ∨ j = 6 ∨ j = 7 ∨ j = 8 ∨ j = 9 ∨ j = 10 ∨ j = 11 := by simp at hj; omega
  rcases hj4 with rfl | rfl | rfl | rfl | rfl | rfl | rfl | rfl | rfl | rfl | rfl | rfl
  · exact Blk.cell h (j := 0) (v := .int .u8 x0) rfl
  · exact Blk.cell h (j := 1) (v := .int .u8 x1) rfl
  · exact Blk.cell h (j := 2) (v := .int .u8 x2) rfl
  · exact Blk.cell h (j := 3) (v := .int .u8 x3) rfl
  · exact Blk.cell h (j := 4) (v := .int .u8 x4) rfl
  · exact Blk.cell h (j := 5) (v := .int .u8 x5) rfl
  · exact Blk.cell h (j := 6) (v := .int .u8 x6) rfl
  · exact Blk.cell h (j := 7) (v := .int .u8 x7) rfl
  · exact Blk.cell h (j := 8) (v := .int .u8 x8) rfl
  · exact Blk.cell h (j := 9) (v := .int .u8 x9) rfl
  · exact Blk.cell h (j := 10) (v := .int .u8 x10) rfl
  · exact Blk.cell h (j := 11) (v := .int .u8 x11) rfl
theorem bytK {W : World} {B : Nat} {T : TypeId} {x0 x1 x2 x3 x4 x5 x6 x7 x8 x9 x10 x11 x12 x13 x14 x15 : Int} (h : BlkU W B T [x0, x1, x2, x3, x4, x5, x6, x7, x8, x9, x10, x11, x12, x13, x14, x15]) : Byt W (.slice (some ⟨B, 2, none⟩) 2 14) [x2, x3] := by
  refine ⟨some ⟨B, 2, none⟩, 14, rfl, by simp, fun _ => ⟨B, 2, rfl, fun j hj => ?_⟩⟩
  have hj4 : j = 0 ∨ j = 1 := by simp at hj; omega
  rcases hj4 with rfl | rfl
  · exact Blk.cell h (j := 2) (v := .int .u8 x2) rfl
  · exact Blk.cell h (j := 3) (v := .int .u8 x3) rfl
theorem bytV0 {W : World} {B : Nat} {T : TypeId} {x0 x1 x2 x3 x4 x5 x6 x7 x8 x9 x10 x11 x12 x13 x14 x15 : Int} (h : BlkU W B T [x0, x1, x2, x3, x4, x5, x6, x7, x8, x9, x10, x11, x12, x13, x14, x15]) : Byt W (.slice (some ⟨B, 4, none⟩) 2 12) [x4, x5] := by
  refine ⟨some ⟨B, 4, none⟩, 12, rfl, by simp, fun _ => ⟨B, 4, rfl, fun j hj => ?_⟩⟩
  have hj4 : j = 0 ∨ j = 1 := by simp at hj; omega
  rcases hj4 with rfl | rfl
  · exact Blk.cell h (j := 4) (v := .int .u8 x4) rfl
  · exact Blk.cell h (j := 5) (v := .int .u8 x5) rfl
theorem bytV1 {W : World} {B : Nat} {T : TypeId} {x0 x1 x2 x3 x4 x5 x6 x7 x8 x9 x10 x11 x12 x13 x14 x15 : Int} (h : BlkU W B T [x0, x1, x2, x3, x4, x5, x6, x7, x8, x9, x10, x11, x12, x13, x14, x15]) : Byt W (.slice (some ⟨B, 6, none⟩) 2 10) [x6, x7] := by
  refine ⟨some ⟨B, 6, none⟩, 10, rfl, by simp, fun _ => ⟨B, 6, rfl, fun j hj => ?_⟩⟩
  have hj4 : j = 0 ∨ j = 1 := by simp at hj; omega
  rcases hj4 with rfl | rfl
  · exact Blk.cell h (j := 6) (v := .int .u8 x6) rfl
  · exact Blk.cell h (j := 7) (v := .int .u8 x7) rfl
theorem bytV2 {W : World} {B : Nat} {T : TypeId} {x0 x1 x2 x3 x4 x5 x6 x7 x8 x9 x10 x11 x12 x13 x14 x15 : Int} (h : BlkU W B T [x0, x1, x2, x3, x4, x5, x6, x7, x8, x9, x10, x11, x12, x13, x14, x15]) : Byt W (.slice (some ⟨B, 8, none⟩) 2 8) [x8, x9] := by
  refine ⟨some ⟨B, 8, none⟩, 8, rfl, by simp, fun _ => ⟨B, 8, rfl, fun j hj => ?_⟩⟩
  have hj4 : j = 0 ∨ j = 1 := by simp at hj; omega
  rcases hj4 with rfl | rfl
  · exact Blk.cell h (j := 8) (v := .int .u8 x8) rfl
  · exact Blk.cell h (j := 9) (v := .int .u8 x9) rfl
theorem bytV3 {W : World} {B : Nat} {T : TypeId} {x0 x1 x2 x3 x4 x5 x6 x7 x8 x9 x10 x11 x12 x13 x14 x15 : Int} (h : BlkU W B T [x0, x1, x2, x3, x4, x5, x6, x7, x8, x9, x10, x11, x12, x13, x14, x15]) : Byt W (.slice (some ⟨B, 10, none⟩) 2 6) [x10, x11] := by
  refine ⟨some ⟨B, 10, none⟩, 6, rfl, by simp, fun _ => ⟨B, 10, rfl, fun j hj => ?_⟩⟩
  have hj4 : j = 0 ∨ j = 1 := by simp at hj; omega
  rcases hj4 with rfl | rfl
  · exact Blk.cell h (j := 10) (v := .int .u8 x10) rfl
  · exact Blk.cell h (j := 11) (v := .int .u8 x11) rfl

def tgI (t : Tg) : List Int := [t.1, t.2.1, t.2.2.1, t.2.2.2.1, t.2.2.2.2.1, t.2.2.2.2.2]
def dcE (s : List Int) : Int := firstE [whenE (s.getD 0 0 != 177) 1, whenE (numN (s.drop 12) != ckN (s.take 12)) 27]
def tgZ : Tg := (0, 0, 0, 0, 0, 0)
def dcR (s : List Int) : Tg := if dcOk s = true then dcT s else tgZ
theorem dcE_ok (s : List Int) : (dcE s = 0) = (dcOk s = true) := by
  unfold dcE dcOk
  apply propext
  by_cases h1 : s.getD 0 0 = 177
  · by_cases h2 : numN (s.drop 12) = ckN (s.take 12)
    · rw [h1, h2]; simp [whenE, firstE]
    · have e2 : (numN (s.drop 12) != ckN (s.take 12)) = true := bne_iff_ne.2 h2
      have e3 : (numN (s.drop 12) == ckN (s.take 12)) = false := beq_eq_false_iff_ne.2 h2
      rw [h1, e2, e3]; simp [whenE, firstE]
  · have e2 : (s.getD 0 0 != 177) = true := bne_iff_ne.2 h1
    have e3 : (s.getD 0 0 == 177) = false := beq_eq_false_iff_ne.2 h1
    rw [e2, e3]; simp [whenE, firstE]
def tgP (a b c d e f : Int) (k : Nat) : List Int := [a, b, if 0 < k then c else 0, if 1 < k then d else 0, if 2 < k then e else 0, if 3 < k then f else 0]
theorem Tryd.infoTg : (Tryd.prog.info? 40).map (·.size) = some 6 := by kernel_rfl
set_option maxRecDepth 100000 in
set_option maxHeartbeats 4000000 in
theorem Decode_x (x0 x1 x2 x3 x4 x5 x6 x7 x8 x9 x10 x11 x12 x13 x14 x15 : Int) (h : ByteL [x0, x1, x2, x3, x4, x5, x6, x7, x8, x9, x10, x11, x12, x13, x14, x15]) (w : World) :
    Calls Tryd.prog 21 #[.agg (ua [x0, x1, x2, x3, x4, x5, x6, x7, x8, x9, x10, x11, x12, x13, x14, x15])] w fun r w' => r = .returned (.tuple #[.agg (ia (tgI (dcR [x0, x1, x2, x3, x4, x5, x6, x7, x8, x9, x10, x11, x12, x13, x14, x15]))), .int .i64 (dcE [x0, x1, x2, x3, x4, x5, x6, x7, x8, x9, x10, x11, x12, x13, x14, x15])]) ∧ Below w.heap.size w w' := by
  have hb : ∀ b, b ∈ [x0, x1, x2, x3, x4, x5, x6, x7, x8, x9, x10, x11, x12, x13, x14, x15] → 0 ≤ b ∧ b < 256 := h
  have b0 := hb x0 (by simp)
  have b1 := hb x1 (by simp)
  have TN := Lib.hid (fun u W (hv : Byt W u [x12, x13, x14, x15]) => number_any u [x12, x13, x14, x15] W (fun y hy => hb y (by simp only [List.mem_cons, List.not_mem_nil, or_false] at hy; rcases hy with rfl | rfl | rfl | rfl <;> simp)) (by simp) hv)
  have TC := Lib.hid (fun u W (hv : Byt W u [x0, x1, x2, x3, x4, x5, x6, x7, x8, x9, x10, x11]) => checksum_any u [x0, x1, x2, x3, x4, x5, x6, x7, x8, x9, x10, x11] W (fun y hy => hb y (by simp only [List.mem_cons, List.not_mem_nil, or_false] at hy; rcases hy with rfl | rfl | rfl | rfl | rfl | rfl | rfl | rfl | rfl | rfl | rfl | rfl <;> simp)) (by simp) hv)
  have TK := Lib.hid (fun u W (hv : Byt W u [x2, x3]) => number_any u [x2, x3] W (fun y hy => hb y (by simp only [List.mem_cons, List.not_mem_nil, or_false] at hy; rcases hy with rfl | rfl <;> simp)) (by simp) hv)
  have TV0 := Lib.hid (fun u W (hv : Byt W u [x4, x5]) => number_any u [x4, x5] W (fun y hy => hb y (by simp only [List.mem_cons, List.not_mem_nil, or_false] at hy; rcases hy with rfl | rfl <;> simp)) (by simp) hv)
  have TV1 := Lib.hid (fun u W (hv : Byt W u [x6, x7]) => number_any u [x6, x7] W (fun y hy => hb y (by simp only [List.mem_cons, List.not_mem_nil, or_false] at hy; rcases hy with rfl | rfl <;> simp)) (by simp) hv)
  have TV2 := Lib.hid (fun u W (hv : Byt W u [x8, x9]) => number_any u [x8, x9] W (fun y hy => hb y (by simp only [List.mem_cons, List.not_mem_nil, or_false] at hy; rcases hy with rfl | rfl <;> simp)) (by simp) hv)
  have TV3 := Lib.hid (fun u W (hv : Byt W u [x10, x11]) => number_any u [x10, x11] W (fun y hy => hb y (by simp only [List.mem_cons, List.not_mem_nil, or_false] at hy; rcases hy with rfl | rfl <;> simp)) (by simp) hv)
  have HBB0 := Lib.hid (show ByteL [x4, x5] from fun y hy => hb y (by simp only [List.mem_cons, List.not_mem_nil, or_false] at hy; rcases hy with rfl | rfl <;> simp))
  have HBB1 := Lib.hid (show ByteL [x6, x7] from fun y hy => hb y (by simp only [List.mem_cons, List.not_mem_nil, or_false] at hy; rcases hy with rfl | rfl <;> simp))
  have HBB2 := Lib.hid (show ByteL [x8, x9] from fun y hy => hb y (by simp only [List.mem_cons, List.not_mem_nil, or_false] at hy; rcases hy with rfl | rfl <;> simp))
  have HBB3 := Lib.hid (show ByteL [x10, x11] from fun y hy => hb y (by simp only [List.mem_cons, List.not_mem_nil, or_false] at hy; rcases hy with rfl | rfl <;> simp))
  have TW1 := Lib.hid (fun W => whenP_any (x0 != 177) 1 W)
  have hE : dcE [x0, x1, x2, x3, x4, x5, x6, x7, x8, x9, x10, x11, x12, x13, x14, x15] = firstE [whenE (x0 != 177) 1, whenE (numN [x12, x13, x14, x15] != ckN [x0, x1, x2, x3, x4, x5, x6, x7, x8, x9, x10, x11]) 27] := rfl
  have hDT : dcT [x0, x1, x2, x3, x4, x5, x6, x7, x8, x9, x10, x11, x12, x13, x14, x15] = (x1, numN [x2, x3], s16 (numN [x4, x5]), s16 (numN [x6, x7]), s16 (numN [x8, x9]), s16 (numN [x10, x11])) := rfl
  have hOK := dcE_ok [x0, x1, x2, x3, x4, x5, x6, x7, x8, x9, x10, x11, x12, x13, x14, x15]
  have HOK := Lib.hid hOK
  have HDT := Lib.hid hDT
  obtain ⟨E, hEd⟩ : ∃ E, E = dcE [x0, x1, x2, x3, x4, x5, x6, x7, x8, x9, x10, x11, x12, x13, x14, x15] := ⟨_, rfl⟩
  rw [← hEd] at hE HOK
  have HED := Lib.hid hEd
  generalize numN [x12, x13, x14, x15] = nm at TN hE
  generalize ckN [x0, x1, x2, x3, x4, x5, x6, x7, x8, x9, x10, x11] = ck at TC hE
  have TW2 := Lib.hid (fun W => whenP_any (nm != ck) 27 W)
  obtain ⟨e1, he1⟩ : ∃ e, e = whenE (x0 != 177) 1 := ⟨_, rfl⟩
  obtain ⟨e2, he2⟩ : ∃ e, e = whenE (nm != ck) 27 := ⟨_, rfl⟩
  rw [← he1] at TW1 hE
  rw [← he2] at TW2 hE
  have TF := Lib.hid (fun (u : Value) (W : World) (h : Ints W u [e1, e2]) => firstP_any u [e1, e2] W (by simp [maxLen]) h)
  rw [← hE] at TF
  clear hb h hE hDT hOK hEd he1 he2
  go_enter Tryd.func21, Tryd.ntmps21
  go_upto_region 1 with fail
  obtain ⟨W1, hW1⟩ : ∃ W, W = w.alloc (.cells (ua [x0, x1, x2, x3, x4, x5, x6, x7, x8, x9, x10, x11, x12, x13, x14, x15]) 43) := ⟨_, rfl⟩
  have kW1 : Below w.heap.size w W1 := by rw [hW1]; exact below_new _ _
  have iW1 : BlkU W1 w.heap.size 43 [x0, x1, x2, x3, x4, x5, x6, x7, x8, x9, x10, x11, x12, x13, x14, x15] := by rw [hW1]; exact Blk.new _ _ _
  have sW1 : W1.heap.size = w.heap.size + 1 := by rw [hW1]; simp
  rw [← hW1]
  clear hW1
  obtain ⟨W2, hW2⟩ : ∃ v, v = World.alloc W1 (Obj.cells #[.int .i64 0, .int .i64 0, .int .i64 0, .int .i64 0, .int .i64 0, .int .i64 0] 40) := ⟨_, rfl⟩
  have kW2 : Below W1.heap.size W1 W2 := by rw [hW2]; exact below_new _ _
  have iW2 : BlkI W2 (w.heap.size + 1) 40 (List.replicate 6 0) := by rw [hW2, ← sW1]; exact BlkI.new W1 40 (List.replicate 6 0)
  have sW2 : W2.heap.size = w.heap.size + 1 + 1 := by rw [hW2]; simp [sW1]
  rw [← hW2]
  clear hW2
  have i1 := iW1.carry kW2
  have i2 : BlkI W2 (w.heap.size + 1) 40 (List.replicate 6 0) := iW2
  have hB := bthen kW1 kW2
  clear iW1 iW2 kW1 kW2 sW1 sW2
  have c0 := Blk.cell i1 (j := 0) (v := .int .u8 x0) rfl
  refine wp_region_E 99 (by kernel_rfl) ?_
  obtain ⟨wz, hwz⟩ : ∃ v, v = W2.drew := ⟨_, rfl⟩
  rw [← hwz]
  have hlz : Below W2.heap.size W2 wz := by rw [hwz]; exact (Below.refl _ _).drew
  have hbz := bthen hB hlz
  have c0 := cellb c0 hlz
  have i1 := i1.carry hlz
  have i2 := i2.carry hlz
  clear hwz hlz
  refine wpAnyE_take (i := 0) (oi := { dst := some 8, op := Op.indexAddr 43 (Operand.tmp 1) (Operand.const (Value.int IntKind.i64 0)), type := 0, pos := "telegram.go:79", after := #[], guard := none }) (v := ?_) rfl (by kernel_rfl) (by kernel_rfl) (by kernel_rfl) (by kernel_rfl) (fun _ _ _ h => h) (Or.inl ⟨by rfl, ?_⟩) ?_
  rotate_left
  · (intro w hE; have c0 := cellb c0 hE; (try dsimp only); go_simp); (try with_reducible rfl)
  try simp only [Act.put, List.setIfInBounds_toArray, List.set_cons_zero, List.set_cons_succ]
  refine wpAnyE_take (i := 1) (oi := { dst := some 9, op := Op.load 5 (Operand.tmp 8), type := 5, pos := "telegram.go:79", after := #[{ on := 0, ground := Ground.data }], guard := none }) (v := ?_) rfl (by kernel_rfl) (by kernel_rfl) (by kernel_rfl) (by kernel_rfl) (fun _ _ _ h => h) (Or.inl ⟨by rfl, ?_⟩) ?_
  rotate_left
  · (intro w hE; have c0 := cellb c0 hE; (try dsimp only); go_simp); (try with_reducible rfl)
  try simp only [Act.put, List.setIfInBounds_toArray, List.set_cons_zero, List.set_cons_succ]
  refine wpAnyE_take (i := 2) (oi := { dst := some 10, op := Op.binOp BinOp.neq 5 (Operand.tmp 9) (Operand.const (Value.int IntKind.u8 177)) 5, type := 4, pos := "telegram.go:79", after := #[{ on := 1, ground := Ground.data }], guard := none }) (v := ?_) rfl (by kernel_rfl) (by kernel_rfl) (by kernel_rfl) (by kernel_rfl) (fun _ _ _ h => h) (Or.inl ⟨by rfl, ?_⟩) ?_
  rotate_left
  · (intro w hE; have c0 := cellb c0 hE; (try dsimp only); go_simp); (try with_reducible rfl)
  try simp only [Act.put, List.setIfInBounds_toArray, List.set_cons_zero, List.set_cons_succ]
  refine wpAnyE_take (i := 4) (oi := { dst := some 12, op := Op.slice 43 (Operand.tmp 1) (some (Operand.const (Value.int IntKind.i64 12))) none none, type := 28, pos := "telegram.go:79", after := #[], guard := none }) (v := ?_) rfl (by kernel_rfl) (by kernel_rfl) (by kernel_rfl) (by kernel_rfl) (fun _ _ _ h => h) (Or.inl ⟨by rfl, ?_⟩) ?_
  rotate_left
  · (intro w hE; have c0 := cellb c0 hE; (try dsimp only); go_simp); (try with_reducible rfl)
  try simp only [Act.put, List.setIfInBounds_toArray, List.set_cons_zero, List.set_cons_succ]
  refine wpAnyE_take (i := 6) (oi := { dst := some 14, op := Op.slice 43 (Operand.tmp 1) none (some (Operand.const (Value.int IntKind.i64 12))) none, type := 28, pos := "telegram.go:79", after := #[], guard := none }) (v := ?_) rfl (by kernel_rfl) (by kernel_rfl) (by kernel_rfl) (by kernel_rfl) (fun _ _ _ h => h) (Or.inl ⟨by rfl, ?_⟩) ?_
  rotate_left
  · (intro w hE; have c0 := cellb c0 hE; (try dsimp only); go_simp); (try with_reducible rfl)
  try simp only [Act.put, List.setIfInBounds_toArray, List.set_cons_zero, List.set_cons_succ]
  refine wpAnyE_call (i := 3) (oi := { dst := some 11, op := Op.call { callee := Callee.value (Operand.func 19), args := #[Operand.tmp 10, Operand.const (Value.int IntKind.i64 1)], argTypes := #[4, 44] }, type := 44, pos := "telegram.go:79", after := #[{ on := 2, ground := Ground.data }], guard := none }) (fun w hE => ofPure (TW1.out w)) rfl (by kernel_rfl) (by kernel_rfl) (by kernel_rfl) (by kernel_rfl) (fun _ _ _ h => h) (by rfl) (fun w hE => by (try dsimp only); go_simp) ?_
  try simp only [Act.put, List.setIfInBounds_toArray, List.set_cons_zero, List.set_cons_succ]
  refine wpAnyE_call (i := 5) (oi := { dst := some 13, op := Op.call { callee := Callee.value (Operand.func 34), args := #[Operand.tmp 12], argTypes := #[28] }, type := 3, pos := "telegram.go:79", after := #[{ on := 4, ground := Ground.data }, { on := 3, ground := Ground.chain }], guard := none }) (fun w hE => ofPure (TN.out _ w (bytN (i1.carry hE)))) rfl (by kernel_rfl) (by kernel_rfl) (by kernel_rfl) (by kernel_rfl) (fun _ _ _ h => h) (by rfl) (fun w hE => by (try dsimp only); go_simp) ?_
  try simp only [Act.put, List.setIfInBounds_toArray, List.set_cons_zero, List.set_cons_succ]
  refine wpAnyE_call (i := 7) (oi := { dst := some 15, op := Op.call { callee := Callee.value (Operand.func 16), args := #[Operand.tmp 14], argTypes := #[28] }, type := 3, pos := "telegram.go:79", after := #[{ on := 6, ground := Ground.data }, { on := 5, ground := Ground.chain }], guard := none }) (fun w hE => ofPure (TC.out _ w (bytC (i1.carry hE)))) rfl (by kernel_rfl) (by kernel_rfl) (by kernel_rfl) (by kernel_rfl) (fun _ _ _ h => h) (by rfl) (fun w hE => by (try dsimp only); go_simp) ?_
  try simp only [Act.put, List.setIfInBounds_toArray, List.set_cons_zero, List.set_cons_succ]
  refine wpAnyE_take (i := 8) (oi := { dst := some 16, op := Op.binOp BinOp.neq 3 (Operand.tmp 13) (Operand.tmp 15) 3, type := 4, pos := "telegram.go:79", after := #[{ on := 5, ground := Ground.data }, { on := 7, ground := Ground.data }], guard := none }) (v := ?_) rfl (by kernel_rfl) (by kernel_rfl) (by kernel_rfl) (by kernel_rfl) (fun _ _ _ h => h) (Or.inl ⟨by rfl, ?_⟩) ?_
  rotate_left
  · (intro w hE; have c0 := cellb c0 hE; (try dsimp only); go_simp); (try with_reducible rfl)
  try simp only [Act.put, List.setIfInBounds_toArray, List.set_cons_zero, List.set_cons_succ]
  refine wpAnyE_call (i := 9) (oi := { dst := some 17, op := Op.call { callee := Callee.value (Operand.func 19), args := #[Operand.tmp 16, Operand.const (Value.int IntKind.i64 27)], argTypes := #[4, 44] }, type := 44, pos := "telegram.go:79", after := #[{ on := 8, ground := Ground.data }, { on := 7, ground := Ground.chain }], guard := none }) (fun w hE => ofPure (TW2.out w)) rfl (by kernel_rfl) (by kernel_rfl) (by kernel_rfl) (by kernel_rfl) (fun _ _ _ h => h) (by rfl) (fun w hE => by (try dsimp only); go_simp) ?_
  try simp only [Act.put, List.setIfInBounds_toArray, List.set_cons_zero, List.set_cons_succ]
  refine wpAnyE_one (i := 10) (o := { dst := some 18, op := Op.buildSlice 81 2 #[(0, Operand.tmp 11), (1, Operand.tmp 17)], type := 81, pos := "telegram.go:79", after := #[{ on := 3, ground := Ground.data }, { on := 9, ground := Ground.data }], guard := none }) (by kernel_rfl) rfl (fun wy1 hE K hK => ?_)
  have c0 := cellb c0 hE
  have i1 := i1.carry hE
  have i2 := i2.carry hE
  have hbz1 := bthen hbz hE
  clear hE
  go_simp
  obtain ⟨wx1, hwz⟩ : ∃ v, v = wy1.alloc (Obj.cells #[.int .i64 e1, .int .i64 e2] 44) := ⟨_, rfl⟩
  rw [← hwz]
  have hl : Below wy1.heap.size wy1 wx1 := by rw [hwz]; exact below_new _ _
  have hcz1 := bthen hbz1 hl
  have iN : BlkI wx1 wy1.heap.size 44 [e1, e2] := by rw [hwz]; exact Blk.new _ _ _
  generalize wy1.heap.size = G at iN ⊢
  have c0 := cellb c0 hl
  have i1 := i1.carry hl
  have i2 := i2.carry hl
  clear hwz
  refine hK _ _ (fun _ => hl) ?_
  clear hK K hl
  try simp only [Act.put, List.setIfInBounds_toArray, List.set_cons_zero, List.set_cons_succ]
  refine wpAnyE_call (i := 11) (oi := { dst := some 19, op := Op.call { callee := Callee.value (Operand.func 18), args := #[Operand.tmp 18], argTypes := #[81] }, type := 44, pos := "telegram.go:79", after := #[{ on := 10, ground := Ground.data }, { on := 9, ground := Ground.chain }], guard := none }) (fun w hE => ofPure (TF.out _ w ((BlkI.ints iN rfl).carry hE))) rfl (by kernel_rfl) (by kernel_rfl) (by kernel_rfl) (by kernel_rfl) (fun _ _ _ h => h) (by rfl) (fun w hE => by (try dsimp only); go_simp) ?_
  try simp only [Act.put, List.setIfInBounds_toArray, List.set_cons_zero, List.set_cons_succ]
  refine wpAnyE_take (i := 12) (oi := { dst := some 4, op := Op.assign (Operand.tmp 19), type := 44, pos := "telegram.go:79", after := #[{ on := 11, ground := Ground.data }, { on := 11, ground := Ground.chain }, { on := 0, ground := Ground.phase }, { on := 1, ground := Ground.phase }, { on := 2, ground := Ground.phase }, { on := 3, ground := Ground.phase }, { on := 4, ground := Ground.phase }, { on := 5, ground := Ground.phase }, { on := 6, ground := Ground.phase }, { on := 7, ground := Ground.phase }, { on := 8, ground := Ground.phase }, { on := 9, ground := Ground.phase }, { on := 10, ground := Ground.phase }, { on := 11, ground := Ground.phase }], guard := none }) (v := ?_) rfl (by kernel_rfl) (by kernel_rfl) (by kernel_rfl) (by kernel_rfl) (fun _ _ _ h => h) (Or.inl ⟨by rfl, ?_⟩) ?_
  rotate_left
  · (intro w hE; have c0 := cellb c0 hE; (try dsimp only); go_simp); (try with_reducible rfl)
  try simp only [Act.put, List.setIfInBounds_toArray, List.set_cons_zero, List.set_cons_succ]
  refine wpAnyE_done (by kernel_rfl) (fun wy2 hE => ?_) _
  have hbz2 := bthen hcz1 hE
  have c0 := cellb c0 hE
  have i1 := i1.carry hE
  have i2 := i2.carry hE
  clear hE
  have hB := hbz2
  obtain ⟨W9, hW9⟩ : ∃ v, v = wy2 := ⟨_, rfl⟩
  rw [← hW9] at hB i1 i2 ⊢
  clear hW9
  clear c0 TW1 TN TC TW2 TF
  have l2 := Blk.lt i2
  by_cases hE0 : E = 0
  · have hok : dcOk [x0, x1, x2, x3, x4, x5, x6, x7, x8, x9, x10, x11, x12, x13, x14, x15] = true := by rw [← HOK.out]; exact hE0
    have HR := Lib.hid (show dcR [x0, x1, x2, x3, x4, x5, x6, x7, x8, x9, x10, x11, x12, x13, x14, x15] = dcT [x0, x1, x2, x3, x4, x5, x6, x7, x8, x9, x10, x11, x12, x13, x14, x15] by unfold dcR; rw [if_pos hok])
    subst hE0
    have c1 := Blk.cell i1 (j := 1) (v := .int .u8 x1) rfl
    obtain ⟨kc, hK⟩ : ∃ kc, kc = numN [x2, x3] := ⟨_, rfl⟩
    rw [← hK] at TK HDT
    obtain ⟨v0, hv0⟩ : ∃ v, v = s16 (numN [x4, x5]) := ⟨_, rfl⟩
    obtain ⟨v1, hv1⟩ : ∃ v, v = s16 (numN [x6, x7]) := ⟨_, rfl⟩
    obtain ⟨v2, hv2⟩ : ∃ v, v = s16 (numN [x8, x9]) := ⟨_, rfl⟩
    obtain ⟨v3, hv3⟩ : ∃ v, v = s16 (numN [x10, x11]) := ⟨_, rfl⟩
    rw [← hv0, ← hv1, ← hv2, ← hv3] at HDT
    have HV0 := Lib.hid hv0
    have HV1 := Lib.hid hv1
    have HV2 := Lib.hid hv2
    have HV3 := Lib.hid hv3
    clear hok hK hv0 hv1 hv2 hv3
    have hx1 : IntKind.i64.wrap x1 = x1 := IntWalk.i64_in _ (by omega)
    go_upto_region 4 with fail
    refine wp_region_E 7 (by kernel_rfl) ?_
    obtain ⟨wz, hwz⟩ : ∃ v, v = W9.drew := ⟨_, rfl⟩
    rw [← hwz]
    have hlz : Below W9.heap.size W9 wz := by rw [hwz]; exact (Below.refl _ _).drew
    have hbz := bthen hB hlz
    have c1 := cellb c1 hlz
    have i1 := i1.carry hlz
    have i2 := i2.carry hlz
    clear hwz hlz
    refine wpAnyE_take (i := 0) (oi := { dst := some 24, op := Op.indexAddr 43 (Operand.tmp 1) (Operand.const (Value.int IntKind.i64 1)), type := 0, pos := "telegram.go:82", after := #[], guard := none }) (v := ?_) rfl (by kernel_rfl) (by kernel_rfl) (by kernel_rfl) (by kernel_rfl) (fun _ _ _ h => h) (Or.inl ⟨by rfl, ?_⟩) ?_
    rotate_left
    · (intro w hE; have c1 := cellb c1 hE; (try dsimp only); go_simp); (try with_reducible rfl)
    try simp only [Act.put, List.setIfInBounds_toArray, List.set_cons_zero, List.set_cons_succ]
    refine wpAnyE_take (i := 1) (oi := { dst := some 25, op := Op.load 5 (Operand.tmp 24), type := 5, pos := "telegram.go:82", after := #[{ on := 0, ground := Ground.data }], guard := none }) (v := ?_) rfl (by kernel_rfl) (by kernel_rfl) (by kernel_rfl) (by kernel_rfl) (fun _ _ _ h => h) (Or.inl ⟨by rfl, ?_⟩) ?_
    rotate_left
    · (intro w hE; have c1 := cellb c1 hE; (try dsimp only); go_simp); (try with_reducible rfl)
    try simp only [Act.put, List.setIfInBounds_toArray, List.set_cons_zero, List.set_cons_succ]
    refine wpAnyE_take (i := 2) (oi := { dst := some 26, op := Op.convert 5 3 (Operand.tmp 25), type := 3, pos := "telegram.go:82", after := #[{ on := 1, ground := Ground.data }], guard := none }) (v := ?_) rfl (by kernel_rfl) (by kernel_rfl) (by kernel_rfl) (by kernel_rfl) (fun _ _ _ h => h) (Or.inl ⟨by rfl, ?_⟩) ?_
    rotate_left
    · (intro w hE; have c1 := cellb c1 hE; (try dsimp only); go_simp); (try with_reducible rfl)
    try simp only [Act.put, List.setIfInBounds_toArray, List.set_cons_zero, List.set_cons_succ]
    refine wpAnyE_take (i := 3) (oi := { dst := some 27, op := Op.slice 43 (Operand.tmp 1) (some (Operand.const (Value.int IntKind.i64 2))) (some (Operand.const (Value.int IntKind.i64 4))) none, type := 28, pos := "telegram.go:82", after := #[], guard := none }) (v := ?_) rfl (by kernel_rfl) (by kernel_rfl) (by kernel_rfl) (by kernel_rfl) (fun _ _ _ h => h) (Or.inl ⟨by rfl, ?_⟩) ?_
    rotate_left
    · (intro w hE; have c1 := cellb c1 hE; (try dsimp only); go_simp); (try with_reducible rfl)
    try simp only [Act.put, List.setIfInBounds_toArray, List.set_cons_zero, List.set_cons_succ]
    refine wpAnyE_call (i := 4) (oi := { dst := some 28, op := Op.call { callee := Callee.value (Operand.func 34), args := #[Operand.tmp 27], argTypes := #[28] }, type := 3, pos := "telegram.go:82", after := #[{ on := 3, ground := Ground.data }], guard := none }) (fun w hE => ofPure (TK.out _ w (bytK (i1.carry hE)))) rfl (by kernel_rfl) (by kernel_rfl) (by kernel_rfl) (by kernel_rfl) (fun _ _ _ h => h) (by rfl) (fun w hE => by (try dsimp only); go_simp) ?_
    try simp only [Act.put, List.setIfInBounds_toArray, List.set_cons_zero, List.set_cons_succ]
    refine wpAnyE_take (i := 5) (oi := { dst := some 29, op := Op.build 40 #[(0, Operand.tmp 26), (1, Operand.tmp 28)], type := 40, pos := "telegram.go:82", after := #[{ on := 2, ground := Ground.data }, { on := 4, ground := Ground.data }], guard := none }) (v := ?_) rfl (by kernel_rfl) (by kernel_rfl) (by kernel_rfl) (by kernel_rfl) (fun _ _ _ h => h) (Or.inl ⟨by rfl, ?_⟩) ?_
    rotate_left
    · (intro w hE; have c1 := cellb c1 hE; (try dsimp only); go_simp); (try with_reducible rfl)
    try simp only [Act.put, List.setIfInBounds_toArray, List.set_cons_zero, List.set_cons_succ]
    refine wpAnyE_one (i := 6) (o := { dst := some 5, op := Op.alloc 40, type := 0, pos := "telegram.go:82", after := #[], guard := none }) (by kernel_rfl) rfl (fun wy1 hE K hK => ?_)
    have c1 := cellb c1 hE
    have i1 := i1.carry hE
    have i2 := i2.carry hE
    have hbz1 := bthen hbz hE
    clear hE
    go_simp
    obtain ⟨wx1, hwz⟩ : ∃ v, v = wy1.alloc (Obj.cells #[.int .i64 0, .int .i64 0, .int .i64 0, .int .i64 0, .int .i64 0, .int .i64 0] 40) := ⟨_, rfl⟩
    rw [← hwz]
    have hl : Below wy1.heap.size wy1 wx1 := by rw [hwz]; exact below_new _ _
    have hcz1 := bthen hbz1 hl
    have i5 : BlkI wx1 wy1.heap.size 40 (List.replicate 6 0) := by rw [hwz]; exact Blk.new _ _ _
    have hg5 : w.heap.size + 1 < wy1.heap.size := Blk.lt i2
    generalize wy1.heap.size = G5 at i5 hg5 ⊢
    have c1 := cellb c1 hl
    have i1 := i1.carry hl
    have i2 := i2.carry hl
    clear hwz
    refine hK _ _ (fun _ => hl) ?_
    clear hK K hl
    try simp only [Act.put, List.setIfInBounds_toArray, List.set_cons_zero, List.set_cons_succ]
    refine wpAnyE_one (i := 7) (o := { dst := none, op := Op.store 40 (Operand.tmp 5) (Operand.tmp 29), type := 0, pos := "telegram.go:82", after := #[{ on := 6, ground := Ground.data }, { on := 5, ground := Ground.data }, { on := 4, ground := Ground.chain }, { on := 0, ground := Ground.phase }, { on := 1, ground := Ground.phase }, { on := 2, ground := Ground.phase }, { on := 3, ground := Ground.phase }, { on := 4, ground := Ground.phase }, { on := 5, ground := Ground.phase }, { on := 6, ground := Ground.phase }], guard := none }) (by kernel_rfl) rfl (fun wy2 hE K hK => ?_)
    have c1 := cellb c1 hE
    have i1 := i1.carry hE
    have i2 := i2.carry hE
    have i5 := i5.carry hE
    have hbz2 := bthen hcz1 hE
    clear hE
    rw [if_pos (by rfl)]
    refine wp_storeA _ _ _ rfl G5 [x1, kc, 0, 0, 0, 0] (List.replicate 6 0) rfl rfl i5 rfl Tryd.infoTg ?_
    obtain ⟨wx2, hwz⟩ : ∃ v, v = World.setRow wy2 G5 (ia [x1, kc, 0, 0, 0, 0]) := ⟨_, rfl⟩
    rw [← hwz]
    have hcz2 : Below w.heap.size w wx2 := by rw [hwz]; exact below_rowA hbz2 (by omega) _
    replace i5 := BlkI.setRowA i5 [x1, kc, 0, 0, 0, 0]
    rw [← hwz] at i5
    replace i1 := Blk.setRow i1 (B' := G5) (by omega) (ia [x1, kc, 0, 0, 0, 0])
    rw [← hwz] at i1
    replace i2 := BlkI.setRowO i2 (B' := G5) (by omega) (ia [x1, kc, 0, 0, 0, 0])
    rw [← hwz] at i2
    clear hwz
    refine hK _ _ (fun h => absurd rfl h) ?_
    clear hK K
    try simp only [Act.put, List.setIfInBounds_toArray, List.set_cons_zero, List.set_cons_succ]
    refine wpAnyE_done (by kernel_rfl) (fun wy3 hE => ?_) _
    have hbz3 := bthen hcz2 hE
    have i1 := i1.carry hE
    have i2 := i2.carry hE
    have i5 := i5.carry hE
    clear hE
    have hB := hbz3
    obtain ⟨Y2, hY2⟩ : ∃ v, v = wy3 := ⟨_, rfl⟩
    rw [← hY2] at hB i1 i2 i5 ⊢
    clear hY2
    clear c1 TK
    have i5 : BlkI Y2 G5 40 (tgP x1 kc v0 v1 v2 v3 0) := i5
    have n5 : w.heap.size + 1 < G5 := hg5
    clear l2
    go_wp2_with fail
    go_loopw [30] (fun i wr => ∃ k : Nat, k ≤ 4 ∧ i = .int .i64 k ∧ BlkI wr G5 40 (tgP x1 kc v0 v1 v2 v3 k) ∧ BlkU wr w.heap.size 43 [x0, x1, x2, x3, x4, x5, x6, x7, x8, x9, x10, x11, x12, x13, x14, x15] ∧ BlkI wr (w.heap.size + 1) 40 (List.replicate 6 0) ∧ Below w.heap.size w wr) (fun i _ => 4 - (intOf i).toNat)
    case atStart => exact ⟨0, by omega, rfl, i5, i1, i2, hB⟩
    case round =>
      clear i5 i1 i2 hB
      obtain ⟨k, hk, rfl, i5, i1, i2, hB⟩ := hrel
      have hk5 : k = 0 ∨ k = 1 ∨ k = 2 ∨ k = 3 ∨ k = 4 := by omega
      rcases hk5 with rfl | rfl | rfl | rfl | rfl
      · have hn := num_bd (s := [x4, x5]) (HBB0.out)
        have hn2 : 0 ≤ numN [x4, x5] ∧ numN [x4, x5] < 65536 := ⟨hn.1, Int.lt_of_lt_of_le hn.2 (by show (256 : Int) ^ 2 ≤ 65536; decide)⟩
        have TV := Lib.hid (TV0.out _ wr (bytV0 i1))
        have HV := Lib.hid (HV0.out)
        clear hn
        generalize numN [x4, x5] = n at TV hn2 HV
        have f5 := Blk.frozen i5 2
        have c5 := BlkI.cell i5 (j := 2) (by simp [tgP])
        have i5' := BlkI.set i5 2 v0
        have hset : (tgP x1 kc v0 v1 v2 v3 0).set 2 v0 = tgP x1 kc v0 v1 v2 v3 1 := rfl
        rw [hset] at i5'
        clear hset
        generalize (tgP x1 kc v0 v1 v2 v3 0)[2]?.getD 0 = old at c5
        by_cases hs : 32768 ≤ n
        · have hv : v0 = n - 65536 := by rw [HV.out]; unfold s16; rw [if_pos hs]
          have HVV := Lib.hid hv
          clear hv
          go_wp2_with fail
          refine TV.out.mono ?_
          rintro r W5 ⟨rfl, rfl⟩
          go_wp2_with fail
          go_roundw
          case rel => exact ⟨1, by omega, by go_num, by rw [← HVV.out]; exact i5', i1.other (by omega) _, i2.other (by omega) _, hB.setCell (by simp; omega) _⟩
          case measure => simp [intOf]
        · have hv : v0 = n := by rw [HV.out]; unfold s16; rw [if_neg hs]
          have HVV := Lib.hid hv
          clear hv
          go_wp2_with fail
          refine TV.out.mono ?_
          rintro r W5 ⟨rfl, rfl⟩
          go_wp2_with fail
          go_roundw
          case rel => exact ⟨1, by omega, by go_num, by rw [← HVV.out]; exact i5', i1.other (by omega) _, i2.other (by omega) _, hB.setCell (by simp; omega) _⟩
          case measure => simp [intOf]
      · have hn := num_bd (s := [x6, x7]) (HBB1.out)
        have hn2 : 0 ≤ numN [x6, x7] ∧ numN [x6, x7] < 65536 := ⟨hn.1, Int.lt_of_lt_of_le hn.2 (by show (256 : Int) ^ 2 ≤ 65536; decide)⟩
        have TV := Lib.hid (TV1.out _ wr (bytV1 i1))
        have HV := Lib.hid (HV1.out)
        clear hn
        generalize numN [x6, x7] = n at TV hn2 HV
        have f5 := Blk.frozen i5 3
        have c5 := BlkI.cell i5 (j := 3) (by simp [tgP])
        have i5' := BlkI.set i5 3 v1
        have hset : (tgP x1 kc v0 v1 v2 v3 1).set 3 v1 = tgP x1 kc v0 v1 v2 v3 2 := rfl
        rw [hset] at i5'
        clear hset
        generalize (tgP x1 kc v0 v1 v2 v3 1)[3]?.getD 0 = old at c5
        by_cases hs : 32768 ≤ n
        · have hv : v1 = n - 65536 := by rw [HV.out]; unfold s16; rw [if_pos hs]
          have HVV := Lib.hid hv
          clear hv
          go_wp2_with fail
          refine TV.out.mono ?_
          rintro r W5 ⟨rfl, rfl⟩
          go_wp2_with fail
          go_roundw
          case rel => exact ⟨2, by omega, by go_num, by rw [← HVV.out]; exact i5', i1.other (by omega) _, i2.other (by omega) _, hB.setCell (by simp; omega) _⟩
          case measure => simp [intOf]
        · have hv : v1 = n := by rw [HV.out]; unfold s16; rw [if_neg hs]
          have HVV := Lib.hid hv
          clear hv
          go_wp2_with fail
          refine TV.out.mono ?_
          rintro r W5 ⟨rfl, rfl⟩
          go_wp2_with fail
          go_roundw
          case rel => exact ⟨2, by omega, by go_num, by rw [← HVV.out]; exact i5', i1.other (by omega) _, i2.other (by omega) _, hB.setCell (by simp; omega) _⟩
          case measure => simp [intOf]
      · have hn := num_bd (s := [x8, x9]) (HBB2.out)
        have hn2 : 0 ≤ numN [x8, x9] ∧ numN [x8, x9] < 65536 := ⟨hn.1, Int.lt_of_lt_of_le hn.2 (by show (256 : Int) ^ 2 ≤ 65536; decide)⟩
        have TV := Lib.hid (TV2.out _ wr (bytV2 i1))
        have HV := Lib.hid (HV2.out)
        clear hn
        generalize numN [x8, x9] = n at TV hn2 HV
        have f5 := Blk.frozen i5 4
        have c5 := BlkI.cell i5 (j := 4) (by simp [tgP])
        have i5' := BlkI.set i5 4 v2
        have hset : (tgP x1 kc v0 v1 v2 v3 2).set 4 v2 = tgP x1 kc v0 v1 v2 v3 3 := rfl
        rw [hset] at i5'
        clear hset
        generalize (tgP x1 kc v0 v1 v2 v3 2)[4]?.getD 0 = old at c5
        by_cases hs : 32768 ≤ n
        · have hv : v2 = n - 65536 := by rw [HV.out]; unfold s16; rw [if_pos hs]
          have HVV := Lib.hid hv
          clear hv
          go_wp2_with fail
          refine TV.out.mono ?_
          rintro r W5 ⟨rfl, rfl⟩
          go_wp2_with fail
          go_roundw
          case rel => exact ⟨3, by omega, by go_num, by rw [← HVV.out]; exact i5', i1.other (by omega) _, i2.other (by omega) _, hB.setCell (by simp; omega) _⟩
          case measure => simp [intOf]
        · have hv : v2 = n := by rw [HV.out]; unfold s16; rw [if_neg hs]
          have HVV := Lib.hid hv
          clear hv
          go_wp2_with fail
          refine TV.out.mono ?_
          rintro r W5 ⟨rfl, rfl⟩
          go_wp2_with fail
          go_roundw
          case rel => exact ⟨3, by omega, by go_num, by rw [← HVV.out]; exact i5', i1.other (by omega) _, i2.other (by omega) _, hB.setCell (by simp; omega) _⟩
          case measure => simp [intOf]
      · have hn := num_bd (s := [x10, x11]) (HBB3.out)
        have hn2 : 0 ≤ numN [x10, x11] ∧ numN [x10, x11] < 65536 := ⟨hn.1, Int.lt_of_lt_of_le hn.2 (by show (256 : Int) ^ 2 ≤ 65536; decide)⟩
        have TV := Lib.hid (TV3.out _ wr (bytV3 i1))
        have HV := Lib.hid (HV3.out)
        clear hn
        generalize numN [x10, x11] = n at TV hn2 HV
        have f5 := Blk.frozen i5 5
        have c5 := BlkI.cell i5 (j := 5) (by simp [tgP])
        have i5' := BlkI.set i5 5 v3
        have hset : (tgP x1 kc v0 v1 v2 v3 3).set 5 v3 = tgP x1 kc v0 v1 v2 v3 4 := rfl
        rw [hset] at i5'
        clear hset
        generalize (tgP x1 kc v0 v1 v2 v3 3)[5]?.getD 0 = old at c5
        by_cases hs : 32768 ≤ n
        · have hv : v3 = n - 65536 := by rw [HV.out]; unfold s16; rw [if_pos hs]
          have HVV := Lib.hid hv
          clear hv
          go_wp2_with fail
          refine TV.out.mono ?_
          rintro r W5 ⟨rfl, rfl⟩
          go_wp2_with fail
          go_roundw
          case rel => exact ⟨4, by omega, by go_num, by rw [← HVV.out]; exact i5', i1.other (by omega) _, i2.other (by omega) _, hB.setCell (by simp; omega) _⟩
          case measure => simp [intOf]
        · have hv : v3 = n := by rw [HV.out]; unfold s16; rw [if_neg hs]
          have HVV := Lib.hid hv
          clear hv
          go_wp2_with fail
          refine TV.out.mono ?_
          rintro r W5 ⟨rfl, rfl⟩
          go_wp2_with fail
          go_roundw
          case rel => exact ⟨4, by omega, by go_num, by rw [← HVV.out]; exact i5', i1.other (by omega) _, i2.other (by omega) _, hB.setCell (by simp; omega) _⟩
          case measure => simp [intOf]
      · have i6 : BlkI wr G5 40 [x1, kc, v0, v1, v2, v3] := i5
        have y0 := BlkI.cell (l := [x1, kc, v0, v1, v2, v3]) i6 (j := 0) (by simp)
        have y1 := BlkI.cell (l := [x1, kc, v0, v1, v2, v3]) i6 (j := 1) (by simp)
        have y2 := BlkI.cell (l := [x1, kc, v0, v1, v2, v3]) i6 (j := 2) (by simp)
        have y3 := BlkI.cell (l := [x1, kc, v0, v1, v2, v3]) i6 (j := 3) (by simp)
        have y4 := BlkI.cell (l := [x1, kc, v0, v1, v2, v3]) i6 (j := 4) (by simp)
        have y5 := BlkI.cell (l := [x1, kc, v0, v1, v2, v3]) i6 (j := 5) (by simp)
        simp only [List.getElem?_cons_zero, List.getElem?_cons_succ, Option.getD_some] at y0 y1 y2 y3 y4 y5
        go_wp2_with (refine wpList_storeA rfl _ _ _ rfl (w.heap.size + 1) [x1, kc, v0, v1, v2, v3] (List.replicate 6 0) rfl rfl i2 rfl Tryd.infoTg ?_)
        have i9 := BlkI.setRowA i2 [x1, kc, v0, v1, v2, v3]
        have z0 := BlkI.cell (l := [x1, kc, v0, v1, v2, v3]) i9 (j := 0) (by simp)
        have z1 := BlkI.cell (l := [x1, kc, v0, v1, v2, v3]) i9 (j := 1) (by simp)
        have z2 := BlkI.cell (l := [x1, kc, v0, v1, v2, v3]) i9 (j := 2) (by simp)
        have z3 := BlkI.cell (l := [x1, kc, v0, v1, v2, v3]) i9 (j := 3) (by simp)
        have z4 := BlkI.cell (l := [x1, kc, v0, v1, v2, v3]) i9 (j := 4) (by simp)
        have z5 := BlkI.cell (l := [x1, kc, v0, v1, v2, v3]) i9 (j := 5) (by simp)
        simp only [List.getElem?_cons_zero, List.getElem?_cons_succ, Option.getD_some] at z0 z1 z2 z3 z4 z5
        exact bodyPost_ret (v := .tuple #[.agg #[.int .i64 x1, .int .i64 kc, .int .i64 v0, .int .i64 v1, .int .i64 v2, .int .i64 v3], .int .i64 0]) (by simp [results, Tryd.f21, go_sem, z0, z1, z2, z3, z4, z5]) rfl ⟨by rw [HR.out, HDT.out, ← HED.out]; rfl, below_rowA hB (by omega) _⟩
  · have hok : ¬ dcOk [x0, x1, x2, x3, x4, x5, x6, x7, x8, x9, x10, x11, x12, x13, x14, x15] = true := by rw [← HOK.out]; exact hE0
    have HR := Lib.hid (show dcR [x0, x1, x2, x3, x4, x5, x6, x7, x8, x9, x10, x11, x12, x13, x14, x15] = tgZ by unfold dcR; rw [if_neg hok])
    have z : (E != 0) = true := by rw [bne_iff_ne]; exact hE0
    clear hok hE0
    go_wp2_with (refine wpList_storeA rfl _ _ _ rfl (w.heap.size + 1) [0, 0, 0, 0, 0, 0] (List.replicate 6 0) rfl rfl i2 rfl Tryd.infoTg ?_)
    have i9 := BlkI.setRowA i2 [0, 0, 0, 0, 0, 0]
    have z0 := BlkI.cell (l := [0, 0, 0, 0, 0, 0]) i9 (j := 0) (by simp)
    have z1 := BlkI.cell (l := [0, 0, 0, 0, 0, 0]) i9 (j := 1) (by simp)
    have z2 := BlkI.cell (l := [0, 0, 0, 0, 0, 0]) i9 (j := 2) (by simp)
    have z3 := BlkI.cell (l := [0, 0, 0, 0, 0, 0]) i9 (j := 3) (by simp)
    have z4 := BlkI.cell (l := [0, 0, 0, 0, 0, 0]) i9 (j := 4) (by simp)
    have z5 := BlkI.cell (l := [0, 0, 0, 0, 0, 0]) i9 (j := 5) (by simp)
    simp only [List.getElem?_cons_zero, List.getElem?_cons_succ, Option.getD_some] at z0 z1 z2 z3 z4 z5
    exact bodyPost_ret (v := .tuple #[.agg #[.int .i64 0, .int .i64 0, .int .i64 0, .int .i64 0, .int .i64 0, .int .i64 0], .int .i64 E]) (by simp [results, Tryd.f21, go_sem, z0, z1, z2, z3, z4, z5]) rfl ⟨by rw [HR.out, HED.out]; rfl, below_rowA hB (by omega) _⟩

theorem Decode_any (s : List Int) (hl : s.length = 16) (h : ByteL s) (w : World) :
    Calls Tryd.prog 21 #[.agg (ua s)] w fun r w' => r = .returned (.tuple #[.agg (ia (tgI (dcR s))), .int .i64 (dcE s)]) ∧ Below w.heap.size w w' := by
  match s, hl with
  | [x0, x1, x2, x3, x4, x5, x6, x7, x8, x9, x10, x11, x12, x13, x14, x15], _ => exact Decode_x x0 x1 x2 x3 x4 x5 x6 x7 x8 x9 x10 x11 x12 x13 x14 x15 h w
end Go.Proofs.YtjmdnolmaofbiaaDoor

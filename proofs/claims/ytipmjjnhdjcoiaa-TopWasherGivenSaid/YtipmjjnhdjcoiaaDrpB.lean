/- The law TopWasherDroop: its fixed example. -/
import Derived.Test.YtipmjjnhdjcoiaaDrpP
import Derived.Deep.AppendSrc
namespace Go.Proofs.Ytipmjjnhdjcoiaa
set_option linter.unusedSimpArgs false
set_option linter.unusedVariables false
open Go.RowKit

theorem OwnI.one {e base : Nat} {w : World} {v : Value} {l : List Int} (h : OwnI e base w v l) : v.oneCell' = true := by
  obtain ⟨_, ⟨rfl, _⟩ | ⟨g, cap, cur, rfl, _⟩⟩ := h <;> rfl

theorem run_append_freshI {P : Program} (w : World) (t tx ty e' : TypeId) (i : TypeInfo) (z : Value) (ht : P.underlying t = some (.slice 3)) (htx : P.underlying tx = some (.slice e')) (hi : P.info? 3 = some i) (hz : i.zero = some z) (hs1 : i.size = 1) (hby : i.bytes = 8) (hzs : z.cells.size = 1)
    (g : Nat) (hg : Blk w g 3 []) (v : Value) (l : List Int) (hv : Ints w v l) (hl : l.length ≤ 1000000) :
    ∃ u w', (Builtin.append_ #[t, tx] ty #[.slice (some ⟨g, 0, none⟩) 0 0, v]).run P w = .ok u w' ∧ OwnI 3 0 w' u l ∧ Below w.heap.size w w' := by
  rcases Nat.eq_zero_or_pos l.length with h0 | h0
  · obtain rfl : l = [] := List.length_eq_zero_iff.1 h0
    obtain ⟨a, cp, rfl, hc, hv⟩ := hv
    exact ⟨_, _, run_append_empty (P := P) w t tx ty 3 e' i z ht htx hi hz g 0 a cp, ⟨rfl, .inr ⟨g, 0, #[], rfl, Nat.zero_le _, hg, Nat.le_refl _, by unfold maxLen; omega, rfl, rfl⟩⟩, Below.refl _ _⟩
  · obtain ⟨u, w', hr, ho, hb⟩ := run_append_freshO (P := P) w t tx ty 3 i z 1 8 ht hi hz hs1 hby hzs g 0 v l.length _ (hv.src htx h0) h0 (by unfold maxLen; omega) (by omega)
    exact ⟨u, w', hr, OwnI.base ho (Nat.zero_le _), hb⟩

theorem wpList_append_freshI {P : Program} {ops : Array Oper} {rest : List Oper} {o : Oper} {a : Act} {w : World} {Q : Exit → Act → World → Prop} (hgd : o.guard = none) (s x : Operand) (t tx e' : TypeId)
    (ho : o.op = .call { callee := .builtin .append, args := #[s, x], argTypes := #[t, tx] })
    (i : TypeInfo) (z : Value) (ht : P.underlying t = some (.slice 3)) (htx : P.underlying tx = some (.slice e')) (hi : P.info? 3 = some i) (hz : i.zero = some z) (hs1 : i.size = 1) (hby : i.bytes = 8) (hzs : z.cells.size = 1)
    (g : Nat) (hg : Blk w g 3 []) (hs : a.eval s = .slice (some ⟨g, 0, none⟩) 0 0) (v : Value) (l : List Int) (hx : a.eval x = v) (hv : Ints w v l) (hl : l.length ≤ 1000000)
    (h : ∀ u w', OwnI 3 0 w' u l → Below w.heap.size w w' → wpList P ops Q rest (a.put o.dst u) w') : wpList P ops Q (o :: rest) a w :=
  wpList_plain hgd fun _ hK => by
    obtain ⟨u, w', hr, h2, h3⟩ := run_append_freshI (P := P) w t tx o.type e' i z ht htx hi hz hs1 hby hzs g hg v l hv hl
    unfold Oper.wp execOp
    simp only [ho, resolve, invoke, builtin, Sem.run_bind, Sem.run_pure, Result.andThen_ok, List.map_toArray, List.map_cons, List.map_nil, hs, hx, hr]
    exact hK _ _ (h u w' h2 h3)

theorem eqRatio (a b : Int) (w : World) : Sem.run Try.prog (binOp .eql 61 (.agg #[.int .i64 a, .int .i64 b]) (.agg #[.int .i64 a, .int .i64 b])) w = .ok (.bool true) w := by
  go_simp
theorem neqRatio (a b : Int) (w : World) : Sem.run Try.prog (binOp .neq 61 (.agg #[.int .i64 a, .int .i64 b]) (.agg #[.int .i64 a, .int .i64 b])) w = .ok (.bool false) w := by
  go_simp
theorem ex_steps : steppedR [-1, 4] [4] 1 = [4, 4] ∧ steppedE [-1, 4] [4] 1 = 0 := by decide +kernel
theorem ex_ok : LinesOk 10 [(30, 2), (20, 1)] := ⟨by omega, by simp, fun x hx => by
  simp at hx
  rcases hx with rfl | rfl <;> simp⟩

set_option maxRecDepth 100000 in
set_option maxHeartbeats 4000000 in
theorem washerDroop_any (w : World) : Calls Try.prog 7 #[] w fun r w' => r = .returned (.bool true) ∧ Below w.heap.size w w' := by
  go_enter Try.func7, Try.ntmps7
  go_upto_region 2 with fail
  obtain ⟨W1, hW1⟩ : ∃ v, v = World.alloc w (Obj.cells #[.int .i64 0, .int .i64 30, .int .i64 10, .int .i64 10] 56) := ⟨_, rfl⟩
  have kW1 : Below w.heap.size w W1 := by rw [hW1]; exact below_new _ _
  have iW1 : Blk W1 (w.heap.size) 56 [.int .i64 0, .int .i64 30, .int .i64 10, .int .i64 10] := by rw [hW1]; exact Blk.new _ _ _
  have sW1 : W1.heap.size = w.heap.size + 1 := by rw [hW1]; simp
  rw [← hW1]
  clear hW1
  obtain ⟨W2, hW2⟩ : ∃ v, v = World.alloc W1 (Obj.cells #[.int .i64 0, .int .i64 20, .int .i64 10, .int .i64 10] 56) := ⟨_, rfl⟩
  have kW2 : Below W1.heap.size W1 W2 := by rw [hW2]; exact below_new _ _
  have iW2 : Blk W2 (w.heap.size + 1) 56 [.int .i64 0, .int .i64 20, .int .i64 10, .int .i64 10] := by rw [hW2, ← sW1]; exact Blk.new _ _ _
  have sW2 : W2.heap.size = w.heap.size + 1 + 1 := by rw [hW2]; simp [sW1]
  rw [← hW2]
  clear hW2
  obtain ⟨W3, hW3⟩ : ∃ v, v = World.alloc W2 (Obj.cells #[.slice (some ⟨w.heap.size, 0, none⟩) 2 2, .slice (some ⟨w.heap.size + 1, 0, none⟩) 2 2] 58) := ⟨_, rfl⟩
  have kW3 : Below W2.heap.size W2 W3 := by rw [hW3]; exact below_new _ _
  have iW3 : Blk W3 (w.heap.size + 1 + 1) 58 [.slice (some ⟨w.heap.size, 0, none⟩) 2 2, .slice (some ⟨w.heap.size + 1, 0, none⟩) 2 2] := by rw [hW3, ← sW2]; exact Blk.new _ _ _
  have sW3 : W3.heap.size = w.heap.size + 1 + 1 + 1 := by rw [hW3]; simp [sW2]
  rw [← hW3]
  clear hW3
  clear sW1 sW2 sW3
  have hB := bthen kW1 (bthen kW2 kW3)
  have iA := (iW1.carry kW2).carry kW3
  have iB := iW2.carry kW3
  have hL : LinesIs W3 (.slice (some ⟨w.heap.size + 1 + 1, 0, none⟩) 2 2) 10 [(30, 2), (20, 1)] := by
    refine ⟨_, 0, 2, rfl, Nat.le_refl _, fun j x hx => ?_⟩
    match j, hx with
    | 0, hx => cases hx; exact ⟨_, iW3.cell rfl, _, 0, 2, rfl, Nat.le_refl _, iA.cell rfl, iA.cell rfl, iA.cell rfl, iA.cell rfl⟩
    | 1, hx => cases hx; exact ⟨_, iW3.cell rfl, _, 0, 2, rfl, Nat.le_refl _, iB.cell rfl, iB.cell rfl, iB.cell rfl, iB.cell rfl⟩
    | j + 2, hx => simp at hx
  clear kW1 kW2 kW3 iW1 iW2 iW3 iA iB
  have TX := Lib.hid (Crossing_any _ 10 5 35 _ W3 hL ex_ok (by omega) (by decide))
  clear hL
  go_wp2_with fail
  refine TX.out.mono ?_
  rintro e w4 ⟨rfl, hl⟩
  replace hB := bthen hB hl
  clear hl TX
  go_upto_region 3 with fail
  obtain ⟨W5, hW5⟩ : ∃ v, v = World.alloc w4 (Obj.cells #[.int .i64 5, .int .i64 1] 61) := ⟨_, rfl⟩
  have kW5 : Below w4.heap.size w4 W5 := by rw [hW5]; exact below_new _ _
  have iW5 : Blk W5 (w4.heap.size) 61 [.int .i64 5, .int .i64 1] := by rw [hW5]; exact Blk.new _ _ _
  have sW5 : W5.heap.size = w4.heap.size + 1 := by rw [hW5]; simp
  rw [← hW5]
  clear hW5
  clear sW5
  replace hB := bthen hB kW5
  have iR := iW5
  generalize w4.heap.size = G at iR ⊢
  clear kW5 iW5
  have hP : Ints ((W5.alloc (.cells #[.int .i64 (-1), .int .i64 4] 3)).alloc (.cells #[.int .i64 4] 3)) (.slice (some ⟨W5.heap.size, 0, none⟩) 2 2) [-1, 4] := (Ints.lit W5 _ [-1, 4] 2 rfl).alloc _
  have hV : Ints ((W5.alloc (.cells #[.int .i64 (-1), .int .i64 4] 3)).alloc (.cells #[.int .i64 4] 3)) (.slice (some ⟨W5.heap.size + 1, 0, none⟩) 1 1) [4] := Ints.new _ _ [4] 1 _ _ (by simp) rfl rfl
  have hl5 : Below W5.heap.size W5 ((W5.alloc (.cells #[.int .i64 (-1), .int .i64 4] 3)).alloc (.cells #[.int .i64 4] 3)) := bthen (below_new _ _) (below_new _ _)
  have ts := Stepped_any _ _ _ _ 1 _ hP hV (by simp) (by simp)
  rw [ex_steps.1, ex_steps.2] at ts
  have TS := Lib.hid ts
  clear ts hP hV
  go_wp2_with fail
  generalize (W5.alloc (.cells #[.int .i64 (-1), .int .i64 4] 3)).alloc (.cells #[.int .i64 4] 3) = W7 at TS hl5 ⊢
  refine TS.out.mono ?_
  rintro e w8 ⟨⟨us, rfl, hus⟩, hl⟩
  replace iR := (iR.carry hl5).carry hl
  replace hB := bthen hB (bthen hl5 hl)
  clear hl hl5 TS
  obtain ⟨b, off, cap, rfl, hcs⟩ := hus.head (by simp)
  have s1 := hcs 1 (by simp)
  have r0 := iR.cell (j := 0) (v := .int .i64 5) rfl
  have r1 := iR.cell (j := 1) (v := .int .i64 1) rfl
  have heq := eqRatio 5 1
  clear hcs hus
  simp only [List.getElem?_cons_succ, List.getElem?_cons_zero, Option.getD_some, List.length_cons, List.length_nil, Nat.zero_add, Nat.reduceAdd] at s1 ⊢
  go_wp2_with fail
  go_ret
  exact ⟨rfl, hB⟩

end Go.Proofs.Ytipmjjnhdjcoiaa

/- The reference: SameTelegrams, Same (at equal arguments). -/
import Derived.Test.YtgdkomgfalkihaaGreatDoorVfF
namespace Go.Proofs.YtgdkomgfalkihaaGreatDoor
section
set_option linter.unusedSimpArgs false
set_option linter.unusedVariables false
open Go.RowKit
theorem eqItemsD (l m : List Int) (w : World) : ∀ is : List Nat, (∀ i ∈ is, i < l.length ∧ i < m.length) →
 (Op.eqItems 9998 3 1 (ia l) (ia m) is).run Tryz.prog w = .ok (is.all fun i => l[i]?.getD 0 == m[i]?.getD 0) w := by
 have hu : Tryz.prog.underlying 3 = some (.int .i64) := by kernel_rfl
 have he : ∀ x y, (Op.equalIn 9998 3 (.int .i64 x) (.int .i64 y)).run Tryz.prog w = .ok (x == y) w := fun x y => run_equalIn_int w 9997 _ _ _ x y hu
 have hp : ∀ (xs : Array Value) (i : Nat) (x : Int), xs[i]? = some (.int .i64 x) → (part 3 xs i).run Tryz.prog w = .ok (.int .i64 x) w := fun xs i x hx => run_part_plain w (by kernel_rfl) hx
 have hg : ∀ (l : List Int) i, i < l.length → (ia l)[i]? = some (.int .i64 (l[i]?.getD 0)) := fun l i hi => by
  simp [ia, hi]
 intro is
 induction is with
 | nil => intro _; rfl
 | cons i is ih =>
   intro h
   obtain ⟨h1, h2⟩ := h i (by simp)
   simp only [Op.eqItems, Sem.run_bind, Nat.mul_one]
   rw [hp _ _ _ (hg l i h1)]
   simp only [Result.andThen_ok]
   rw [hp _ _ _ (hg m i h2)]
   simp only [Result.andThen_ok, he, List.all_cons]
   cases hb : (l[i]?.getD 0 == m[i]?.getD 0)
   ·simp
   ·simp only [Bool.not_true, Bool.false_eq_true, if_false, Bool.true_and]
    exact ih (fun j hj => h j (by simp [hj]))
theorem eqIn4D (l : List Int) (hl : l.length = 4) (w : World) : Sem.run Tryz.prog (Op.equalIn 9999 110 (.agg (ia l)) (.agg (ia l))) w = .ok true w := by
 obtain ⟨i0, hi, hz0, hz1, hz2⟩ := info_parts Tryz.infZint
 have hc : Tryz.prog.cellsOf 3 = 1 := by kernel_rfl
 rw [run_equalIn_array w 9998 (t := 110) (e := 3) (n := 4) _ _ Tryz.undA4 hi, hc, eqItemsD l l w _ (fun i hi => by rw [hl]; exact ⟨List.mem_range.1 hi, List.mem_range.1 hi⟩), allRange_eq l l 4 hl hl]
 simp
theorem neqTg_self (a b c d e f : Int) (w : World) : Sem.run Tryz.prog (binOp .neq 151 (.agg #[.int .i64 a, .int .i64 b, .int .i64 c, .int .i64 d, .int .i64 e, .int .i64 f]) (.agg #[.int .i64 a, .int .i64 b, .int .i64 c, .int .i64 d, .int .i64 e, .int .i64 f])) w = .ok (.bool false) w := by
 rw [run_neq_struct]
 have h4 := eqIn4D [c, d, e, f] rfl w
 have h : (Op.equalIn 10000 151 (.agg #[.int .i64 a, .int .i64 b, .int .i64 c, .int .i64 d, .int .i64 e, .int .i64 f]) (.agg #[.int .i64 a, .int .i64 b, .int .i64 c, .int .i64 d, .int .i64 e, .int .i64 f])).run Tryz.prog w = .ok true w := by
  simp only [ia, List.map_cons, List.map_nil] at h4
  go_simp
 rw [h]; rfl
set_option maxRecDepth 100000 in
set_option maxHeartbeats 2000000 in
theorem SameTelegrams_self (va vb : Value) (b : List Tg) (w : World) (ha : Rw 6 tV w va b) (hb : Rw 6 tV w vb b) (hl : b.length ≤ 1000000000) :
 Calls Tryz.prog 29 #[va, vb] w fun e w' => e = .returned (.bool true) ∧ Below w.heap.size w w' := by
 obtain ⟨xa, ca, rfl, _, hca⟩ := ha
 obtain ⟨xb, cb, rfl, _, hcb⟩ := hb
 go_enter Tryz.func29, Tryz.ntmps29
 go_wp2
 go_loopw [5] (fun i wr => ∃ k : Nat, k ≤ b.length ∧ i = .int .i64 k ∧ Below w.heap.size w wr) (fun i _ => b.length - (intOf i).toNat)
 case atStart => exact ⟨0, by omega, rfl, Below.refl _ _⟩
 case round =>
  obtain ⟨k, hk, rfl, hbr⟩ := hrel
  by_cases hlt : k < b.length
  ·obtain ⟨ba, oa, rfl, hda⟩ := hca (by omega)
   obtain ⟨bb, ob, rfl, hdb⟩ := hcb (by omega)
   obtain ⟨x, hx⟩ : ∃ x, b[k]? = some x := ⟨_, List.getElem?_eq_getElem hlt⟩
   obtain ⟨c0, c1, c2, c3, c4, c5⟩ := rw6 (hda k x hx) (show tV x = [.int .i64 x.1, .int .i64 x.2.1, .int .i64 x.2.2.1, .int .i64 x.2.2.2.1, .int .i64 x.2.2.2.2.1, .int .i64 x.2.2.2.2.2] from rfl)
   obtain ⟨d0, d1, d2, d3, d4, d5⟩ := rw6 (hdb k x hx) (show tV x = [.int .i64 x.1, .int .i64 x.2.1, .int .i64 x.2.2.1, .int .i64 x.2.2.2.1, .int .i64 x.2.2.2.2.1, .int .i64 x.2.2.2.2.2] from rfl)
   replace c0 := cellb c0 hbr
   replace c1 := cellb c1 hbr
   replace c2 := cellb c2 hbr
   replace c3 := cellb c3 hbr
   replace c4 := cellb c4 hbr
   replace c5 := cellb c5 hbr
   replace d0 := cellb d0 hbr
   replace d1 := cellb d1 hbr
   replace d2 := cellb d2 hbr
   replace d3 := cellb d3 hbr
   replace d4 := cellb d4 hbr
   replace d5 := cellb d5 hbr
   have e1 : (k : Int) < (b.length : Int) := by omega
   have e2 : (0 : Int) ≤ (k : Int) := by omega
   obtain ⟨x0, x1, x2, x3, x4, x5⟩ := x
   dsimp only at c0 c1 c2 c3 c4 c5 d0 d1 d2 d3 d4 d5
   have nq := fun W => neqTg_self x0 x1 x2 x3 x4 x5 W
   clear hda hdb hx hca hcb
   go_upto_region 6 with fail
   refine wp_region_held_drew (S := (fun w' => w'.cell? ⟨ba, oa + k * 6, none⟩ = some (.int .i64 x0) ∧ w'.cell? ⟨ba, oa + k * 6 + 1, none⟩ = some (.int .i64 x1) ∧ w'.cell? ⟨ba, oa + k * 6 + 2, none⟩ = some (.int .i64 x2) ∧ w'.cell? ⟨ba, oa + k * 6 + 3, none⟩ = some (.int .i64 x3) ∧ w'.cell? ⟨ba, oa + k * 6 + 4, none⟩ = some (.int .i64 x4) ∧ w'.cell? ⟨ba, oa + k * 6 + 5, none⟩ = some (.int .i64 x5) ∧ w'.cell? ⟨bb, ob + k * 6, none⟩ = some (.int .i64 x0) ∧ w'.cell? ⟨bb, ob + k * 6 + 1, none⟩ = some (.int .i64 x1) ∧ w'.cell? ⟨bb, ob + k * 6 + 2, none⟩ = some (.int .i64 x2) ∧ w'.cell? ⟨bb, ob + k * 6 + 3, none⟩ = some (.int .i64 x3) ∧ w'.cell? ⟨bb, ob + k * 6 + 4, none⟩ = some (.int .i64 x4) ∧ w'.cell? ⟨bb, ob + k * 6 + 5, none⟩ = some (.int .i64 x5))) (by kernel_rfl) ?_ (fun hHeld0 => ?_)
   ·(try dsimp only); go_keep
   refine wpAnyH_take (i := 0) (oi := { dst := some 17, op := Op.move (Operand.tmp 0), type := 52, pos := "words.go:361", after := #[], guard := none }) (v := ?_) rfl (by kernel_rfl) (by kernel_rfl) (by kernel_rfl) (fun _ _ _ h => h) (Or.inl ⟨by rfl, ?_⟩) (by assumption) ?_
   rotate_left
   ·(intro w hSw; (try dsimp only at hSw); go_simp); (try with_reducible rfl)
   try simp only [Act.put, zS]
   refine wpAnyH_take (i := 1) (oi := { dst := some 18, op := Op.move (Operand.tmp 5), type := 3, pos := "words.go:361", after := #[], guard := none }) (v := ?_) rfl (by kernel_rfl) (by kernel_rfl) (by kernel_rfl) (fun _ _ _ h => h) (Or.inl ⟨by rfl, ?_⟩) (by assumption) ?_
   rotate_left
   ·(intro w hSw; (try dsimp only at hSw); go_simp); (try with_reducible rfl)
   try simp only [Act.put, zS]
   refine wpAnyH_take (i := 2) (oi := { dst := some 19, op := Op.indexAddr 52 (Operand.tmp 17) (Operand.tmp 18), type := 0, pos := "words.go:361", after := #[{ on := 0, ground := Ground.data }, { on := 1, ground := Ground.data }], guard := none }) (v := ?_) rfl (by kernel_rfl) (by kernel_rfl) (by kernel_rfl) (fun _ _ _ h => h) (Or.inl ⟨by rfl, ?_⟩) (by assumption) ?_
   rotate_left
   ·(intro w hSw; (try dsimp only at hSw); go_simp); (try with_reducible rfl)
   try simp only [Act.put, zS]
   refine wpAnyH_take (i := 3) (oi := { dst := some 20, op := Op.load 151 (Operand.tmp 19), type := 151, pos := "words.go:361", after := #[{ on := 2, ground := Ground.data }], guard := none }) (v := ?_) rfl (by kernel_rfl) (by kernel_rfl) (by kernel_rfl) (fun _ _ _ h => h) (Or.inl ⟨by rfl, ?_⟩) (by assumption) ?_
   rotate_left
   ·(intro w hSw; (try dsimp only at hSw); go_simp); (try with_reducible rfl)
   try simp only [Act.put, zS]
   refine wpAnyH_take (i := 4) (oi := { dst := some 21, op := Op.move (Operand.tmp 1), type := 52, pos := "words.go:361", after := #[], guard := none }) (v := ?_) rfl (by kernel_rfl) (by kernel_rfl) (by kernel_rfl) (fun _ _ _ h => h) (Or.inl ⟨by rfl, ?_⟩) (by assumption) ?_
   rotate_left
   ·(intro w hSw; (try dsimp only at hSw); go_simp); (try with_reducible rfl)
   try simp only [Act.put, zS]
   refine wpAnyH_take (i := 5) (oi := { dst := some 22, op := Op.move (Operand.tmp 5), type := 3, pos := "words.go:361", after := #[], guard := none }) (v := ?_) rfl (by kernel_rfl) (by kernel_rfl) (by kernel_rfl) (fun _ _ _ h => h) (Or.inl ⟨by rfl, ?_⟩) (by assumption) ?_
   rotate_left
   ·(intro w hSw; (try dsimp only at hSw); go_simp); (try with_reducible rfl)
   try simp only [Act.put, zS]
   refine wpAnyH_take (i := 6) (oi := { dst := some 23, op := Op.indexAddr 52 (Operand.tmp 21) (Operand.tmp 22), type := 0, pos := "words.go:361", after := #[{ on := 4, ground := Ground.data }, { on := 5, ground := Ground.data }], guard := none }) (v := ?_) rfl (by kernel_rfl) (by kernel_rfl) (by kernel_rfl) (fun _ _ _ h => h) (Or.inl ⟨by rfl, ?_⟩) (by assumption) ?_
   rotate_left
   ·(intro w hSw; (try dsimp only at hSw); go_simp); (try with_reducible rfl)
   try simp only [Act.put, zS]
   refine wpAnyH_take (i := 7) (oi := { dst := some 24, op := Op.load 151 (Operand.tmp 23), type := 151, pos := "words.go:361", after := #[{ on := 6, ground := Ground.data }], guard := none }) (v := ?_) rfl (by kernel_rfl) (by kernel_rfl) (by kernel_rfl) (fun _ _ _ h => h) (Or.inl ⟨by rfl, ?_⟩) (by assumption) ?_
   rotate_left
   ·(intro w hSw; (try dsimp only at hSw); go_simp); (try with_reducible rfl)
   try simp only [Act.put, zS]
   refine wpAnyH_take (i := 8) (oi := { dst := some 25, op := Op.binOp BinOp.neq 151 (Operand.tmp 20) (Operand.tmp 24) 151, type := 4, pos := "words.go:361", after := #[{ on := 3, ground := Ground.data }, { on := 7, ground := Ground.data }], guard := none }) (v := ?_) rfl (by kernel_rfl) (by kernel_rfl) (by kernel_rfl) (fun _ _ _ h => h) (Or.inl ⟨by rfl, ?_⟩) (by assumption) ?_
   rotate_left
   ·(intro w hSw; (try dsimp only at hSw); go_simp); (try with_reducible rfl)
   try simp only [Act.put, zS]
   refine wpAnyH_done (by kernel_rfl) ?_ _
   clear hHeld0
   clear nq
   go_wp2
   go_roundw
   case rel => exact ⟨k + 1, by omega, by go_num, hbr.drew⟩
   case measure => simp [intOf]; omega
  ·obtain rfl : k = b.length := by omega
   clear hca hcb
   go_wp2
   go_ret
   exact ⟨rfl, hbr⟩
set_option maxRecDepth 100000 in
set_option maxHeartbeats 1000000 in
theorem Same_self (c : Int) (a1 a2 : Option Addr) (n1 p1 n2 p2 : Nat) (l : List P2) (w : World) (hl : l.length ≤ 1000000000) (ha : Prs w (.slice a1 n1 p1) l) (hb : Prs w (.slice a2 n2 p2) l) :
 Calls Tryz.prog 31 #[.agg #[.int .i64 c, .slice a1 n1 p1], .agg #[.int .i64 c, .slice a2 n2 p2]] w fun e w' => e = .returned (.bool true) ∧ Below w.heap.size w w' := by
 have T := Lib.hid (fun W h h' => by
  have := SameTrain_any (.slice a1 n1 p1) (.slice a2 n2 p2) l l W h h' hl
  rw [decide_eq_true rfl] at this
  exact this)
 go_enter Tryz.func31, Tryz.ntmps31
 go_upto_region 1 with fail
 obtain ⟨W1, hW1⟩ : ∃ v, v = World.alloc w (Obj.cells #[.int .i64 c, .slice a1 n1 p1] 24) := ⟨_, rfl⟩
 have kW1 : Below w.heap.size w W1 := by rw [hW1]; exact below_new _ _
 have iW1 : Blk W1 (w.heap.size) 24 [.int .i64 c, .slice a1 n1 p1] := by rw [hW1]; exact Blk.new _ _ _
 have sW1 : W1.heap.size = w.heap.size + 1 := by rw [hW1]; simp
 rw [← hW1]
 clear hW1
 obtain ⟨W2, hW2⟩ : ∃ v, v = World.alloc W1 (Obj.cells #[.int .i64 c, .slice a2 n2 p2] 24) := ⟨_, rfl⟩
 have kW2 : Below W1.heap.size W1 W2 := by rw [hW2]; exact below_new _ _
 have iW2 : Blk W2 (w.heap.size + 1) 24 [.int .i64 c, .slice a2 n2 p2] := by rw [hW2, ← sW1]; exact Blk.new _ _ _
 have sW2 : W2.heap.size = w.heap.size + 1 + 1 := by rw [hW2]; simp [sW1]
 rw [← hW2]
 clear hW2
 have i1 := iW1.carry kW2
 have i2 := iW2
 have c0 := i1.cell (j := 0) (v := .int .i64 c) rfl
 have c1 := i1.cell (j := 1) (v := .slice a1 n1 p1) rfl
 have d0 := i2.cell (j := 0) (v := .int .i64 c) rfl
 have d1 := i2.cell (j := 1) (v := .slice a2 n2 p2) rfl
 have hB := bthen kW1 kW2
 replace ha := ha.carry hB
 replace hb := hb.carry hB
 clear i1 i2 iW1 iW2 kW1 kW2 sW1 sW2
 go_wp2_with fail
 refine (T.out W2 ha hb).mono ?_
 rintro e w3 ⟨rfl, hl3⟩
 go_wp2
 go_ret
 exact ⟨rfl, bthen hB hl3⟩
end
section
set_option linter.unusedSimpArgs false
set_option linter.unusedVariables false
open Go.RowKit
theorem Rw.setLog {α : Type} {n : Nat} {f : α → List Value} {W : World} {v : Value} {l : List α} {G : Nat} {T : TypeId} {x : Int} {a : Option Addr} {m c : Nat} (hf : ∀ y, ∃ p q, (f y)[0]? = some (.int .i64 p) ∧ (f y)[1]? = some (.int .i64 q))
 (h : Rw n f W v l) (hb : Blk W G T [.int .i64 x, .slice a m c]) (j : Nat) (y : Value) : Rw n f (W.setCell ⟨G, j, none⟩ y) v l := by
 obtain ⟨a', cap, hv, hc, h⟩ := h
 refine ⟨a', cap, hv, hc, fun h0 => ?_⟩
 obtain ⟨b, off, ha, hcs⟩ := h h0
 refine ⟨b, off, ha, fun j' z hj i u hi => ?_⟩
 have hne : b ≠ G := by
  rintro rfl
  obtain ⟨z0, hz0⟩ : ∃ z, l[0]? = some z := ⟨_, List.getElem?_eq_getElem h0⟩
  obtain ⟨p, q, hp, hq⟩ := hf z0
  have e0 := hcs 0 z0 hz0 0 _ hp
  have e1 := hcs 0 z0 hz0 1 _ hq
  simp only [Nat.zero_mul, Nat.add_zero] at e0 e1
  have s1 := hb.cell (j := 1) (v := .slice a m c) rfl
  match off, e0, e1 with
  | 0, e0, e1 => rw [s1] at e1; cases e1
  | 1, e0, e1 => rw [s1] at e0; cases e0
  | off + 2, e0, e1 =>
    have : W.heap[b]? = _ := hb
    simp [World.cell?, this] at e0
 have := hcs j' z hj i u hi
 rw [← this]
 unfold World.cell?
 rw [Below.heap_setCell _ _ _ _ hne]
end
end Go.Proofs.YtgdkomgfalkihaaGreatDoor

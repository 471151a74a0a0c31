/- The reference: filters copied, tapped, compared; the law's compare. -/
import Derived.Test.YtfkemdapmoponaaGreatDoorHqF
namespace Go.Proofs.YtfkemdapmoponaaGreatDoor
set_option linter.unusedSimpArgs false
set_option linter.unusedVariables false
open Go.RowKit

set_option maxRecDepth 100000 in
set_option maxHeartbeats 1000000 in
theorem OwnedR_any (v : Value) (l : List (Int × Int)) (w : World) (hv : Pairs w v l) (hl : l.length ≤ 1000000) (h0 : 0 < l.length) :
    Calls Tryz.prog 101 #[.agg #[v]] w fun e w' => (∃ u, e = .returned (.agg #[u]) ∧ w'.ownsRow (w.heap.size + 3) 152 2 u l.length ((flat2 l).map (Value.int .i64))) ∧ Below w.heap.size w w' := by
  obtain ⟨i0, hi, hz0, hz1, hz2⟩ := info_parts Tryz.infoBranchR
  have HV := Lib.hid hv
  obtain ⟨a, cp, rfl, _, _⟩ := id hv
  clear hv
  go_enter Tryz.func101, Tryz.ntmps101
  go_upto_region 1 with fail
  obtain ⟨W1, hW1⟩ : ∃ v, v = World.alloc w (Obj.cells #[.slice a l.length cp] 62) := ⟨_, rfl⟩
  have kW1 : Below w.heap.size w W1 := by rw [hW1]; exact below_new _ _
  have iW1 : Blk W1 (w.heap.size) 62 [.slice a l.length cp] := by rw [hW1]; exact Blk.new _ _ _
  have sW1 : W1.heap.size = w.heap.size + 1 := by rw [hW1]; simp
  rw [← hW1]
  clear hW1
  obtain ⟨W2, hW2⟩ : ∃ v, v = World.alloc W1 (Obj.cells #[.slice none 0 0] 62) := ⟨_, rfl⟩
  have kW2 : Below W1.heap.size W1 W2 := by rw [hW2]; exact below_new _ _
  have iW2 : Blk W2 (w.heap.size + 1) 62 [.slice none 0 0] := by rw [hW2, ← sW1]; exact Blk.new _ _ _
  have sW2 : W2.heap.size = w.heap.size + 1 + 1 := by rw [hW2]; simp [sW1]
  rw [← hW2]
  clear hW2
  have i2 := iW2
  have hB := bthen kW1 kW2
  have a0 := (iW1.carry kW2).cell (j := 0) (v := .slice a l.length cp) rfl
  have hs2 : W2.heap.size = w.heap.size + 2 := by omega
  have hs3 : (W2.alloc (.cells #[] 152)).heap.size = w.heap.size + 3 := by simp; omega
  have HS3 := Lib.hid hs3
  clear iW1 iW2 kW1 kW2 sW1 sW2 hs2 hs3
  have k1 := below_new W2 (.cells #[] 152)
  have c1 := bthen hB k1
  have a1 := cellb a0 k1
  have i3 := i2.carry k1
  go_wp2_with (at_builtin; refine wpList_append_freshO rfl (.tmp 3) (.tmp 5) 60 60 152 rfl i0 (.agg #[.int .i64 0, .int .i64 0]) 2 16 Tryz.undBranchesR hi hz0 hz1 hz2 rfl W2.heap.size 0 rfl (.slice a l.length cp) l.length _ rfl ((HV.out.carry c1).src Tryz.undBranchesR h0) h0 (by unfold maxLen; omega) (by omega) ?_; intro u w2 hown hb; obtain ⟨ua, uc, rfl⟩ := ownsRow_slice hown; have i4 := i3.carry hb; have c2 := bthen c1 hb; have z4 := i4.cell (j := 0) (v := .slice none 0 0) rfl; have f4 := i4.frozen 0; have hlt := Blk.lt i4)
  have hs3 := HS3.out
  have hown9 := own_setCell (x := .slice ua l.length uc) (B := w.heap.size + 1) (j := 0) hown (by omega)
  rw [hs3] at hown9
  have z0 := (i4.set 0 (.slice ua l.length uc)).cell (j := 0) (v := .slice ua l.length uc) rfl
  exact bodyPost_ret (v := .agg #[.slice ua l.length uc]) (by simp [results, Tryz.f101, go_sem, z0]) rfl ⟨⟨_, rfl, hown9⟩, c2.setCell (by simp) _⟩

theorem Pairs.of_blkT {w : World} {G : Nat} {T : TypeId} {ls : List (Int × Int)} {cap : Nat} {vs : List Value} (h : Blk w G T vs) (ht : vs.take (ls.length * 2) = (flat2 ls).map (Value.int .i64)) (hc : ls.length ≤ cap) : Pairs w (.slice (some ⟨G, 0, none⟩) ls.length cap) ls := by
  have hg : ∀ j y, (flat2 ls)[j]? = some y → vs[j]? = some (Value.int .i64 y) := fun j y hj => by
    have hlt : j < ls.length * 2 := by have := (List.getElem?_eq_some_iff.1 hj).1; rwa [flat2_length] at this
    have h2 : (vs.take (ls.length * 2))[j]? = some (.int .i64 y) := by rw [ht, List.getElem?_map, hj]; rfl
    rwa [List.getElem?_take_of_lt hlt] at h2
  refine ⟨_, cap, rfl, hc, fun _ => ⟨G, 0, rfl, fun j x hj => ?_⟩⟩
  obtain ⟨h0, h1⟩ := flat2_get ls j x hj
  rw [Nat.zero_add]
  exact ⟨h.cell (hg _ _ h0), h.cell (hg _ _ h1)⟩
theorem Pairs.none' (w : World) : Pairs w (.slice none 0 0) [] := Pairs.nil' w none 0

def tapE (E : Int) : Int := bif E == 0 then 0 else 4
def lsIf (E : Int) (L : List (Int × Int)) : List (Int × Int) := bif E == 0 then L else []
theorem take_setP (vs : List Value) (F : List Int) (m j : Nat) (x : Int) (h : vs.take m = F.map (Value.int .i64)) : (vs.set j (.int .i64 x)).take m = (F.set j x).map (Value.int .i64) := by
  rw [List.take_set, h, List.map_set]

set_option maxRecDepth 100000 in
set_option maxHeartbeats 4000000 in
theorem TappedR_any (v : Value) (ls : List (Int × Int)) (b : Nat) (tap : Int) (w : World) (hv : Pairs w v ls) (hl : ls.length ≤ 1000000) (hb : b < ls.length) :
    Calls Tryz.prog 41 #[.agg #[v], .int .i64 b, .int .i64 tap] w fun e w' => (∃ u, e = .returned (.tuple #[.agg #[u], .int .i64 (tapE (fltE (tapL ls b tap)))]) ∧ Pairs w' u (lsIf (fltE (tapL ls b tap)) (tapL ls b tap))) ∧ Below w.heap.size w w' := by
  have TO := Lib.hid (fun W hP => OwnedR_any v ls W hP hl (by omega))
  obtain ⟨n, hn⟩ : ∃ n, n = ls.length := ⟨_, rfl⟩
  obtain ⟨x, hx⟩ : ∃ x, ls[b]? = some x := ⟨_, List.getElem?_eq_getElem hb⟩
  obtain ⟨g0, _⟩ := flat2_get ls b x hx
  have hset := flat2_set ls b x (wrap64 (x.1 + tap)) hx
  have htl : tapL ls b tap = ls.set b (wrap64 (x.1 + tap), x.2) := by rw [tapL, hx]; rfl
  have htn : (tapL ls b tap).length = n := by rw [htl, List.length_set, hn]
  rw [← htl, ← wrapEq] at hset
  have hfl : (flat2 ls).length = n * 2 := by rw [flat2_length, hn]
  rw [← hn] at hb hl TO
  have TC := Lib.hid (fun u W hP => CheckFilterR_any u (tapL ls b tap) W hP (by rw [htn]; exact hl))
  obtain ⟨E, hE⟩ : ∃ E, E = fltE (tapL ls b tap) := ⟨_, rfl⟩
  rw [← hE] at TC ⊢
  generalize tapL ls b tap = R at hset htn TC ⊢
  have HV := Lib.hid hv
  obtain ⟨a, cp, rfl, _, _⟩ := id hv
  rw [← hn] at HV TO ⊢
  obtain ⟨F, hF⟩ : ∃ F, F = flat2 ls := ⟨_, rfl⟩
  rw [← hF] at hset hfl g0 TO
  have HSET := Lib.hid hset
  have HTN := Lib.hid htn
  have HFL := Lib.hid hfl
  have HG0 := Lib.hid g0
  have d1 : (b : Int) < (n : Int) := by omega
  clear hv hx htl hset htn hF hn g0 hfl hE
  go_enter Tryz.func41, Tryz.ntmps41
  go_upto_region 1 with fail
  obtain ⟨W1, hW1⟩ : ∃ v, v = World.alloc w (Obj.cells #[.slice a n cp] 62) := ⟨_, rfl⟩
  have kW1 : Below w.heap.size w W1 := by rw [hW1]; exact below_new _ _
  have iW1 : Blk W1 (w.heap.size) 62 [.slice a n cp] := by rw [hW1]; exact Blk.new _ _ _
  have sW1 : W1.heap.size = w.heap.size + 1 := by rw [hW1]; simp
  rw [← hW1]
  clear hW1
  obtain ⟨W2, hW2⟩ : ∃ v, v = World.alloc W1 (Obj.cells #[.slice none 0 0] 62) := ⟨_, rfl⟩
  have kW2 : Below W1.heap.size W1 W2 := by rw [hW2]; exact below_new _ _
  have iW2 : Blk W2 (w.heap.size + 1) 62 [.slice none 0 0] := by rw [hW2, ← sW1]; exact Blk.new _ _ _
  have sW2 : W2.heap.size = w.heap.size + 1 + 1 := by rw [hW2]; simp [sW1]
  rw [← hW2]
  clear hW2
  have i6 := iW2
  have hB := bthen kW1 kW2
  have a0 := (iW1.carry kW2).cell (j := 0) (v := .slice a n cp) rfl
  have hq2 : w.heap.size + 1 < W2.heap.size := Blk.lt iW2
  clear iW1 iW2 kW1 kW2 sW1 sW2
  go_wp2_with fail
  refine (TO.out W2 (HV.out.carry hB)).mono ?_
  rintro e W3 ⟨⟨u, rfl, hown⟩, hb3⟩
  replace i6 := i6.carry hb3
  replace hB := bthen hB hb3
  obtain ⟨n', hn'⟩ : ∃ n', n = n' + 1 := ⟨n - 1, by omega⟩
  rw [hn'] at hown
  obtain ⟨G, uc, rfl⟩ := ownsRow_succ2 hown
  rw [← hn'] at hown ⊢
  rcases hown.2 with ⟨hbad, _⟩ | ⟨G', cap', cur, hu, hGb, hg, hnc, hcm, hcs, htk⟩
  · simp at hbad
  simp only [Value.slice.injEq, Option.some.injEq, Addr.mk.injEq, and_true, true_and] at hu
  obtain ⟨rfl, rfl⟩ := hu
  have i7 : Blk W3 G 152 cur.toList := hg
  have hG6 : w.heap.size + 1 < G := by omega
  have hG3 : G < W3.heap.size := Blk.lt i7
  have ht0 : cur.toList.take (n * 2) = F.map (Value.int .i64) := htk
  have HT := Lib.hid ht0
  have HCS := Lib.hid hcs
  clear hown htk ht0 hcs hb3 hg hGb hq2 a0 hn'
  go_upto_region 2 with fail
  obtain ⟨W4, hW4⟩ : ∃ v, v = World.alloc W3 (Obj.cells #[.slice (some ⟨G, 0, none⟩) n uc] 62) := ⟨_, rfl⟩
  have kW4 : Below W3.heap.size W3 W4 := by rw [hW4]; exact below_new _ _
  have iW4 : Blk W4 (W3.heap.size) 62 [.slice (some ⟨G, 0, none⟩) n uc] := by rw [hW4]; exact Blk.new _ _ _
  have sW4 : W4.heap.size = W3.heap.size + 1 := by rw [hW4]; simp
  rw [← hW4]
  clear hW4
  replace i6 := i6.carry kW4
  replace i7 := i7.carry kW4
  replace hB := bthen hB kW4
  have z4 := iW4.cell (j := 0) (v := .slice (some ⟨G, 0, none⟩) n uc) rfl
  have hGn : W3.heap.size ≠ G := by omega
  have i8 := iW4
  have c0 : W4.cell? ⟨G, b * 2, none⟩ = some (.int .i64 x.1) := i7.cell (by
    have h := HG0.out
    have hb2 : b * 2 < n * 2 := by omega
    have h2 : (cur.toList.take (n * 2))[b * 2]? = some (.int .i64 x.1) := by rw [HT.out, List.getElem?_map, h]; rfl
    rw [List.getElem?_take_of_lt hb2] at h2
    exact h2)
  clear kW4 sW4 iW4
  refine wp_region_E 13 (by kernel_rfl) ?_
  obtain ⟨wz, hwz⟩ : ∃ v, v = W4.drew := ⟨_, rfl⟩
  rw [← hwz]
  have hlz : Below W4.heap.size W4 wz := by rw [hwz]; exact (Below.refl _ _).drew
  have hbz := bthen hB hlz
  have z4 := cellb z4 hlz
  have c0 := cellb c0 hlz
  have i6 := i6.carry hlz
  have i7 := i7.carry hlz
  have i8 := i8.carry hlz
  clear hwz hlz
  refine wpAnyE_take (i := 0) (oi := { dst := some 11, op := Op.fieldAddr 62 (Operand.tmp 8) 0, type := 0, pos := "ref.go:309", after := #[], guard := none }) (v := ?_) rfl (by kernel_rfl) (by kernel_rfl) (by kernel_rfl) (by kernel_rfl) (fun _ _ _ h => h) (Or.inl ⟨by rfl, ?_⟩) ?_
  rotate_left
  · (intro w hE; have z4 := cellb z4 hE; have c0 := cellb c0 hE; (try dsimp only); go_simp); (try with_reducible rfl)
  try simp only [Act.put, List.setIfInBounds_toArray, List.set_cons_zero, List.set_cons_succ]
  refine wpAnyE_take (i := 1) (oi := { dst := some 12, op := Op.load 60 (Operand.tmp 11), type := 60, pos := "ref.go:309", after := #[{ on := 0, ground := Ground.data }], guard := none }) (v := ?_) rfl (by kernel_rfl) (by kernel_rfl) (by kernel_rfl) (by kernel_rfl) (fun _ _ _ h => h) (Or.inl ⟨by rfl, ?_⟩) ?_
  rotate_left
  · (intro w hE; have z4 := cellb z4 hE; have c0 := cellb c0 hE; (try dsimp only); go_simp); (try with_reducible rfl)
  try simp only [Act.put, List.setIfInBounds_toArray, List.set_cons_zero, List.set_cons_succ]
  refine wpAnyE_take (i := 2) (oi := { dst := some 13, op := Op.move (Operand.tmp 1), type := 3, pos := "ref.go:309", after := #[], guard := none }) (v := ?_) rfl (by kernel_rfl) (by kernel_rfl) (by kernel_rfl) (by kernel_rfl) (fun _ _ _ h => h) (Or.inl ⟨by rfl, ?_⟩) ?_
  rotate_left
  · (intro w hE; have z4 := cellb z4 hE; have c0 := cellb c0 hE; (try dsimp only); go_simp); (try with_reducible rfl)
  try simp only [Act.put, List.setIfInBounds_toArray, List.set_cons_zero, List.set_cons_succ]
  refine wpAnyE_take (i := 3) (oi := { dst := some 14, op := Op.fieldAddr 62 (Operand.tmp 8) 0, type := 0, pos := "ref.go:309", after := #[], guard := none }) (v := ?_) rfl (by kernel_rfl) (by kernel_rfl) (by kernel_rfl) (by kernel_rfl) (fun _ _ _ h => h) (Or.inl ⟨by rfl, ?_⟩) ?_
  rotate_left
  · (intro w hE; have z4 := cellb z4 hE; have c0 := cellb c0 hE; (try dsimp only); go_simp); (try with_reducible rfl)
  try simp only [Act.put, List.setIfInBounds_toArray, List.set_cons_zero, List.set_cons_succ]
  refine wpAnyE_take (i := 4) (oi := { dst := some 15, op := Op.load 60 (Operand.tmp 14), type := 60, pos := "ref.go:309", after := #[{ on := 3, ground := Ground.data }], guard := none }) (v := ?_) rfl (by kernel_rfl) (by kernel_rfl) (by kernel_rfl) (by kernel_rfl) (fun _ _ _ h => h) (Or.inl ⟨by rfl, ?_⟩) ?_
  rotate_left
  · (intro w hE; have z4 := cellb z4 hE; have c0 := cellb c0 hE; (try dsimp only); go_simp); (try with_reducible rfl)
  try simp only [Act.put, List.setIfInBounds_toArray, List.set_cons_zero, List.set_cons_succ]
  refine wpAnyE_take (i := 5) (oi := { dst := some 16, op := Op.move (Operand.tmp 1), type := 3, pos := "ref.go:309", after := #[], guard := none }) (v := ?_) rfl (by kernel_rfl) (by kernel_rfl) (by kernel_rfl) (by kernel_rfl) (fun _ _ _ h => h) (Or.inl ⟨by rfl, ?_⟩) ?_
  rotate_left
  · (intro w hE; have z4 := cellb z4 hE; have c0 := cellb c0 hE; (try dsimp only); go_simp); (try with_reducible rfl)
  try simp only [Act.put, List.setIfInBounds_toArray, List.set_cons_zero, List.set_cons_succ]
  refine wpAnyE_take (i := 6) (oi := { dst := some 17, op := Op.indexAddr 60 (Operand.tmp 15) (Operand.tmp 16), type := 0, pos := "ref.go:309", after := #[{ on := 4, ground := Ground.data }, { on := 5, ground := Ground.data }], guard := none }) (v := ?_) rfl (by kernel_rfl) (by kernel_rfl) (by kernel_rfl) (by kernel_rfl) (fun _ _ _ h => h) (Or.inl ⟨by rfl, ?_⟩) ?_
  rotate_left
  · (intro w hE; have z4 := cellb z4 hE; have c0 := cellb c0 hE; (try dsimp only); go_simp); (try with_reducible rfl)
  try simp only [Act.put, List.setIfInBounds_toArray, List.set_cons_zero, List.set_cons_succ]
  refine wpAnyE_take (i := 7) (oi := { dst := some 18, op := Op.fieldAddr 152 (Operand.tmp 17) 0, type := 0, pos := "ref.go:309", after := #[{ on := 6, ground := Ground.data }], guard := none }) (v := ?_) rfl (by kernel_rfl) (by kernel_rfl) (by kernel_rfl) (by kernel_rfl) (fun _ _ _ h => h) (Or.inl ⟨by rfl, ?_⟩) ?_
  rotate_left
  · (intro w hE; have z4 := cellb z4 hE; have c0 := cellb c0 hE; (try dsimp only); go_simp); (try with_reducible rfl)
  try simp only [Act.put, List.setIfInBounds_toArray, List.set_cons_zero, List.set_cons_succ]
  refine wpAnyE_take (i := 8) (oi := { dst := some 19, op := Op.load 3 (Operand.tmp 18), type := 3, pos := "ref.go:309", after := #[{ on := 7, ground := Ground.data }], guard := none }) (v := ?_) rfl (by kernel_rfl) (by kernel_rfl) (by kernel_rfl) (by kernel_rfl) (fun _ _ _ h => h) (Or.inl ⟨by rfl, ?_⟩) ?_
  rotate_left
  · (intro w hE; have z4 := cellb z4 hE; have c0 := cellb c0 hE; (try dsimp only); go_simp); (try with_reducible rfl)
  try simp only [Act.put, List.setIfInBounds_toArray, List.set_cons_zero, List.set_cons_succ]
  refine wpAnyE_take (i := 9) (oi := { dst := some 20, op := Op.move (Operand.tmp 2), type := 3, pos := "ref.go:309", after := #[], guard := none }) (v := ?_) rfl (by kernel_rfl) (by kernel_rfl) (by kernel_rfl) (by kernel_rfl) (fun _ _ _ h => h) (Or.inl ⟨by rfl, ?_⟩) ?_
  rotate_left
  · (intro w hE; have z4 := cellb z4 hE; have c0 := cellb c0 hE; (try dsimp only); go_simp); (try with_reducible rfl)
  try simp only [Act.put, List.setIfInBounds_toArray, List.set_cons_zero, List.set_cons_succ]
  refine wpAnyE_take (i := 10) (oi := { dst := some 21, op := Op.binOp BinOp.add 3 (Operand.tmp 19) (Operand.tmp 20) 3, type := 3, pos := "ref.go:309", after := #[{ on := 8, ground := Ground.data }, { on := 9, ground := Ground.data }], guard := none }) (v := ?_) rfl (by kernel_rfl) (by kernel_rfl) (by kernel_rfl) (by kernel_rfl) (fun _ _ _ h => h) (Or.inl ⟨by rfl, ?_⟩) ?_
  rotate_left
  · (intro w hE; have z4 := cellb z4 hE; have c0 := cellb c0 hE; (try dsimp only); go_simp); (try with_reducible rfl)
  try simp only [Act.put, List.setIfInBounds_toArray, List.set_cons_zero, List.set_cons_succ]
  refine wpAnyE_one (i := 11) (o := { dst := some 22, op := Op.indexAddr 60 (Operand.tmp 12) (Operand.tmp 13), type := 0, pos := "ref.go:309", after := #[{ on := 1, ground := Ground.data }, { on := 2, ground := Ground.data }, { on := 0, ground := Ground.phase }, { on := 1, ground := Ground.phase }, { on := 2, ground := Ground.phase }, { on := 3, ground := Ground.phase }, { on := 4, ground := Ground.phase }, { on := 5, ground := Ground.phase }, { on := 6, ground := Ground.phase }, { on := 7, ground := Ground.phase }, { on := 8, ground := Ground.phase }, { on := 9, ground := Ground.phase }, { on := 10, ground := Ground.phase }], guard := none }) (by kernel_rfl) rfl (fun wy1 hE K hK => ?_)
  have z4 := cellb z4 hE
  have c0 := cellb c0 hE
  have i6 := i6.carry hE
  have i7 := i7.carry hE
  have i8 := i8.carry hE
  have hbz1 := bthen hbz hE
  go_simp
  refine hK _ _ (fun _ => Below.refl _ _) ?_
  clear hK K hE
  try simp only [Act.put, List.setIfInBounds_toArray, List.set_cons_zero, List.set_cons_succ]
  refine wpAnyE_one (i := 12) (o := { dst := some 23, op := Op.fieldAddr 152 (Operand.tmp 22) 0, type := 0, pos := "ref.go:309", after := #[{ on := 11, ground := Ground.data }, { on := 0, ground := Ground.phase }, { on := 1, ground := Ground.phase }, { on := 2, ground := Ground.phase }, { on := 3, ground := Ground.phase }, { on := 4, ground := Ground.phase }, { on := 5, ground := Ground.phase }, { on := 6, ground := Ground.phase }, { on := 7, ground := Ground.phase }, { on := 8, ground := Ground.phase }, { on := 9, ground := Ground.phase }, { on := 10, ground := Ground.phase }], guard := none }) (by kernel_rfl) rfl (fun wy2 hE K hK => ?_)
  have z4 := cellb z4 hE
  have c0 := cellb c0 hE
  have i6 := i6.carry hE
  have i7 := i7.carry hE
  have i8 := i8.carry hE
  have hbz2 := bthen hbz1 hE
  go_simp
  refine hK _ _ (fun _ => Below.refl _ _) ?_
  clear hK K hE
  try simp only [Act.put, List.setIfInBounds_toArray, List.set_cons_zero, List.set_cons_succ]
  refine wpAnyE_one (i := 13) (o := { dst := none, op := Op.store 3 (Operand.tmp 23) (Operand.tmp 21), type := 0, pos := "ref.go:309", after := #[{ on := 12, ground := Ground.data }, { on := 10, ground := Ground.data }, { on := 0, ground := Ground.phase }, { on := 1, ground := Ground.phase }, { on := 2, ground := Ground.phase }, { on := 3, ground := Ground.phase }, { on := 4, ground := Ground.phase }, { on := 5, ground := Ground.phase }, { on := 6, ground := Ground.phase }, { on := 7, ground := Ground.phase }, { on := 8, ground := Ground.phase }, { on := 9, ground := Ground.phase }, { on := 10, ground := Ground.phase }], guard := none }) (by kernel_rfl) rfl (fun wy3 hE K hK => ?_)
  have z4 := cellb z4 hE
  have c0 := cellb c0 hE
  have i6 := i6.carry hE
  have i7 := i7.carry hE
  have i8 := i8.carry hE
  have hbz3 := bthen hbz2 hE
  clear hE
  have f0 := i7.frozen (b * 2)
  go_simp
  obtain ⟨wx3, hwz⟩ : ∃ v, v = wy3.setCell ⟨G, b * 2, none⟩ (.int .i64 (IntKind.i64.wrap (x.1 + tap))) := ⟨_, rfl⟩
  rw [← hwz]
  have hcz3 : Below w.heap.size w wx3 := by rw [hwz]; exact (hbz3).setCell (by simp; omega) _
  replace i7 := i7.set (b * 2) (.int .i64 (IntKind.i64.wrap (x.1 + tap)))
  replace i6 := i6.other (j := b * 2) (by omega : w.heap.size + 1 ≠ G) (.int .i64 (IntKind.i64.wrap (x.1 + tap)))
  replace i8 := i8.other (j := b * 2) hGn (.int .i64 (IntKind.i64.wrap (x.1 + tap)))
  rw [← hwz] at i6 i7 i8
  clear hwz
  refine hK _ _ (fun h => absurd rfl h) ?_
  clear hK K
  try simp only [Act.put, List.setIfInBounds_toArray, List.set_cons_zero, List.set_cons_succ]
  refine wpAnyE_done (by kernel_rfl) (fun wy4 hE => ?_) _
  have hbz4 := bthen hcz3 hE
  have i6 := i6.carry hE
  have i7 := i7.carry hE
  have i8 := i8.carry hE
  clear hE
  have hB := hbz4
  obtain ⟨W5, hW5⟩ : ∃ v, v = wy4 := ⟨_, rfl⟩
  rw [← hW5] at hB i6 i7 i8 ⊢
  clear hW5
  have hvs : (cur.toList.set (b * 2) (.int .i64 (IntKind.i64.wrap (x.1 + tap)))).take (n * 2) = (flat2 R).map (Value.int .i64) := by
    rw [take_setP _ F _ _ _ HT.out, HSET.out]
  obtain ⟨vs, hvv⟩ : ∃ vs, vs = cur.toList.set (b * 2) (.int .i64 (IntKind.i64.wrap (x.1 + tap))) := ⟨_, rfl⟩
  rw [← hvv] at hvs i7
  have HPF := Lib.hid (fun W (h : Blk W G 152 vs) => show Pairs W (.slice (some ⟨G, 0, none⟩) n uc) R by
    have := Pairs.of_blkT (ls := R) (cap := uc) h (by rw [HTN.out]; exact hvs) (by rw [HTN.out]; exact hnc)
    rw [HTN.out] at this
    exact this)
  have z4 := i8.cell (j := 0) (v := .slice (some ⟨G, 0, none⟩) n uc) rfl
  clear hvs hvv
  go_wp2_with fail
  refine (TC.out _ W5 (HPF.out _ i7)).mono ?_
  rintro e W6 ⟨rfl, hb6⟩
  replace i6 := i6.carry hb6
  replace i8 := i8.carry hb6
  replace hB := bthen hB hb6
  replace i7 := i7.carry hb6
  clear hb6 z4
  have z4 := i8.cell (j := 0) (v := .slice (some ⟨G, 0, none⟩) n uc) rfl
  have z6 := i6.cell (j := 0) (v := .slice none 0 0) rfl
  have f6 := i6.frozen 0
  by_cases hE : E = 0
  · subst hE
    go_wp2_with fail
    have i9 := i6.set 0 (.slice (some ⟨G, 0, none⟩) n uc)
    have z0 := i9.cell (j := 0) (v := .slice (some ⟨G, 0, none⟩) n uc) rfl
    exact bodyPost_ret (v := .tuple #[.agg #[.slice (some ⟨G, 0, none⟩) n uc], .int .i64 0]) (by simp [results, Tryz.f41, go_sem, z0]) rfl ⟨⟨_, rfl, HPF.out _ (i7.other (by omega) _)⟩, hB.setCell (by simp) _⟩
  · have z : (E == 0) = false := by rw [beq_eq_false_iff_ne]; exact hE
    have z' : (E != 0) = true := by rw [bne_iff_ne]; exact hE
    have HZ := Lib.hid z
    clear z
    go_wp2_with fail
    have i9 := i6.set 0 (.slice none 0 0)
    have z0 := i9.cell (j := 0) (v := .slice none 0 0) rfl
    exact bodyPost_ret (v := .tuple #[.agg #[.slice none 0 0], .int .i64 4]) (by simp [results, Tryz.f41, go_sem, z0]) rfl ⟨⟨_, by rw [tapE, HZ.out]; rfl, by rw [lsIf, HZ.out]; exact Pairs.none' _⟩, hB.setCell (by simp) _⟩

theorem neqBranchR (a b c d : Int) (W : World) : Sem.run Tryz.prog (binOp .neq 152 (.agg #[.int .i64 a, .int .i64 b]) (.agg #[.int .i64 c, .int .i64 d])) W = .ok (.bool (!(a == c && b == d))) W := by
  go_simp
  by_cases h1 : a = c <;> by_cases h2 : b = d <;> simp [h1, h2]
set_option maxRecDepth 100000 in
set_option maxHeartbeats 4000000 in
theorem SameR_any (va vb : Value) (l m : List (Int × Int)) (w : World) (ha : Pairs w va l) (hb : Pairs w vb m) (hl : l.length ≤ 1000000) :
    Calls Tryz.prog 104 #[.agg #[va], .agg #[vb]] w fun e w' => e = .returned (.bool (decide (l = m))) ∧ Below w.heap.size w w' := by
  obtain ⟨xa, ca, rfl, _, hca⟩ := ha
  obtain ⟨xb, cb, rfl, _, hcb⟩ := hb
  by_cases hlen : l.length = m.length
  · have hb0 : ((l.length : Int) != (m.length : Int)) = false := by rw [bne_eq_false_iff_eq]; omega
    rw [hlen] at hb0 hl hca ⊢
    have HL := Lib.hid hlen
    clear hlen hb0
    go_enter Tryz.func104, Tryz.ntmps104
    go_upto_region 1 with fail
    obtain ⟨W1, hW1⟩ : ∃ v, v = World.alloc w (Obj.cells #[.slice xa m.length ca] 62) := ⟨_, rfl⟩
    have kW1 : Below w.heap.size w W1 := by rw [hW1]; exact below_new _ _
    have iW1 : Blk W1 (w.heap.size) 62 [.slice xa m.length ca] := by rw [hW1]; exact Blk.new _ _ _
    have sW1 : W1.heap.size = w.heap.size + 1 := by rw [hW1]; simp
    rw [← hW1]
    clear hW1
    obtain ⟨W2, hW2⟩ : ∃ v, v = World.alloc W1 (Obj.cells #[.slice xb m.length cb] 62) := ⟨_, rfl⟩
    have kW2 : Below W1.heap.size W1 W2 := by rw [hW2]; exact below_new _ _
    have iW2 : Blk W2 (w.heap.size + 1) 62 [.slice xb m.length cb] := by rw [hW2, ← sW1]; exact Blk.new _ _ _
    have sW2 : W2.heap.size = w.heap.size + 1 + 1 := by rw [hW2]; simp [sW1]
    rw [← hW2]
    clear hW2
    have i1 := iW1.carry kW2
    have i2 := iW2
    have hB := bthen kW1 kW2
    have a1 := i1.cell (j := 0) (v := .slice xa m.length ca) rfl
    have a2 := i2.cell (j := 0) (v := .slice xb m.length cb) rfl
    clear iW1 iW2 kW1 kW2 sW1 sW2
    go_wp2_with fail
    go_loopw [5] (fun i wr => ∃ k : Nat, k ≤ m.length ∧ i = .int .i64 k ∧ l.take k = m.take k ∧ Blk wr w.heap.size 62 [.slice xa m.length ca] ∧ Blk wr (w.heap.size + 1) 62 [.slice xb m.length cb] ∧ Below w.heap.size w wr) (fun i _ => m.length - (intOf i).toNat)
    case atStart => exact ⟨0, by omega, rfl, rfl, i1, i2, hB⟩
    case round =>
      clear hB i1 i2 a1 a2
      obtain ⟨k, hk, rfl, hab, i1, i2, hB⟩ := hrel
      have HAB := Lib.hid hab
      have a1 := i1.cell (j := 0) (v := .slice xa m.length ca) rfl
      have a2 := i2.cell (j := 0) (v := .slice xb m.length cb) rfl
      clear hab
      by_cases hlt : k < m.length
      · obtain ⟨ba, oa, rfl, hda⟩ := hca (by omega)
        obtain ⟨bb, ob, rfl, hdb⟩ := hcb (by omega)
        obtain ⟨x, hx⟩ : ∃ x, l[k]? = some x := ⟨_, List.getElem?_eq_getElem (by rw [HL.out]; exact hlt)⟩
        obtain ⟨y, hy⟩ : ∃ y, m[k]? = some y := ⟨_, List.getElem?_eq_getElem hlt⟩
        obtain ⟨c0, c1⟩ := hda k x hx
        obtain ⟨c2, c3⟩ := hdb k y hy
        have c0 := cellb c0 hB
        have c1 := cellb c1 hB
        have c2 := cellb c2 hB
        have c3 := cellb c3 hB
        have HX := Lib.hid hx
        have HY := Lib.hid hy
        obtain ⟨x0, x1⟩ := x
        obtain ⟨y0, y1⟩ := y
        simp only at c0 c1 c2 c3
        have e1 : (k : Int) < (m.length : Int) := by omega
        have hne := fun W => neqBranchR x0 x1 y0 y1 W
        clear hda hdb hx hy hca hcb
        obtain ⟨q, hq⟩ : ∃ q, q = (!(x0 == y0 && x1 == y1)) := ⟨_, rfl⟩
        rw [← hq] at hne
        have HQ := Lib.hid hq
        clear hq
        go_wp2_with fail
        refine wp_region_E 99 (by kernel_rfl) ?_
        obtain ⟨wz, hwz⟩ : ∃ v, v = wr.drew := ⟨_, rfl⟩
        rw [← hwz]
        have hlz : Below wr.heap.size wr wz := by rw [hwz]; exact (Below.refl _ _).drew
        have hbz := bthen hB hlz
        have a1 := cellb a1 hlz
        have a2 := cellb a2 hlz
        have c0 := cellb c0 hlz
        have c1 := cellb c1 hlz
        have c2 := cellb c2 hlz
        have c3 := cellb c3 hlz
        have i1 := i1.carry hlz
        have i2 := i2.carry hlz
        clear hwz hlz
        refine wpAnyE_take (i := 0) (oi := { dst := some 20, op := Op.fieldAddr 62 (Operand.tmp 2) 0, type := 0, pos := "ref.go:523", after := #[], guard := none }) (v := ?_) rfl (by kernel_rfl) (by kernel_rfl) (by kernel_rfl) (by kernel_rfl) (fun _ _ _ h => h) (Or.inl ⟨by rfl, ?_⟩) ?_
        rotate_left
        · (intro w hE; have a1 := cellb a1 hE; have a2 := cellb a2 hE; have c0 := cellb c0 hE; have c1 := cellb c1 hE; have c2 := cellb c2 hE; have c3 := cellb c3 hE; (try dsimp only); go_simp); (try with_reducible rfl)
        try simp only [Act.put, List.setIfInBounds_toArray, List.set_cons_zero, List.set_cons_succ]
        refine wpAnyE_take (i := 1) (oi := { dst := some 21, op := Op.load 60 (Operand.tmp 20), type := 60, pos := "ref.go:523", after := #[{ on := 0, ground := Ground.data }], guard := none }) (v := ?_) rfl (by kernel_rfl) (by kernel_rfl) (by kernel_rfl) (by kernel_rfl) (fun _ _ _ h => h) (Or.inl ⟨by rfl, ?_⟩) ?_
        rotate_left
        · (intro w hE; have a1 := cellb a1 hE; have a2 := cellb a2 hE; have c0 := cellb c0 hE; have c1 := cellb c1 hE; have c2 := cellb c2 hE; have c3 := cellb c3 hE; (try dsimp only); go_simp); (try with_reducible rfl)
        try simp only [Act.put, List.setIfInBounds_toArray, List.set_cons_zero, List.set_cons_succ]
        refine wpAnyE_take (i := 2) (oi := { dst := some 22, op := Op.move (Operand.tmp 5), type := 3, pos := "ref.go:523", after := #[], guard := none }) (v := ?_) rfl (by kernel_rfl) (by kernel_rfl) (by kernel_rfl) (by kernel_rfl) (fun _ _ _ h => h) (Or.inl ⟨by rfl, ?_⟩) ?_
        rotate_left
        · (intro w hE; have a1 := cellb a1 hE; have a2 := cellb a2 hE; have c0 := cellb c0 hE; have c1 := cellb c1 hE; have c2 := cellb c2 hE; have c3 := cellb c3 hE; (try dsimp only); go_simp); (try with_reducible rfl)
        try simp only [Act.put, List.setIfInBounds_toArray, List.set_cons_zero, List.set_cons_succ]
        refine wpAnyE_take (i := 3) (oi := { dst := some 23, op := Op.indexAddr 60 (Operand.tmp 21) (Operand.tmp 22), type := 0, pos := "ref.go:523", after := #[{ on := 1, ground := Ground.data }, { on := 2, ground := Ground.data }], guard := none }) (v := ?_) rfl (by kernel_rfl) (by kernel_rfl) (by kernel_rfl) (by kernel_rfl) (fun _ _ _ h => h) (Or.inl ⟨by rfl, ?_⟩) ?_
        rotate_left
        · (intro w hE; have a1 := cellb a1 hE; have a2 := cellb a2 hE; have c0 := cellb c0 hE; have c1 := cellb c1 hE; have c2 := cellb c2 hE; have c3 := cellb c3 hE; (try dsimp only); go_simp); (try with_reducible rfl)
        try simp only [Act.put, List.setIfInBounds_toArray, List.set_cons_zero, List.set_cons_succ]
        refine wpAnyE_take (i := 4) (oi := { dst := some 24, op := Op.load 152 (Operand.tmp 23), type := 152, pos := "ref.go:523", after := #[{ on := 3, ground := Ground.data }], guard := none }) (v := ?_) rfl (by kernel_rfl) (by kernel_rfl) (by kernel_rfl) (by kernel_rfl) (fun _ _ _ h => h) (Or.inl ⟨by rfl, ?_⟩) ?_
        rotate_left
        · (intro w hE; have a1 := cellb a1 hE; have a2 := cellb a2 hE; have c0 := cellb c0 hE; have c1 := cellb c1 hE; have c2 := cellb c2 hE; have c3 := cellb c3 hE; (try dsimp only); go_simp); (try with_reducible rfl)
        try simp only [Act.put, List.setIfInBounds_toArray, List.set_cons_zero, List.set_cons_succ]
        refine wpAnyE_take (i := 5) (oi := { dst := some 25, op := Op.fieldAddr 62 (Operand.tmp 3) 0, type := 0, pos := "ref.go:523", after := #[], guard := none }) (v := ?_) rfl (by kernel_rfl) (by kernel_rfl) (by kernel_rfl) (by kernel_rfl) (fun _ _ _ h => h) (Or.inl ⟨by rfl, ?_⟩) ?_
        rotate_left
        · (intro w hE; have a1 := cellb a1 hE; have a2 := cellb a2 hE; have c0 := cellb c0 hE; have c1 := cellb c1 hE; have c2 := cellb c2 hE; have c3 := cellb c3 hE; (try dsimp only); go_simp); (try with_reducible rfl)
        try simp only [Act.put, List.setIfInBounds_toArray, List.set_cons_zero, List.set_cons_succ]
        refine wpAnyE_take (i := 6) (oi := { dst := some 26, op := Op.load 60 (Operand.tmp 25), type := 60, pos := "ref.go:523", after := #[{ on := 5, ground := Ground.data }], guard := none }) (v := ?_) rfl (by kernel_rfl) (by kernel_rfl) (by kernel_rfl) (by kernel_rfl) (fun _ _ _ h => h) (Or.inl ⟨by rfl, ?_⟩) ?_
        rotate_left
        · (intro w hE; have a1 := cellb a1 hE; have a2 := cellb a2 hE; have c0 := cellb c0 hE; have c1 := cellb c1 hE; have c2 := cellb c2 hE; have c3 := cellb c3 hE; (try dsimp only); go_simp); (try with_reducible rfl)
        try simp only [Act.put, List.setIfInBounds_toArray, List.set_cons_zero, List.set_cons_succ]
        refine wpAnyE_take (i := 7) (oi := { dst := some 27, op := Op.move (Operand.tmp 5), type := 3, pos := "ref.go:523", after := #[], guard := none }) (v := ?_) rfl (by kernel_rfl) (by kernel_rfl) (by kernel_rfl) (by kernel_rfl) (fun _ _ _ h => h) (Or.inl ⟨by rfl, ?_⟩) ?_
        rotate_left
        · (intro w hE; have a1 := cellb a1 hE; have a2 := cellb a2 hE; have c0 := cellb c0 hE; have c1 := cellb c1 hE; have c2 := cellb c2 hE; have c3 := cellb c3 hE; (try dsimp only); go_simp); (try with_reducible rfl)
        try simp only [Act.put, List.setIfInBounds_toArray, List.set_cons_zero, List.set_cons_succ]
        refine wpAnyE_take (i := 8) (oi := { dst := some 28, op := Op.indexAddr 60 (Operand.tmp 26) (Operand.tmp 27), type := 0, pos := "ref.go:523", after := #[{ on := 6, ground := Ground.data }, { on := 7, ground := Ground.data }], guard := none }) (v := ?_) rfl (by kernel_rfl) (by kernel_rfl) (by kernel_rfl) (by kernel_rfl) (fun _ _ _ h => h) (Or.inl ⟨by rfl, ?_⟩) ?_
        rotate_left
        · (intro w hE; have a1 := cellb a1 hE; have a2 := cellb a2 hE; have c0 := cellb c0 hE; have c1 := cellb c1 hE; have c2 := cellb c2 hE; have c3 := cellb c3 hE; (try dsimp only); go_simp); (try with_reducible rfl)
        try simp only [Act.put, List.setIfInBounds_toArray, List.set_cons_zero, List.set_cons_succ]
        refine wpAnyE_take (i := 9) (oi := { dst := some 29, op := Op.load 152 (Operand.tmp 28), type := 152, pos := "ref.go:523", after := #[{ on := 8, ground := Ground.data }], guard := none }) (v := ?_) rfl (by kernel_rfl) (by kernel_rfl) (by kernel_rfl) (by kernel_rfl) (fun _ _ _ h => h) (Or.inl ⟨by rfl, ?_⟩) ?_
        rotate_left
        · (intro w hE; have a1 := cellb a1 hE; have a2 := cellb a2 hE; have c0 := cellb c0 hE; have c1 := cellb c1 hE; have c2 := cellb c2 hE; have c3 := cellb c3 hE; (try dsimp only); go_simp); (try with_reducible rfl)
        try simp only [Act.put, List.setIfInBounds_toArray, List.set_cons_zero, List.set_cons_succ]
        refine wpAnyE_take (i := 10) (oi := { dst := some 30, op := Op.binOp BinOp.neq 152 (Operand.tmp 24) (Operand.tmp 29) 152, type := 4, pos := "ref.go:523", after := #[{ on := 4, ground := Ground.data }, { on := 9, ground := Ground.data }], guard := none }) (v := ?_) rfl (by kernel_rfl) (by kernel_rfl) (by kernel_rfl) (by kernel_rfl) (fun _ _ _ h => h) (Or.inl ⟨by rfl, ?_⟩) ?_
        rotate_left
        · (intro w hE; have a1 := cellb a1 hE; have a2 := cellb a2 hE; have c0 := cellb c0 hE; have c1 := cellb c1 hE; have c2 := cellb c2 hE; have c3 := cellb c3 hE; (try dsimp only); go_simp); (try with_reducible rfl)
        try simp only [Act.put, List.setIfInBounds_toArray, List.set_cons_zero, List.set_cons_succ]
        refine wpAnyE_done (by kernel_rfl) (fun wy1 hE => ?_) _
        have hbz1 := bthen hbz hE
        have a1 := cellb a1 hE
        have a2 := cellb a2 hE
        have c0 := cellb c0 hE
        have c1 := cellb c1 hE
        have c2 := cellb c2 hE
        have c3 := cellb c3 hE
        have i1 := i1.carry hE
        have i2 := i2.carry hE
        clear hE
        have hB := hbz1
        obtain ⟨W4, hW4⟩ : ∃ v, v = wy1 := ⟨_, rfl⟩
        rw [← hW4] at hB i1 i2 ⊢
        clear hW4 a1 a2 c0 c1 c2 c3 hne
        cases q
        · have hxy : x0 = y0 ∧ x1 = y1 := by
            have h := HQ.out
            simpa using h.symm
          obtain ⟨rfl, rfl⟩ := hxy
          go_wp2
          go_roundw
          case rel => exact ⟨k + 1, by omega, by go_num, take_eq_succ HAB.out HX.out HY.out, i1, i2, hB⟩
          case measure => simp [intOf]; omega
        · have hne : l ≠ m := by
            rintro rfl
            have h1 := HX.out
            rw [HY.out] at h1
            obtain ⟨rfl, rfl⟩ := Prod.mk.inj (Option.some.inj h1)
            have h := HQ.out
            simp at h
          have HN := Lib.hid hne
          clear hne
          go_wp2
          go_ret
          exact ⟨ret_bool (by simp [HN.out]), hB⟩
      · obtain rfl : k = m.length := by omega
        have h := HAB.out
        rw [← HL.out, List.take_length, HL.out, List.take_length] at h
        have H := Lib.hid h
        clear h hca hcb
        go_wp2
        go_ret
        exact ⟨ret_bool (by rw [H.out]; simp), hB⟩
  · have hb0 : ((l.length : Int) != (m.length : Int)) = true := by rw [bne_iff_ne]; omega
    have HN := Lib.hid (show l ≠ m by rintro rfl; exact hlen rfl)
    clear hlen hca hcb
    go_enter Tryz.func104, Tryz.ntmps104
    go_upto_region 1 with fail
    obtain ⟨W1, hW1⟩ : ∃ v, v = World.alloc w (Obj.cells #[.slice xa l.length ca] 62) := ⟨_, rfl⟩
    have kW1 : Below w.heap.size w W1 := by rw [hW1]; exact below_new _ _
    have iW1 : Blk W1 (w.heap.size) 62 [.slice xa l.length ca] := by rw [hW1]; exact Blk.new _ _ _
    have sW1 : W1.heap.size = w.heap.size + 1 := by rw [hW1]; simp
    rw [← hW1]
    clear hW1
    obtain ⟨W2, hW2⟩ : ∃ v, v = World.alloc W1 (Obj.cells #[.slice xb m.length cb] 62) := ⟨_, rfl⟩
    have kW2 : Below W1.heap.size W1 W2 := by rw [hW2]; exact below_new _ _
    have iW2 : Blk W2 (w.heap.size + 1) 62 [.slice xb m.length cb] := by rw [hW2, ← sW1]; exact Blk.new _ _ _
    have sW2 : W2.heap.size = w.heap.size + 1 + 1 := by rw [hW2]; simp [sW1]
    rw [← hW2]
    clear hW2
    have hB := bthen kW1 kW2
    have a1 := (iW1.carry kW2).cell (j := 0) (v := .slice xa l.length ca) rfl
    have a2 := iW2.cell (j := 0) (v := .slice xb m.length cb) rfl
    clear iW1 iW2 kW1 kW2 sW1 sW2
    go_wp2
    go_ret
    exact ⟨ret_bool (by simp [HN.out]), hB⟩

/-- a filter of the program against one of the reference, with both errors. -/
theorem filter_any (u v : Value) (L M : List (Int × Int)) (bad : Int) (w : World) (hu : Pairs w u L) (hv : Pairs w v M) (hl : L.length ≤ 1000000) (h0 : bad = 0 → L = M) (h1 : bad ≠ 0 → L = []) :
    Calls Tryz.prog 44 #[.agg #[u], .int .i64 bad, .int .i64 bad, .agg #[v]] w fun e w' => e = .returned (.bool true) ∧ Below w.heap.size w w' := by
  have HU := Lib.hid hu
  have HV := Lib.hid hv
  obtain ⟨xa, ca, rfl, _, _⟩ := hu
  obtain ⟨xb, cb, rfl, _, _⟩ := hv
  by_cases hb : bad = 0
  · obtain rfl := hb
    obtain rfl := h0 rfl
    have TT := Lib.hid (fun W hP => told_any (.slice xa L.length ca) L W hP hl)
    have TS := Lib.hid (fun u W hP hQ => SameR_any u (.slice xb L.length cb) L L W hP hQ hl)
    rw [decide_eq_true rfl] at TS
    clear h0 h1
    go_enter Tryz.func44, Tryz.ntmps44
    go_upto_region 1 with fail
    obtain ⟨W1, hW1⟩ : ∃ v, v = World.alloc w (Obj.cells #[.slice xa L.length ca] 70) := ⟨_, rfl⟩
    have kW1 : Below w.heap.size w W1 := by rw [hW1]; exact below_new _ _
    have iW1 : Blk W1 (w.heap.size) 70 [.slice xa L.length ca] := by rw [hW1]; exact Blk.new _ _ _
    have sW1 : W1.heap.size = w.heap.size + 1 := by rw [hW1]; simp
    rw [← hW1]
    clear hW1
    obtain ⟨W2, hW2⟩ : ∃ v, v = World.alloc W1 (Obj.cells #[.slice xb L.length cb] 62) := ⟨_, rfl⟩
    have kW2 : Below W1.heap.size W1 W2 := by rw [hW2]; exact below_new _ _
    have iW2 : Blk W2 (w.heap.size + 1) 62 [.slice xb L.length cb] := by rw [hW2, ← sW1]; exact Blk.new _ _ _
    have sW2 : W2.heap.size = w.heap.size + 1 + 1 := by rw [hW2]; simp [sW1]
    rw [← hW2]
    clear hW2
    have hB := bthen kW1 kW2
    have a1 := (iW1.carry kW2).cell (j := 0) (v := .slice xa L.length ca) rfl
    have a2 := iW2.cell (j := 0) (v := .slice xb L.length cb) rfl
    have hP := HU.out.carry hB
    have hQ := HV.out.carry hB
    clear iW1 iW2 kW1 kW2 sW1 sW2
    go_wp2_with fail
    refine wp_region_held_drew (S := (fun W => W.cell? ⟨w.heap.size, 0, none⟩ = some (.slice xa L.length ca) ∧ W.cell? ⟨w.heap.size + 1, 0, none⟩ = some (.slice xb L.length cb))) (by kernel_rfl) ⟨cellb a1 (Below.refl _ _).drew, cellb a2 (Below.refl _ _).drew⟩ (fun hHeld0 => ?_)
    obtain ⟨wzd, hwz⟩ : ∃ v, v = W2.drew := ⟨_, rfl⟩
    rw [← hwz] at hHeld0 ⊢
    have hbzd : Below W2.heap.size W2 wzd := by rw [hwz]; exact (Below.refl _ _).drew
    have hlzd : Below W2.heap.size W2 wzd := by rw [hwz]; exact (Below.refl _ _).drew
    have hP := hP.carry hlzd
    have hQ := hQ.carry hlzd
    clear hwz hlzd
    refine wpAnyH_take (i := 0) (oi := { dst := some 20, op := Op.move (Operand.tmp 1), type := 27, pos := "law.go:102", after := #[], guard := none }) (v := ?_) rfl (by kernel_rfl) (by kernel_rfl) (by kernel_rfl) (fun _ _ _ h => h) (Or.inl ⟨by rfl, ?_⟩) (by assumption) ?_
    rotate_left
    · (intro w hSw; (try dsimp only at hSw); go_simp); (try with_reducible rfl)
    try simp only [Act.put, List.setIfInBounds_toArray, List.set_cons_zero, List.set_cons_succ]
    refine wpAnyH_take (i := 1) (oi := { dst := some 21, op := Op.binOp BinOp.eql 27 (Operand.tmp 20) (Operand.const (Value.int IntKind.i64 0)) 27, type := 4, pos := "law.go:102", after := #[{ on := 0, ground := Ground.data }], guard := none }) (v := ?_) rfl (by kernel_rfl) (by kernel_rfl) (by kernel_rfl) (fun _ _ _ h => h) (Or.inl ⟨by rfl, ?_⟩) (by assumption) ?_
    rotate_left
    · (intro w hSw; (try dsimp only at hSw); go_simp); (try with_reducible rfl)
    try simp only [Act.put, List.setIfInBounds_toArray, List.set_cons_zero, List.set_cons_succ]
    refine wpAnyH_take (i := 2) (oi := { dst := some 22, op := Op.move (Operand.tmp 21), type := 4, pos := "law.go:102", after := #[{ on := 1, ground := Ground.data }], guard := none }) (v := ?_) rfl (by kernel_rfl) (by kernel_rfl) (by kernel_rfl) (fun _ _ _ h => h) (Or.inl ⟨by rfl, ?_⟩) (by assumption) ?_
    rotate_left
    · (intro w hSw; (try dsimp only at hSw); go_simp); (try with_reducible rfl)
    try simp only [Act.put, List.setIfInBounds_toArray, List.set_cons_zero, List.set_cons_succ]
    refine wpAnyH_take (i := 3) (oi := { dst := some 23, op := Op.load 70 (Operand.tmp 4), type := 70, pos := "law.go:102", after := #[{ on := 2, ground := Ground.guard }], guard := some (2, true) }) (v := ?_) rfl (by kernel_rfl) (by kernel_rfl) (by kernel_rfl) (fun _ _ _ h => h) (Or.inl ⟨by rfl, ?_⟩) (by assumption) ?_
    rotate_left
    · (intro w hSw; (try dsimp only at hSw); go_simp); (try with_reducible rfl)
    try simp only [Act.put, List.setIfInBounds_toArray, List.set_cons_zero, List.set_cons_succ]
    refine wpAnyH_take (i := 5) (oi := { dst := some 25, op := Op.load 62 (Operand.tmp 7), type := 62, pos := "law.go:102", after := #[{ on := 2, ground := Ground.guard }], guard := some (2, true) }) (v := ?_) rfl (by kernel_rfl) (by kernel_rfl) (by kernel_rfl) (fun _ _ _ h => h) (Or.inl ⟨by rfl, ?_⟩) (by assumption) ?_
    rotate_left
    · (intro w hSw; (try dsimp only at hSw); go_simp); (try with_reducible rfl)
    try simp only [Act.put, List.setIfInBounds_toArray, List.set_cons_zero, List.set_cons_succ]
    refine wpAnyH_ready (rs := [4]) (by kernel_rfl) (by simp) ?_
    refine (AllReadyH.cons (o := { dst := some 24, op := Op.call { callee := Callee.value (Operand.func 105), args := #[Operand.tmp 23], argTypes := #[70] }, type := 62, pos := "law.go:102", after := #[{ on := 3, ground := Ground.data }, { on := 2, ground := Ground.chain }, { on := 2, ground := Ground.guard }], guard := some (2, true) }) rfl (fun K hK => ?_) AllReadyH.nil)
    go_simp
    refine (TT.out wzd hP).mono ?_
    rintro e wz4 ⟨⟨u, rfl, hu⟩, hl⟩
    (try go_wp2_with fail)
    have hbz4 := bthen hbzd hl
    have hP := hP.carry hl
    have hQ := hQ.carry hl
    clear hl
    refine hK.out _ _ ⟨cellb a1 hbz4, cellb a2 hbz4⟩ (fun hHeld1 => ?_)
    clear hK K hHeld0
    try simp only [Act.put, List.setIfInBounds_toArray, List.set_cons_zero, List.set_cons_succ]
    refine wpAnyH_ready (rs := [6]) (by kernel_rfl) (by simp) ?_
    refine (AllReadyH.cons (o := { dst := some 26, op := Op.call { callee := Callee.value (Operand.func 104), args := #[Operand.tmp 24, Operand.tmp 25], argTypes := #[62, 62] }, type := 4, pos := "law.go:102", after := #[{ on := 4, ground := Ground.data }, { on := 5, ground := Ground.data }, { on := 4, ground := Ground.chain }, { on := 2, ground := Ground.guard }], guard := some (2, true) }) rfl (fun K hK => ?_) AllReadyH.nil)
    go_simp
    refine (TS.out u wz4 hu hQ).mono ?_
    rintro e wz6 ⟨rfl, hl⟩
    (try go_wp2_with fail)
    have hbz6 := bthen hbz4 hl
    have hP := hP.carry hl
    have hQ := hQ.carry hl
    have hu := hu.carry hl
    clear hl
    refine hK.out _ _ ⟨cellb a1 hbz6, cellb a2 hbz6⟩ (fun hHeld2 => ?_)
    clear hK K hHeld1
    try simp only [Act.put, List.setIfInBounds_toArray, List.set_cons_zero, List.set_cons_succ]
    refine wpAnyH_take (i := 7) (oi := { dst := some 27, op := Op.pick (Operand.tmp 22) (Operand.tmp 26) (Operand.const (Value.bool false)), type := 4, pos := "law.go:102", after := #[{ on := 2, ground := Ground.data }, { on := 6, ground := Ground.data }], guard := none }) (v := ?_) rfl (by kernel_rfl) (by kernel_rfl) (by kernel_rfl) (fun _ _ _ h => h) (Or.inl ⟨by rfl, ?_⟩) (by assumption) ?_
    rotate_left
    · (intro w hSw; (try dsimp only at hSw); go_simp); (try with_reducible rfl)
    try simp only [Act.put, List.setIfInBounds_toArray, List.set_cons_zero, List.set_cons_succ]
    refine wpAnyH_take (i := 8) (oi := { dst := some 8, op := Op.assign (Operand.tmp 27), type := 4, pos := "law.go:102", after := #[{ on := 7, ground := Ground.data }, { on := 6, ground := Ground.chain }, { on := 0, ground := Ground.phase }, { on := 1, ground := Ground.phase }, { on := 2, ground := Ground.phase }, { on := 3, ground := Ground.phase }, { on := 4, ground := Ground.phase }, { on := 5, ground := Ground.phase }, { on := 6, ground := Ground.phase }, { on := 7, ground := Ground.phase }], guard := none }) (v := ?_) rfl (by kernel_rfl) (by kernel_rfl) (by kernel_rfl) (fun _ _ _ h => h) (Or.inl ⟨by rfl, ?_⟩) (by assumption) ?_
    rotate_left
    · (intro w hSw; (try dsimp only at hSw); go_simp); (try with_reducible rfl)
    try simp only [Act.put, List.setIfInBounds_toArray, List.set_cons_zero, List.set_cons_succ]
    refine wpAnyH_done (by kernel_rfl) ?_ _
    clear hHeld2
    go_wp2
    go_ret
    exact ⟨rfl, bthen hB hbz6⟩
  · obtain rfl := h1 hb
    have z' : (bad != 0) = true := by rw [bne_iff_ne]; exact hb
    clear h0 h1
    go_enter Tryz.func44, Tryz.ntmps44
    go_upto_region 1 with fail
    obtain ⟨W1, hW1⟩ : ∃ v, v = World.alloc w (Obj.cells #[.slice xa 0 ca] 70) := ⟨_, rfl⟩
    have kW1 : Below w.heap.size w W1 := by rw [hW1]; exact below_new _ _
    have iW1 : Blk W1 (w.heap.size) 70 [.slice xa 0 ca] := by rw [hW1]; exact Blk.new _ _ _
    have sW1 : W1.heap.size = w.heap.size + 1 := by rw [hW1]; simp
    rw [← hW1]
    clear hW1
    obtain ⟨W2, hW2⟩ : ∃ v, v = World.alloc W1 (Obj.cells #[.slice xb M.length cb] 62) := ⟨_, rfl⟩
    have kW2 : Below W1.heap.size W1 W2 := by rw [hW2]; exact below_new _ _
    have iW2 : Blk W2 (w.heap.size + 1) 62 [.slice xb M.length cb] := by rw [hW2, ← sW1]; exact Blk.new _ _ _
    have sW2 : W2.heap.size = w.heap.size + 1 + 1 := by rw [hW2]; simp [sW1]
    rw [← hW2]
    clear hW2
    have hB := bthen kW1 kW2
    have a1 := (iW1.carry kW2).cell (j := 0) (v := .slice xa 0 ca) rfl
    clear iW1 iW2 kW1 kW2 sW1 sW2
    go_wp2
    go_ret
    exact ⟨by simp, hB⟩

/-- a list of pairs does not lie in a block that holds no integer: stores there leave it. -/
theorem Pairs.apart {w : World} {v u x : Value} {l : List (Int × Int)} {B j : Nat} {T : TypeId} (h : Pairs w v l) (hb : Blk w B T [u]) (hu : ∀ y : Int, u ≠ .int .i64 y) : Pairs (w.setCell ⟨B, j, none⟩ x) v l := by
  obtain ⟨a, c, hv, hc, hr⟩ := h
  refine ⟨a, c, hv, hc, fun h0 => ?_⟩
  obtain ⟨b, off, ha, hd⟩ := hr h0
  refine ⟨b, off, ha, fun k y hk => ?_⟩
  obtain ⟨c0, c1⟩ := hd k y hk
  have hne : b ≠ B := by
    rintro rfl
    have hq : w.cell? ⟨b, off + k * 2, none⟩ = ([u] : List Value)[off + k * 2]? := by simp [World.cell?, show w.heap[b]? = _ from hb]
    rw [c0] at hq
    rcases Nat.eq_zero_or_pos (off + k * 2) with e | e
    · rw [e] at hq; simp at hq; exact hu _ hq.symm
    · rw [List.getElem?_eq_none (by simp; omega)] at hq; simp at hq
  have key : ∀ q : Nat, (w.setCell ⟨B, j, none⟩ x).cell? ⟨b, q, none⟩ = w.cell? ⟨b, q, none⟩ := fun q =>
    World.cell?_of_block (Below.heap_setCell _ _ _ _ (show b ≠ B from hne))
  rw [key, key]
  exact ⟨c0, c1⟩

def tapP (ls : List (Int × Int)) (b tap : Int) : Int := firstE [braE ls b, withinE tap (-8) 8]
def tapX (ls : List (Int × Int)) (b tap : Int) : Int := bif tapP ls b tap == 0 then tapE (fltE (tapL ls b.toNat tap)) else tapP ls b tap
def tapZ (ls : List (Int × Int)) (b tap : Int) : List (Int × Int) := bif tapP ls b tap == 0 then lsIf (fltE (tapL ls b.toNat tap)) (tapL ls b.toNat tap) else []
theorem tapP_zero {ls : List (Int × Int)} {b tap : Int} (h : tapP ls b tap = 0) : fltE ls = 0 ∧ 0 ≤ b ∧ b < ls.length := by
  unfold tapP at h
  exact braE_zero (firstE_head h)
set_option maxRecDepth 100000 in
set_option maxHeartbeats 4000000 in
theorem Tapped_any (v : Value) (ls : List (Int × Int)) (b tap : Int) (w : World) (hv : Pairs w v ls) (hl : ls.length ≤ 1000000) :
    Calls Tryz.prog 34 #[.agg #[v], .int .i64 b, .int .i64 tap] w fun e w' => (∃ u, e = .returned (.tuple #[.agg #[u], .int .i64 (tapX ls b tap)]) ∧ Pairs w' u (tapZ ls b tap)) ∧ Below w.heap.size w w' := by
  obtain ⟨X, hX⟩ : ∃ X, X = tapX ls b tap := ⟨_, rfl⟩
  obtain ⟨Z, hZ⟩ : ∃ Z, Z = tapZ ls b tap := ⟨_, rfl⟩
  rw [← hX, ← hZ]
  have TB := Lib.hid (fun W hP => checkBranch_any v ls b W hP hl)
  have TW := Lib.hid (fun W => withinH_any tap (-8) 8 W)
  have TT := Lib.hid (fun (h0 : tapP ls b tap = 0) W hP => by
    obtain ⟨_, hb0, hb1⟩ := tapP_zero h0
    have := tapped_any v ls b.toNat tap W hP hl (by omega)
    rw [Int.toNat_of_nonneg hb0] at this
    exact this)
  have hml : (tapL ls b.toNat tap).length ≤ 1000000 := by rw [tapL, List.length_set]; exact hl
  rw [tapX] at hX
  rw [tapZ] at hZ
  generalize tapL ls b.toNat tap = R at TT hX hZ hml
  have TC := Lib.hid (fun u W hP => CheckFilter_any u R W hP hml)
  generalize fltE R = E at TC hX hZ
  have TF := Lib.hid (fun (u : Value) (W : World) (h : Ints W u [braE ls b, withinE tap (-8) 8]) => firstH_any u _ W (by simp [maxLen]) h)
  rw [show firstE [braE ls b, withinE tap (-8) 8] = tapP ls b tap from rfl] at TF
  generalize tapP ls b tap = F at TF TT hX hZ
  generalize braE ls b = e1 at TB TF
  generalize withinE tap (-8) 8 = e2 at TW TF
  have HV := Lib.hid hv
  have HX := Lib.hid hX
  have HZ := Lib.hid hZ
  obtain ⟨a, cp, rfl, _, _⟩ := id hv
  clear hv hX hZ hml
  go_enter Tryz.func34, Tryz.ntmps34
  go_upto_region 1 with fail
  obtain ⟨W1, hW1⟩ : ∃ v, v = World.alloc w (Obj.cells #[.slice a ls.length cp] 70) := ⟨_, rfl⟩
  have kW1 : Below w.heap.size w W1 := by rw [hW1]; exact below_new _ _
  have iW1 : Blk W1 (w.heap.size) 70 [.slice a ls.length cp] := by rw [hW1]; exact Blk.new _ _ _
  have sW1 : W1.heap.size = w.heap.size + 1 := by rw [hW1]; simp
  rw [← hW1]
  clear hW1
  obtain ⟨W2, hW2⟩ : ∃ v, v = World.alloc W1 (Obj.cells #[.slice none 0 0] 70) := ⟨_, rfl⟩
  have kW2 : Below W1.heap.size W1 W2 := by rw [hW2]; exact below_new _ _
  have iW2 : Blk W2 (w.heap.size + 1) 70 [.slice none 0 0] := by rw [hW2, ← sW1]; exact Blk.new _ _ _
  have sW2 : W2.heap.size = w.heap.size + 1 + 1 := by rw [hW2]; simp [sW1]
  rw [← hW2]
  clear hW2
  have i1 := iW1.carry kW2
  have i6 := iW2
  have hB := bthen kW1 kW2
  have a0 := i1.cell (j := 0) (v := .slice a ls.length cp) rfl
  clear iW1 iW2 kW1 kW2 sW1 sW2
  go_wp2_with fail
  refine (TB.out W2 (HV.out.carry hB)).mono ?_
  rintro e W3 ⟨rfl, hb⟩
  replace i1 := i1.carry hb
  replace i6 := i6.carry hb
  replace hB := bthen hB hb
  clear hb a0
  go_wp2_with fail
  refine (TW.out W3).mono ?_
  rintro e W3 ⟨rfl, rfl⟩
  go_wp2_with fail
  obtain ⟨W4, hW4⟩ : ∃ v, v = World.alloc W3 (Obj.cells #[.int .i64 e1, .int .i64 e2] 27) := ⟨_, rfl⟩
  have kW4 : Below W3.heap.size W3 W4 := by rw [hW4]; exact below_new _ _
  have iW4 : Blk W4 (W3.heap.size) 27 [.int .i64 e1, .int .i64 e2] := by rw [hW4]; exact Blk.new _ _ _
  have sW4 : W4.heap.size = W3.heap.size + 1 := by rw [hW4]; simp
  rw [← hW4]
  clear hW4
  refine (TF.out _ W4 (BlkI.ints (l := [e1, e2]) iW4 rfl)).mono ?_
  rintro e w' ⟨rfl, rfl⟩
  replace i1 := i1.carry kW4
  replace i6 := i6.carry kW4
  replace hB := bthen hB kW4
  have a0 := i1.cell (j := 0) (v := .slice a ls.length cp) rfl
  have z6 := i6.cell (j := 0) (v := .slice none 0 0) rfl
  have f6 := i6.frozen 0
  clear kW4 iW4 sW4
  by_cases hF : F = 0
  · subst hF
    have TT2 := Lib.hid (TT.out rfl)
    clear TT
    go_wp2_with fail
    refine (TT2.out W4 (HV.out.carry hB)).mono ?_
    rintro e W5 ⟨⟨u, rfl, hP⟩, hb⟩
    obtain ⟨ua, uc, rfl, _, _⟩ := id hP
    replace i6 := i6.carry hb
    replace hB := bthen hB hb
    have hP5 := Lib.hid hP
    clear hb a0 z6 f6 hP
    go_upto_region 5 with fail
    obtain ⟨W6, hW6⟩ : ∃ v, v = World.alloc W5 (Obj.cells #[.slice ua R.length uc] 70) := ⟨_, rfl⟩
    have kW6 : Below W5.heap.size W5 W6 := by rw [hW6]; exact below_new _ _
    have iW6 : Blk W6 (W5.heap.size) 70 [.slice ua R.length uc] := by rw [hW6]; exact Blk.new _ _ _
    have sW6 : W6.heap.size = W5.heap.size + 1 := by rw [hW6]; simp
    rw [← hW6]
    clear hW6
    replace i6 := i6.carry kW6
    replace hB := bthen hB kW6
    have hP6 := Lib.hid (hP5.out.carry kW6)
    have i9 := iW6
    have z9 := i9.cell (j := 0) (v := .slice ua R.length uc) rfl
    clear kW6 sW6 iW6 hP5
    go_wp2_with fail
    refine (TC.out _ W6 hP6.out).mono ?_
    rintro e W7 ⟨rfl, hb⟩
    replace i6 := i6.carry hb
    replace i9 := i9.carry hb
    replace hB := bthen hB hb
    have hP7 := Lib.hid (hP6.out.carry hb)
    clear hb z9 hP6
    have z9 := i9.cell (j := 0) (v := .slice ua R.length uc) rfl
    have z6 := i6.cell (j := 0) (v := .slice none 0 0) rfl
    have f6 := i6.frozen 0
    by_cases hE : E = 0
    · subst hE
      go_wp2_with fail
      have i10 := i6.set 0 (.slice ua R.length uc)
      have z0 := i10.cell (j := 0) (v := .slice ua R.length uc) rfl
      exact bodyPost_ret (v := .tuple #[.agg #[.slice ua R.length uc], .int .i64 0]) (by simp [results, Tryz.f34, go_sem, z0]) rfl ⟨⟨_, by rw [HX.out]; rfl, by rw [HZ.out]; exact hP7.out.apart i6 (fun y hy => by simp at hy)⟩, hB.setCell (by simp) _⟩
    · have z' : (E != 0) = true := by rw [bne_iff_ne]; exact hE
      have HE := Lib.hid (show (E == 0) = false by rw [beq_eq_false_iff_ne]; exact hE)
      go_wp2_with fail
      have i10 := i6.set 0 (.slice none 0 0)
      have z0 := i10.cell (j := 0) (v := .slice none 0 0) rfl
      exact bodyPost_ret (v := .tuple #[.agg #[.slice none 0 0], .int .i64 4]) (by simp [results, Tryz.f34, go_sem, z0]) rfl ⟨⟨_, by rw [HX.out, tapE, HE.out]; rfl, by rw [HZ.out, lsIf, HE.out]; exact Pairs.none' _⟩, hB.setCell (by simp) _⟩
  · have z' : (F != 0) = true := by rw [bne_iff_ne]; exact hF
    have HF := Lib.hid (show (F == 0) = false by rw [beq_eq_false_iff_ne]; exact hF)
    clear TT
    go_wp2_with fail
    have i10 := i6.set 0 (.slice none 0 0)
    have z0 := i10.cell (j := 0) (v := .slice none 0 0) rfl
    exact bodyPost_ret (v := .tuple #[.agg #[.slice none 0 0], .int .i64 F]) (by simp [results, Tryz.f34, go_sem, z0]) rfl ⟨⟨_, by rw [HX.out, HF.out]; rfl, by rw [HZ.out, HF.out]; exact Pairs.none' _⟩, hB.setCell (by simp) _⟩
end Go.Proofs.YtfkemdapmoponaaGreatDoor

/- The package harmonic: a filter is tapped. -/
import Derived.Test.YtpkaoechbmbolaaGreatDoorHpE
namespace Go.Proofs.YtpkaoechbmbolaaGreatDoor
set_option linter.unusedSimpArgs false
set_option linter.unusedVariables false
open Go.RowKit

theorem run_copy_rowK {P : Program} (w : World) (dT sT ty elem : TypeId) (g o dLen dCap : Nat) (a : Addr) (sLen sCap : Nat) (cur : Array Value) (t : TypeId) (cs : List Value) (k : Nat)
    (hu : P.underlying dT = some (.slice elem)) (hs : (P.info? elem).map (·.size) = some k)
    (hg : w.heap[g]? = some (.cells cur t (0, 0))) (hn : cs.length = Nat.min sLen dLen * k)
    (hsrc : ∀ j v, cs[j]? = some v → w.cell? (a.add j) = some v) (hfit : o + cs.length ≤ cur.size) (h1 : ∀ v ∈ cs, v.oneCell' = true) :
    (Builtin.copy_ #[dT, sT] ty #[.slice (some ⟨g, o, none⟩) dLen dCap, .slice (some a) sLen sCap]).run P w =
      .ok (goInt (Nat.min sLen dLen)) (w.setRow g (cur.toList.take o ++ cs ++ cur.toList.drop (o + cs.length)).toArray) := by
  have hl := run_loadCells_list (P := P) w a cs hsrc
  have hst := run_storeCells_at P g o t cs 0 cur w hg (by simpa using hfit) h1
  cases hq : P.info? elem with
  | none => simp [hq] at hs
  | some i =>
    have hi : i.size = k := by simpa [hq] using hs
    simp [Builtin.copy_, run_underlying hu, Builtin.lenOf, Builtin.firstCells, sizeOf, typeInfo, hq, hi, ← hn, hl, hst]
/-- a whole block is copied over. -/
theorem wpList_copyK {P : Program} {w : World} {ops : Array Oper} {rest : List Oper} {o : Oper} {a : Act} {Q : Exit → Act → World → Prop} (hgd : o.guard = none) (d s : Operand) (dT sT : TypeId)
    (ho : o.op = .call { callee := .builtin .copy, args := #[d, s], argTypes := #[dT, sT] }) (elem : TypeId) (hu : P.underlying dT = some (.slice elem)) (k : Nat) (hsz : (P.info? elem).map (·.size) = some k)
    (g n dCap : Nat) (ad : Addr) (sCap : Nat) (hd : a.eval d = .slice (some ⟨g, 0, none⟩) n dCap) (hs : a.eval s = .slice (some ad) n sCap)
    (cur : Array Value) (t : TypeId) (hg : w.heap[g]? = some (.cells cur t (0, 0))) (cs : List Value) (hn : cs.length = n * k) (hcur : cur.size = n * k)
    (hsrc : ∀ j v, cs[j]? = some v → w.cell? (ad.add j) = some v) (h1 : ∀ v ∈ cs, v.oneCell' = true)
    (h : wpList P ops Q rest (a.put o.dst (goInt n)) (w.setRow g cs.toArray)) : wpList P ops Q (o :: rest) a w := by
  refine wpList_plain hgd fun K hK => ?_
  have hmin : Nat.min n n = n := Nat.min_self n
  have hrun := run_copy_rowK (P := P) w dT sT o.type elem g 0 n dCap ad n sCap cur t cs k hu hsz hg (by rw [hmin]; exact hn) hsrc (by omega) h1
  have hdrop : cur.toList.drop (0 + cs.length) = [] := by
    apply List.drop_eq_nil_of_le
    rw [Array.length_toList]; omega
  rw [hdrop, List.take_zero, List.nil_append, List.append_nil, hmin] at hrun
  unfold Oper.wp
  simp [execOp, ho, resolve, invoke, builtin, hd, hs, hrun, Result.andThen]
  exact hK _ _ h

def flat2 (ls : List (Int × Int)) : List Int := (ls.map fun x => [x.1, x.2]).flatten
theorem flat2_cons (x : Int × Int) (ls : List (Int × Int)) : flat2 (x :: ls) = x.1 :: x.2 :: flat2 ls := by simp [flat2]
theorem flat2_length (ls : List (Int × Int)) : (flat2 ls).length = ls.length * 2 := by
  induction ls with
  | nil => rfl
  | cons x ls ih => rw [flat2_cons, List.length_cons, List.length_cons, List.length_cons, ih]; omega
theorem flat2_get (ls : List (Int × Int)) (j : Nat) (x : Int × Int) (h : ls[j]? = some x) : (flat2 ls)[j * 2]? = some x.1 ∧ (flat2 ls)[j * 2 + 1]? = some x.2 := by
  induction ls generalizing j with
  | nil => simp at h
  | cons y ls ih =>
    rw [flat2_cons]
    cases j with
    | zero => simp at h; subst h; simp
    | succ j =>
      obtain ⟨h0, h1⟩ := ih j (by simpa using h)
      rw [show (j + 1) * 2 = j * 2 + 2 by omega]
      simpa using ⟨h0, h1⟩
theorem flat2_set (ls : List (Int × Int)) (j : Nat) (x : Int × Int) (y : Int) (h : ls[j]? = some x) : (flat2 ls).set (j * 2) y = flat2 (ls.set j (y, x.2)) := by
  induction ls generalizing j with
  | nil => simp at h
  | cons z ls ih =>
    cases j with
    | zero => simp at h; subst h; simp [flat2_cons]
    | succ j =>
      have := ih j (by simpa using h)
      rw [List.set_cons_succ, flat2_cons, flat2_cons, show (j + 1) * 2 = j * 2 + 1 + 1 by omega, List.set_cons_succ, List.set_cons_succ, this]
theorem Pairs.of_blk {w : World} {G : Nat} {T : TypeId} {ls : List (Int × Int)} {cap : Nat} (h : BlkI w G T (flat2 ls)) (hc : ls.length ≤ cap) : Pairs w (.slice (some ⟨G, 0, none⟩) ls.length cap) ls := by
  refine ⟨_, cap, rfl, hc, fun _ => ⟨G, 0, rfl, fun j x hj => ?_⟩⟩
  obtain ⟨h0, h1⟩ := flat2_get ls j x hj
  rw [Nat.zero_add]
  refine ⟨?_, ?_⟩
  · have := BlkI.cell h (j := j * 2) (List.getElem?_eq_some_iff.1 h0).1
    rw [h0] at this; exact this
  · have := BlkI.cell h (j := j * 2 + 1) (List.getElem?_eq_some_iff.1 h1).1
    rw [h1] at this; exact this
theorem flat2_src {w : World} {b off : Nat} {ls : List (Int × Int)} (h : ∀ (j : Nat) (x : Int × Int), ls[j]? = some x → w.cell? ⟨b, off + j * 2, none⟩ = some (.int .i64 x.1) ∧ w.cell? ⟨b, off + j * 2 + 1, none⟩ = some (.int .i64 x.2))
    (j : Nat) (v : Value) (hj : ((flat2 ls).map (Value.int .i64))[j]? = some v) : w.cell? ((⟨b, off, none⟩ : Addr).add j) = some v := by
  have hlt : j < (flat2 ls).length := by have := (List.getElem?_eq_some_iff.1 hj).1; simpa using this
  have hlt2 : j / 2 < ls.length := by rw [flat2_length] at hlt; omega
  obtain ⟨x, hx⟩ : ∃ x, ls[j / 2]? = some x := ⟨_, List.getElem?_eq_getElem hlt2⟩
  obtain ⟨g0, g1⟩ := flat2_get ls _ x hx
  obtain ⟨c0, c1⟩ := h _ x hx
  rw [addr_add]
  rw [List.getElem?_map] at hj
  rcases Nat.mod_two_eq_zero_or_one j with e | e
  · have : j / 2 * 2 = j := by omega
    rw [this] at g0 c0
    rw [g0] at hj; simp at hj; rw [← hj]; exact c0
  · have : j / 2 * 2 + 1 = j := by omega
    rw [this] at g1
    rw [show off + j / 2 * 2 + 1 = off + j by omega] at c1
    rw [g1] at hj; simp at hj; rw [← hj]; exact c1

theorem Tryz.infoBranch : (Tryz.prog.info? 37).map (fun i => (i.zero, i.size, i.bytes)) = some (some (.agg #[.int .i64 0, .int .i64 0]), 2, 16) := by kernel_rfl
theorem Tryz.sizeBranch : (Tryz.prog.info? 37).map (·.size) = some 2 := by kernel_rfl
theorem madeCells_size (z : Array Value) (n : Nat) : (madeCells z n).size = n := size_madeCells _ _
theorem Tryz.undBranches : Tryz.prog.underlying 32 = some (.slice 37) := by kernel_rfl
theorem Tryz.infoFilter : (Tryz.prog.info? 34).map (·.size) = some 1 := by kernel_rfl
/-- a filter's branches, one of them tapped. -/
def tapL (ls : List (Int × Int)) (b : Nat) (tap : Int) : List (Int × Int) := ls.set b (wrap64 ((ls[b]?.getD (0, 0)).1 + tap), (ls[b]?.getD (0, 0)).2)

set_option maxRecDepth 100000 in
set_option maxHeartbeats 2000000 in
theorem tapped_any (v : Value) (ls : List (Int × Int)) (b : Nat) (tap : Int) (w : World) (hv : Pairs w v ls) (hl : ls.length ≤ 1000000) (hb : b < ls.length) :
    Calls Tryz.prog 30 #[.agg #[v], .int .i64 b, .int .i64 tap] w fun e w' => (∃ u, e = .returned (.agg #[u]) ∧ Pairs w' u (tapL ls b tap)) ∧ Below w.heap.size w w' := by
  obtain ⟨i0, hi, hz0, hz1, hz2⟩ := info_parts Tryz.infoBranch
  obtain ⟨n, hn⟩ : ∃ n, n = ls.length := ⟨_, rfl⟩
  obtain ⟨bb, off, cp, rfl, hcs⟩ := hv.head (by omega)
  have hsrc := flat2_src hcs
  have hmk := fun W => run_make (P := Tryz.prog) W 32 37 i0 _ Tryz.undBranches hi hz0 .i64 .i64 (n : Int) (n : Int) (by omega) (by omega) (by rw [hz2]; omega) (by omega)
  rw [hz1] at hmk
  have hfl : (flat2 ls).length = n * 2 := by rw [flat2_length, hn]
  obtain ⟨x, hx⟩ : ∃ x, ls[b]? = some x := ⟨_, List.getElem?_eq_getElem hb⟩
  obtain ⟨g0, _⟩ := flat2_get ls b x hx
  have hset := flat2_set ls b x (wrap64 (x.1 + tap)) hx
  have htl : tapL ls b tap = ls.set b (wrap64 (x.1 + tap), x.2) := by rw [tapL, hx]; rfl
  have htn : (tapL ls b tap).length = n := by rw [htl, List.length_set, hn]
  rw [← htl] at hset
  rw [← hn] at hb hl ⊢
  generalize tapL ls b tap = R at hset htn ⊢
  obtain ⟨F, hF⟩ : ∃ F, F = flat2 ls := ⟨_, rfl⟩
  rw [← hF] at hset hsrc hfl g0
  have HSET := Lib.hid hset
  have HTN := Lib.hid htn
  have HSRC := Lib.hid hsrc
  have HG0 := Lib.hid g0
  have d1 : (b : Int) < (n : Int) := by omega
  have hmk2 : ∀ W, Sem.run Tryz.prog (Instr.makeSlice 32 (.int .i64 n) (.int .i64 n)) W = .ok (.slice (some ⟨W.heap.size, 0, none⟩) n n) (W.alloc (.cells (madeCells #[.int .i64 0, .int .i64 0] (n * 2)) 37)) := fun W => by
    have := hmk W
    rw [Int.toNat_natCast] at this
    exact this
  have HFL := Lib.hid hfl
  clear hmk hv hx htl hset htn hF hn hi hz0 hz1 hz2 hcs hsrc g0 hfl
  go_enter Tryz.func30, Tryz.ntmps30
  go_upto_region 1 with fail
  obtain ⟨W1, hW1⟩ : ∃ v, v = World.alloc w (Obj.cells #[.slice (some ⟨bb, off, none⟩) n cp] 34) := ⟨_, rfl⟩
  have kW1 : Below w.heap.size w W1 := by rw [hW1]; exact below_new _ _
  have iW1 : Blk W1 (w.heap.size) 34 [.slice (some ⟨bb, off, none⟩) n cp] := by rw [hW1]; exact Blk.new _ _ _
  have sW1 : W1.heap.size = w.heap.size + 1 := by rw [hW1]; simp
  rw [← hW1]
  clear hW1
  obtain ⟨W2, hW2⟩ : ∃ v, v = World.alloc W1 (Obj.cells #[.slice none 0 0] 34) := ⟨_, rfl⟩
  have kW2 : Below W1.heap.size W1 W2 := by rw [hW2]; exact below_new _ _
  have iW2 : Blk W2 (w.heap.size + 1) 34 [.slice none 0 0] := by rw [hW2, ← sW1]; exact Blk.new _ _ _
  have sW2 : W2.heap.size = w.heap.size + 1 + 1 := by rw [hW2]; simp [sW1]
  rw [← hW2]
  clear hW2
  have i1 := iW1.carry kW2
  have i6 := iW2
  have a0 := i1.cell (j := 0) (v := .slice (some ⟨bb, off, none⟩) n cp) rfl
  have hB := bthen kW1 kW2
  have hs2 : w.heap.size + 1 < W2.heap.size := Blk.lt i6
  clear iW1 iW2 kW1 kW2 sW1 sW2
  go_upto_region 2 with fail
  obtain ⟨cur, hcur⟩ : ∃ c, c = madeCells #[Value.int .i64 0, Value.int .i64 0] (n * 2) := ⟨_, rfl⟩
  have hcs : cur.size = n * 2 := by rw [hcur]; exact size_madeCells _ _
  rw [← hcur]
  obtain ⟨W3, hW3⟩ : ∃ W, W = W2.alloc (.cells cur 37) := ⟨_, rfl⟩
  have hg : W3.heap[W2.heap.size]? = some (.cells cur 37 (0, 0)) := by rw [hW3]; exact World.alloc_heap_new _ _
  have kW3 : Below W2.heap.size W2 W3 := by rw [hW3]; exact below_new _ _
  rw [← hW3]
  obtain ⟨G, hG⟩ : ∃ G, G = W2.heap.size := ⟨_, rfl⟩
  have hGs : w.heap.size + 1 < G := by omega
  rw [← hG] at hg ⊢
  have hBc := bthen hB kW3
  replace i6 := i6.carry kW3
  have a0 := cellb a0 kW3
  have hsrc1 : ∀ (j : Nat) (v : Value), (F.map (Value.int .i64))[j]? = some v → W3.cell? ((⟨bb, off, none⟩ : Addr).add j) = some v := fun j v hj => by
    have := HSRC.out j v hj
    rw [addr_add] at this ⊢
    exact cellb this hBc
  clear hW3 hcur hmk2 kW3 hB hs2 hG HSRC
  have HS := Lib.hid hsrc1
  clear hsrc1
  go_upto_region 3 with (refine wpList_copyK rfl _ _ _ _ rfl 37 Tryz.undBranches 2 Tryz.sizeBranch G n n ⟨bb, off, none⟩ cp rfl rfl cur 37 hg (F.map (Value.int .i64)) (by rw [List.length_map, HFL.out]) hcs HS.out (by simp [Value.oneCell']) ?_)
  obtain ⟨W4, hW4⟩ : ∃ W, W = W3.setRow G (F.map (Value.int .i64)).toArray := ⟨_, rfl⟩
  have i7 : BlkI W4 G 37 F := by rw [hW4]; exact setRow_heap W3 G _ _ _ (0, 0) hg
  have hB : Below w.heap.size w W4 := by rw [hW4]; exact below_rowA hBc (by omega) _
  have i6b : Blk W4 (w.heap.size + 1) 34 [.slice none 0 0] := by rw [hW4]; exact Blk.setRow i6 (by omega) _
  have i1b : W4.cell? ⟨w.heap.size, 0, none⟩ = some (.slice (some ⟨bb, off, none⟩) n cp) := by
    rw [hW4]
    have : (W3.setRow G (F.map (Value.int .i64)).toArray).heap[w.heap.size]? = W3.heap[w.heap.size]? := setRow_other _ _ _ _ (by omega)
    unfold World.cell? at a0 ⊢
    rw [this]; exact a0
  rw [← hW4]
  clear hW4 HS hg hBc i6 a0 i1 hcs
  have c0 : W4.cell? ⟨G, b * 2, none⟩ = some (.int .i64 x.1) := by
    have := BlkI.cell i7 (j := b * 2) (List.getElem?_eq_some_iff.1 HG0.out).1
    rw [HG0.out] at this; exact this
  have f0 := i7.frozen (b * 2)
  have c6 := i6b.cell (j := 0) (v := .slice none 0 0) rfl
  have f6 := i6b.frozen 0
  have hne : G ≠ w.heap.size + 1 := by omega
  go_wp2_with fail
  have i8 := BlkI.set i7 (b * 2) (wrap64 (x.1 + tap))
  rw [HSET.out] at i8
  have i9 := i8.other (j := 0) hne (.slice (some ⟨G, 0, none⟩) n n)
  have i10 := (i6b.other (j := b * 2) (Ne.symm hne) (.int .i64 (wrap64 (x.1 + tap)))).set 0 (.slice (some ⟨G, 0, none⟩) n n)
  have z0 := i10.cell (j := 0) (v := .slice (some ⟨G, 0, none⟩) n n) rfl
  have hP := Pairs.of_blk (cap := n) i9 (by rw [HTN.out]; exact Nat.le_refl _)
  rw [HTN.out] at hP
  exact bodyPost_ret (v := .agg #[.slice (some ⟨G, 0, none⟩) n n]) (by simp [results, Tryz.f30, go_sem, z0]) rfl ⟨⟨_, rfl, hP⟩, (hB.setCell (by simp; omega) _).setCell (by simp) _⟩
end Go.Proofs.YtpkaoechbmbolaaGreatDoor

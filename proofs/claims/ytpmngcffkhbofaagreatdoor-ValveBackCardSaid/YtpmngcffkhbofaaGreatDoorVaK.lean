/- Package valve: before, Switched. -/
import Derived.Test.YtpmngcffkhbofaaGreatDoorVaH
import Derived.Lib.AppendZerosOnto
import Derived.Lib.Walk
import Derived.Maps.Own
import Derived.Maps.OwnOps
import Derived.Maps.OwnSet
import Derived.Maps.Views
namespace Go.Proofs.YtpmngcffkhbofaaGreatDoor
section
set_option linter.unusedSimpArgs false
set_option linter.unusedVariables false
open Go.RowKit
theorem Rw.takeA {α : Type} {n : Nat} {f : α → List Value} {w : World} {a : Option Addr} {N cap : Nat} {l : List α} (h : Rw n f w (.slice a N cap) l) (hN : N = l.length) (k : Nat) (hk : k ≤ N) : Rw n f w (.slice a k cap) (l.take k) := by
 subst hN
 obtain ⟨a', c, e, hc, h⟩ := h
 simp only [Value.slice.injEq] at e
 obtain ⟨rfl, _, rfl⟩ := e
 have hlen : (l.take k).length = k := by rw [List.length_take]; omega
 refine ⟨a, cap, by rw [hlen], by omega, fun h0 => ?_⟩
 obtain ⟨b, off, ha, h2⟩ := h (by omega)
 refine ⟨b, off, ha, fun j x hj i u hi => h2 j x ?_ i u hi⟩
 rw [List.getElem?_take] at hj
 split at hj
 ·exact hj
 ·cases hj
theorem Rw.dropA {α : Type} {n : Nat} {f : α → List Value} {w : World} {a : Option Addr} {N cap : Nat} {l : List α} (h : Rw n f w (.slice a N cap) l) (hN : N = l.length) (k : Nat) (hk : k ≤ N) : Rw n f w (.slice (a.map fun x => x.add (k * n)) (N - k) (cap - k)) (l.drop k) := by
 subst hN
 obtain ⟨a', c, e, hc, h⟩ := h
 simp only [Value.slice.injEq] at e
 obtain ⟨rfl, _, rfl⟩ := e
 refine ⟨_, cap - k, by rw [List.length_drop], by rw [List.length_drop]; omega, fun h0 => ?_⟩
 rw [List.length_drop] at h0
 obtain ⟨b, off, ha, h2⟩ := h (by omega)
 refine ⟨b, off + k * n, by rw [ha, Option.map_some, addr_add], fun j x hj i u hi => ?_⟩
 rw [List.getElem?_drop] at hj
 have := h2 (k + j) x hj i u hi
 rwa [show off + (k + j) * n + i = off + k * n + j * n + i by rw [Nat.add_mul]; omega] at this
theorem Tryz.enterBf1 (args : Array Value) (w : World) : Sem.run Tryz.prog (callFunc 126 args) w = .ok (.enter 126 args) w :=
 MuLone.run_callFunc_enter Tryz.func126 (by kernel_rfl) rfl args w
theorem before1_any (x y t : Int) (B : Nat) (w : World) (hB : w.cell? ⟨B, 0, none⟩ = some (.int .i64 t)) :
 Calls Tryz.prog 126 #[.agg #[.int .i64 x, .int .i64 y], .pointer (some ⟨B, 0, none⟩)] w fun r w' => r = .returned (.bool (decide (t ≤ x))) ∧ Below w.heap.size w w' := by
 have k1 := below_new w (.cells #[.int .i64 x, .int .i64 y] 104)
 have hB2 := cellb hB k1
 go_enter Tryz.func126, Tryz.ntmps126
 go_wp2
 go_ret
 exact ⟨rfl, k1⟩
/-- how many pulses are ahead of a tick. -/
def bfK (l : List P2) (t : Int) : Nat := l.findIdx fun x => decide (t ≤ x.1)
theorem bfK_le (l : List P2) (t : Int) : bfK l t ≤ l.length := List.findIdx_le_length
theorem findX_bfK (l : List P2) (t : Int) : (findX (fun x => decide (t ≤ x.1)) l < 0 → bfK l t = l.length) ∧ (¬ findX (fun x => decide (t ≤ x.1)) l < 0 → findX (fun x => decide (t ≤ x.1)) l = (bfK l t : Int)) := by
 unfold findX bfK
 cases h : l.findIdx? (fun x => decide (t ≤ x.1)) with
 | none =>
   refine ⟨fun _ => ?_, fun h => by simp at h⟩
   rw [List.findIdx?_eq_none_iff] at h
   exact List.findIdx_eq_length.2 h
 | some i =>
   refine ⟨fun h => by simp at h; omega, fun _ => ?_⟩
   rw [List.findIdx?_eq_some_iff_findIdx_eq] at h
   simp only [h.2]
set_option maxRecDepth 100000 in
set_option maxHeartbeats 1000000 in
theorem before_any (v : Value) (l : List P2) (t : Int) (w : World) (hl : l.length ≤ 1000000) (hv : Prs w v l) :
 Calls Tryz.prog 61 #[v, .int .i64 t] w fun r w' => (∃ u1 u2, r = .returned (.tuple #[u1, u2]) ∧ Prs w' u1 (l.take (bfK l t)) ∧ Prs w' u2 (l.drop (bfK l t))) ∧ Below w.heap.size w w' := by
 have TX := Lib.hid (fun (C : Nat) (W : World) (hc : W.cell? ⟨C, 0, none⟩ = some (.int .i64 t)) (h : Prs W v l) => IndexP_any 126 #[.pointer (some ⟨C, 0, none⟩)] Tryz.enterBf1 (fun x => decide (t ≤ x.1)) v l W (by omega) h (fun x _ w1 hE => before1_any x.1 x.2 t C w1 (cellb hc hE)))
 obtain ⟨hf1, hf2⟩ := findX_bfK l t
 have hle := bfK_le l t
 obtain ⟨k, hk⟩ : ∃ k, k = bfK l t := ⟨_, rfl⟩
 obtain ⟨X, hX⟩ : ∃ X, X = findX (fun x => decide (t ≤ x.1)) l := ⟨_, rfl⟩
 rw [← hX] at TX hf1 hf2
 rw [← hk] at hf1 hf2 hle ⊢
 clear hX hk
 obtain ⟨a, cp, rfl, hcp, -⟩ := id hv
 have HV := Lib.hid hv
 obtain ⟨n, hn⟩ : ∃ n, n = l.length := ⟨_, rfl⟩
 have HN := Lib.hid hn
 rw [← hn] at hle hf1 hl hcp HV TX ⊢
 clear hn hv
 have HF1 := Lib.hid hf1
 have HF2 := Lib.hid hf2
 clear hf1 hf2
 go_enter Tryz.func61, Tryz.ntmps61
 go_upto_region 1 with fail
 obtain ⟨W1, hW1⟩ : ∃ v, v = World.alloc w (Obj.cells #[.int .i64 t] 3) := ⟨_, rfl⟩
 have kW1 : Below w.heap.size w W1 := by rw [hW1]; exact below_new _ _
 have iW1 : Blk W1 (w.heap.size) 3 [.int .i64 t] := by rw [hW1]; exact Blk.new _ _ _
 have sW1 : W1.heap.size = w.heap.size + 1 := by rw [hW1]; simp
 rw [← hW1]
 clear hW1
 have c0 := iW1.cell (j := 0) (v := .int .i64 t) rfl
 have hB := kW1
 have hv1 := HV.out.carry kW1
 clear iW1 sW1 kW1
 go_wp2_with fail
 refine (TX.out _ W1 c0 hv1).mono ?_
 rintro e w2 ⟨rfl, hb2⟩
 have hv2 := hv1.carry hb2
 replace hB := bthen hB hb2
 clear c0 hv1 hb2 TX HV
 by_cases h0 : X < 0
 ·obtain rfl := HF1.out h0
  clear HF1 HF2
  have hk3 : (k : Int) ≤ (cp : Int) := by omega
  have hdr : l.drop k = [] := List.drop_of_length_le (by have := HN.out; omega)
  have HDR := Lib.hid hdr
  clear hdr
  go_upto_region 4 with fail
  refine wp_region_E 99 (by kernel_rfl) ?_
  obtain ⟨wz, hwz⟩ : ∃ v, v = w2.drew := ⟨_, rfl⟩
  rw [← hwz]
  have hlz : Below w2.heap.size w2 wz := by rw [hwz]; exact (Below.refl _ _).drew
  have hbz := bthen hB hlz
  have hv2 := hv2.carry hlz
  clear hwz hlz
  refine zV 0 ⟨some 14, .move (.tmp 0), 30, "valve.go:183", #[], none⟩ rfl ?_
  simp only [Act.put, zS]
  refine zV 1 ⟨some 15, .move (.tmp 6), 3, "valve.go:183", #[], none⟩ rfl ?_
  simp only [Act.put, zS]
  refine zV 2 ⟨some 16, .slice 30 (.tmp 14) none (some (.tmp 15)) none, 30, "valve.go:183", #[⟨0, .data⟩, ⟨1, .data⟩], none⟩ rfl ?_
  simp only [Act.put, zS]
  refine zV 3 ⟨some 17, .move (.tmp 0), 30, "valve.go:183", #[], none⟩ rfl ?_
  simp only [Act.put, zS]
  refine zV 4 ⟨some 18, .move (.tmp 6), 3, "valve.go:183", #[], none⟩ rfl ?_
  simp only [Act.put, zS]
  refine zV 5 ⟨some 19, .slice 30 (.tmp 17) (some (.tmp 18)) none none, 30, "valve.go:183", #[⟨3, .data⟩, ⟨4, .data⟩], none⟩ rfl ?_
  simp only [Act.put, zS]
  refine zV 6 ⟨some 4, .assign (.tmp 16), 30, "valve.go:183", #[⟨2, .data⟩, ⟨0, .phase⟩, ⟨1, .phase⟩, ⟨2, .phase⟩, { on := 3, ground := Ground.textOnly Departure.lateStores }, { on := 4, ground := Ground.textOnly Departure.lateStores }, { on := 5, ground := Ground.textOnly Departure.lateStoresUnsure }], none⟩ rfl ?_
  simp only [Act.put, zS]
  refine zV 7 ⟨some 5, .assign (.tmp 19), 30, "valve.go:183", #[⟨5, .data⟩, ⟨6, .chain⟩, ⟨0, .phase⟩, ⟨1, .phase⟩, ⟨2, .phase⟩, ⟨3, .phase⟩, ⟨4, .phase⟩, ⟨5, .phase⟩, ⟨6, .phase⟩], none⟩ rfl ?_
  simp only [Act.put, zS]
  refine wpAnyE_done (by kernel_rfl) (fun wy1 hE => ?_) _
  have hbz1 := bthen hbz hE
  have hv2 := hv2.carry hE
  clear hE
  have hB := hbz1
  obtain ⟨W9, hW9⟩ : ∃ v, v = wy1 := ⟨_, rfl⟩
  rw [← hW9] at hB hv2 ⊢
  clear hW9
  go_wp2
  ·go_ret2
   subst h
   exact ⟨⟨_, _, rfl, hv2.takeA HN.out cp (by omega), by rw [HDR.out]; exact Rw.nil _ _ _ _ _⟩, hB⟩
  ·go_ret2
   exact ⟨⟨_, _, rfl, hv2.takeA HN.out k (by omega), by rw [HDR.out]; exact Rw.nil _ _ _ _ _⟩, hB⟩
 ·obtain rfl := HF2.out (by omega)
  clear HF1 HF2
  have hk2 : (k : Int) ≤ (n : Int) := by omega
  have hk3 : (n : Int) ≤ (cp : Int) := by omega
  have hk4 : (k : Int) ≤ (cp : Int) := by omega
  go_upto_region 4 with fail
  refine wp_region_E 99 (by kernel_rfl) ?_
  obtain ⟨wz, hwz⟩ : ∃ v, v = w2.drew := ⟨_, rfl⟩
  rw [← hwz]
  have hlz : Below w2.heap.size w2 wz := by rw [hwz]; exact (Below.refl _ _).drew
  have hbz := bthen hB hlz
  have hv2 := hv2.carry hlz
  clear hwz hlz
  refine zV 0 ⟨some 14, .move (.tmp 0), 30, "valve.go:183", #[], none⟩ rfl ?_
  simp only [Act.put, zS]
  refine zV 1 ⟨some 15, .move (.tmp 6), 3, "valve.go:183", #[], none⟩ rfl ?_
  simp only [Act.put, zS]
  refine zV 2 ⟨some 16, .slice 30 (.tmp 14) none (some (.tmp 15)) none, 30, "valve.go:183", #[⟨0, .data⟩, ⟨1, .data⟩], none⟩ rfl ?_
  simp only [Act.put, zS]
  refine zV 3 ⟨some 17, .move (.tmp 0), 30, "valve.go:183", #[], none⟩ rfl ?_
  simp only [Act.put, zS]
  refine zV 4 ⟨some 18, .move (.tmp 6), 3, "valve.go:183", #[], none⟩ rfl ?_
  simp only [Act.put, zS]
  refine zV 5 ⟨some 19, .slice 30 (.tmp 17) (some (.tmp 18)) none none, 30, "valve.go:183", #[⟨3, .data⟩, ⟨4, .data⟩], none⟩ rfl ?_
  simp only [Act.put, zS]
  refine zV 6 ⟨some 4, .assign (.tmp 16), 30, "valve.go:183", #[⟨2, .data⟩, ⟨0, .phase⟩, ⟨1, .phase⟩, ⟨2, .phase⟩, { on := 3, ground := Ground.textOnly Departure.lateStores }, { on := 4, ground := Ground.textOnly Departure.lateStores }, { on := 5, ground := Ground.textOnly Departure.lateStoresUnsure }], none⟩ rfl ?_
  simp only [Act.put, zS]
  refine zV 7 ⟨some 5, .assign (.tmp 19), 30, "valve.go:183", #[⟨5, .data⟩, ⟨6, .chain⟩, ⟨0, .phase⟩, ⟨1, .phase⟩, ⟨2, .phase⟩, ⟨3, .phase⟩, ⟨4, .phase⟩, ⟨5, .phase⟩, ⟨6, .phase⟩], none⟩ rfl ?_
  simp only [Act.put, zS]
  refine wpAnyE_done (by kernel_rfl) (fun wy1 hE => ?_) _
  have hbz1 := bthen hbz hE
  have hv2 := hv2.carry hE
  clear hE
  have hB := hbz1
  obtain ⟨W9, hW9⟩ : ∃ v, v = wy1 := ⟨_, rfl⟩
  rw [← hW9] at hB hv2 ⊢
  clear hW9
  go_wp2
  ·go_ret2
   subst h
   refine ⟨⟨_, _, rfl, hv2.takeA HN.out cp (by omega), ?_⟩, hB⟩
   rw [List.drop_of_length_le (by have := HN.out; omega)]
   have : n - cp = 0 := by omega
   show Prs _ (.slice a (n - cp) 0) []
   rw [this]
   exact Rw.nil _ _ _ _ _
  ·go_ret2
   exact ⟨⟨_, _, rfl, hv2.takeA HN.out k (by omega), hv2.dropA HN.out k (by omega)⟩, hB⟩
/-- an empty slice appended: nothing. -/
theorem run_append_zero {P : Program} (w : World) (t ty e : TypeId) (i : TypeInfo) (z : Value) (ht : P.underlying t = some (.slice e)) (hi : P.info? e = some i) (hz : i.zero = some z) (a xa : Option Addr) (n cp c : Nat) (hn : n ≤ cp) (h63 : n ≤ maxLen) :
 (Builtin.append_ #[t, t] ty #[.slice a n cp, .slice xa 0 c]).run P w = .ok (.slice a n cp) w := by
 unfold maxLen at h63
 have hf : (Builtin.firstCells i.size 0 (.slice xa 0 c)).run P w = .ok #[] w := by
  cases xa with
  | none => exact run_firstCells_none w i.size 0 0 c
  | some a => exact run_firstCells_some w i.size 0 a 0 c [] (by simp) (by simp)
 cases a with
 | none => simp [Builtin.append_, run_underlying ht, sizeOf, typeInfo, hi, Builtin.lenOf, hf, storeCells, hn]
 | some b => simp [Builtin.append_, run_underlying ht, sizeOf, typeInfo, hi, Builtin.lenOf, hf, storeCells, hn]
theorem wpList_append_zero {P : Program} {ops : Array Oper} {rest : List Oper} {o : Oper} {a : Act} {w : World} {Q : Exit → Act → World → Prop} (hgd : o.guard = none) (s x : Operand) (t e : TypeId)
 (ho : o.op = .call { callee := .builtin .append, args := #[s, x], argTypes := #[t, t] })
 (i : TypeInfo) (z : Value) (ht : P.underlying t = some (.slice e)) (hi : P.info? e = some i) (hz : i.zero = some z)
 (sa xa : Option Addr) (n cp nx c : Nat) (hn : n ≤ cp) (h63 : n ≤ maxLen) (hs : a.eval s = .slice sa n cp) (hx : a.eval x = .slice xa nx c) (hnx : nx = 0)
 (h : wpList P ops Q rest (a.put o.dst (.slice sa n cp)) w) : wpList P ops Q (o :: rest) a w := by
 subst hnx
 refine wpList_plain hgd fun K hK => ?_
 have hr := run_append_zero (P := P) w t o.type e i z ht hi hz sa xa n cp c hn h63
 unfold Oper.wp execOp
 simp only [ho, resolve, invoke, builtin, Sem.run_bind, Sem.run_pure, Result.andThen_ok, List.map_toArray, List.map_cons, List.map_nil, hs, hx, hr]
 exact hK _ _ h
theorem own_cap {w : World} {base e size n : Nat} {a : Option Addr} {m c : Nat} {xs : List Value} (h : w.ownsRow base e size (.slice a m c) n xs) : m = n ∧ n ≤ c ∧ c ≤ maxLen := by
 rcases h.2 with ⟨h, h0⟩ | ⟨g, cap, cur, h, _, _, hnc, hcm, _⟩
 ·simp only [Value.slice.injEq] at h
  obtain ⟨-, h1, h2⟩ := h
  unfold maxLen
  omega
 ·simp only [Value.slice.injEq] at h
  obtain ⟨-, h1, h2⟩ := h
  subst h1; subst h2
  exact ⟨rfl, hnc, hcm⟩
/-- the cells of a list that a slice holds. -/
theorem Rw.src {α : Type} {n : Nat} {f : α → List Value} (hf : ∀ x, (f x).length = n) (hn : 0 < n) {w : World} {b off : Nat} {N cap : Nat} {l : List α} (h : Rw n f w (.slice (some ⟨b, off, none⟩) N cap) l) (h0 : 0 < l.length) (j : Nat) (u : Value) (hj : (l.flatMap f)[j]? = some u) : w.cell? ((⟨b, off, none⟩ : Addr).add j) = some u := by
 obtain ⟨b', off', cap', e, hc⟩ := h.head h0
 simp only [Value.slice.injEq, Option.some.injEq, Addr.mk.injEq] at e
 obtain ⟨⟨rfl, rfl, -⟩, -, -⟩ := e
 have hlt : j < l.length * n := by
  have := (List.getElem?_eq_some_iff.1 hj).1
  rwa [flat_len hf] at this
 have hd : j / n < l.length := Nat.div_lt_of_lt_mul (by rw [Nat.mul_comm]; exact hlt)
 obtain ⟨x, hx⟩ : ∃ x, l[j / n]? = some x := ⟨_, List.getElem?_eq_getElem hd⟩
 have hm : j / n * n + j % n = j := by rw [Nat.mul_comm]; exact Nat.div_add_mod j n
 have hml : j % n < (f x).length := by rw [hf]; exact Nat.mod_lt _ hn
 obtain ⟨y, hy⟩ : ∃ y, (f x)[j % n]? = some y := ⟨_, List.getElem?_eq_getElem hml⟩
 have h1 := flat_get hf l (j / n) x hx (j % n) y hy
 rw [hm, hj] at h1
 cases h1
 have := hc (j / n) x hx (j % n) u hy
 rw [addr_add]
 rwa [show off + j / n * n + j % n = off + j by omega] at this
theorem Rw.len {α : Type} {n : Nat} {f : α → List Value} {w : World} {a : Option Addr} {N cap : Nat} {l : List α} (h : Rw n f w (.slice a N cap) l) : N = l.length := by
 obtain ⟨a', c, e, -, -⟩ := h
 simp only [Value.slice.injEq] at e
 exact e.2.1
theorem pV_one (l : List P2) : ∀ v ∈ l.flatMap pV, v.oneCell' = true := fun v hv => by
 obtain ⟨x, _, hx⟩ := List.mem_flatMap.1 hv
 simp [pV] at hx
 rcases hx with rfl | rfl <;> rfl
set_option maxRecDepth 100000 in
set_option maxHeartbeats 2000000 in
theorem Grow_nil (n : Nat) (w : World) (hn : n ≤ 1000000) :
 Calls Tryz.prog 127 #[.slice none 0 0, .int .i64 n] w fun r w' => (∃ u, r = .returned u ∧ w'.ownsRow w.heap.size 104 2 u 0 ([] : List Value)) ∧ Below w.heap.size w w' := by
 rcases Nat.eq_zero_or_pos n with h0 | h0
 ·subst h0
  go_enter Tryz.func127, Tryz.ntmps127
  go_wp2
  go_ret
  exact ⟨⟨_, rfl, World.ownsRow_nil _ _ _ _⟩, Below.refl _ _⟩
 ·obtain ⟨i0, hi, hz0, hz1, hz2⟩ := info_parts Tryz.infZvalvePulse
  have hti : Tryz.prog.underlying 3 = some (.int .i64) := Tryz.underlying3
  have hold : (Builtin.firstCells i0.size 0 (.slice none 0 0)).run Tryz.prog w.drew = .ok ([] : List Value).toArray w.drew := run_firstCells_none w.drew i0.size 0 0 0
  have hnc : Builtin.nextslicecap (0 + n) 0 = n := by rw [Nat.zero_add]; exact nextslicecap_zero h0
  have hrz : ∀ ty, (Builtin.append_ #[30, 3] ty #[.slice none 0 0, .int .i64 n]).run Tryz.prog w = _ := fun ty => Lib.run_append_grow_zeros w 30 3 ty 104 i0 _ .i64 .i64 Tryz.undZvalvePulse hti hi hz0 none 0 0 [] hold n h0 (by rw [hz1]; decide) (by omega) (by omega) (by rw [hz2]; omega) (by rw [hnc, hz2]; omega)
  rw [Nat.zero_add] at hrz
  obtain ⟨C, hC⟩ : ∃ C, C = grownCap w n 0 104 := ⟨_, rfl⟩
  have hCn : n ≤ C := by rw [hC]; exact grownCap_ge w _ _ _
  have hCm : C ≤ maxLen := by rw [hC]; exact grownCap_le_maxLen w n 0 _ (by unfold maxLen; omega)
  rw [← hC] at hrz
  obtain ⟨W, hW⟩ : ∃ W, W = (w.drew.alloc (.cells (([] : List Value).toArray ++ Builtin.zeroCells (Value.agg #[.int .i64 0, .int .i64 0]).cells n ++ Builtin.zeroCells (Value.agg #[.int .i64 0, .int .i64 0]).cells (C - n)) 104)) := ⟨_, rfl⟩
  have hown : W.ownsRow w.heap.size 104 2 (.slice (some ⟨w.heap.size, 0, none⟩) 0 C) 0 [] := by
   refine ⟨rfl, .inr ⟨w.heap.size, C, _, rfl, Nat.le_refl _, by rw [hW]; exact heap_alloc_new w.drew _, by omega, hCm, ?_, ?_⟩⟩
   ·simp [size_zeroCells, Value.cells]; omega
   ·simp
  have hbel : Below w.heap.size w W := by rw [hW]; exact (Below.refl _ _).drew.alloc (Nat.le_refl _) _
  rw [← hW] at hrz
  unfold maxLen at hCm
  clear hW hC hold hnc hi hz0 hz1 hz2 hti
  have h1 : ¬ ((n : Int) < 0) := by omega
  have h4 : (0 : Int) < (n : Int) := by omega
  go_enter Tryz.func127, Tryz.ntmps127
  go_wp2_with (at_builtin; refine Lib.wpList_append_run _ rfl _ _ _ _ rfl _ _ rfl rfl _ _ (hrz _) ?_)
  all_goals (go_ret; exact ⟨⟨_, rfl, hown⟩, hbel⟩)
/-- what has been joined after k lists of two. -/
def catK (l1 l2 : List P2) : Nat → List P2
 | 0 => []
 | 1 => l1
 | _ => l1 ++ l2
set_option maxRecDepth 100000 in
set_option maxHeartbeats 4000000 in
theorem Concat2_any (B : Nat) (a1 a2 : Option Addr) (n1 c1 n2 c2 : Nat) (l1 l2 : List P2) (w : World) (h0 : w.cell? ⟨B, 0, none⟩ = some (.slice a1 n1 c1)) (h1 : w.cell? ⟨B, 1, none⟩ = some (.slice a2 n2 c2)) (hv1 : Prs w (.slice a1 n1 c1) l1) (hv2 : Prs w (.slice a2 n2 c2) l2) (hl : n1 + n2 ≤ 1000000) :
 Calls Tryz.prog 62 #[.slice (some ⟨B, 0, none⟩) 2 2] w fun r w' => (∃ u, r = .returned u ∧ w'.ownsRow w.heap.size 104 2 u (l1 ++ l2).length ((l1 ++ l2).flatMap pV)) ∧ Below w.heap.size w w' := by
 have TG := Lib.hid (fun W => Grow_nil (n1 + n2) W hl)
 have HN1 := Lib.hid hv1.len
 have HN2 := Lib.hid hv2.len
 obtain ⟨i0, hi, hz0, hz1, hz2⟩ := info_parts Tryz.infZvalvePulse
 have HV1 := Lib.hid hv1
 have HV2 := Lib.hid hv2
 clear hv1 hv2
 have q1 : IntKind.i64.wrap ((n1 : Int) + (n2 : Int)) = (n1 : Int) + (n2 : Int) := IntWalk.i64_in _ (by omega)
 have q2 : ((n1 + n2 : Nat) : Int) = (n1 : Int) + (n2 : Int) := by push_cast; rfl
 rw [q2] at TG
 clear q2
 go_enter Tryz.func62, Tryz.ntmps62
 go_wp2_with fail
 go_loopw [3, 11] (fun s i wr => wr = w ∧ ((s = .int .i64 0 ∧ i = .int .i64 0) ∨ (s = .int .i64 n1 ∧ i = .int .i64 1) ∨ (s = .int .i64 ((n1 : Int) + (n2 : Int)) ∧ i = .int .i64 2))) (fun _ i _ => 2 - (intOf i).toNat)
 case atStart => exact ⟨rfl, .inl ⟨rfl, rfl⟩⟩
 case round =>
  obtain ⟨hw, hr⟩ := hrel
  replace hw := hw.symm
  subst hw
  rcases hr with ⟨rfl, rfl⟩ | ⟨rfl, rfl⟩ | ⟨rfl, rfl⟩
  ·go_wp2
   go_roundw
   case rel => exact ⟨by trivial, .inr (.inl ⟨by simp, by go_num⟩)⟩
   case measure => simp [intOf]
  ·go_wp2
   go_roundw
   case rel => exact ⟨by trivial, .inr (.inr ⟨by simp, by go_num⟩)⟩
   case measure => simp [intOf]
  ·go_wp2_with fail
   refine (TG.out w).mono ?_
   rintro e w2 ⟨⟨u, rfl, hu⟩, hb2⟩
   go_wp2_with fail
   go_loopw [6, 27] (fun u i wx => ∃ k : Nat, k ≤ 2 ∧ i = .int .i64 k ∧ wx.ownsRow w.heap.size 104 2 u (catK l1 l2 k).length ((catK l1 l2 k).flatMap pV) ∧ Below w.heap.size w wx) (fun _ i _ => 2 - (intOf i).toNat)
   case atStart => exact ⟨0, by omega, rfl, hu, hb2⟩
   case round =>
    clear hu hb2 TG
    obtain ⟨k, hk, rfl, hown, hbel⟩ := hrel
    obtain rfl | rfl | rfl : k = 0 ∨ k = 1 ∨ k = 2 := by omega
    ·have hcx := cellb h0 hbel
     obtain ⟨sa, sc, rfl⟩ := own_slice hown
     obtain ⟨-, hcap, hcm⟩ := own_cap hown
     rcases Nat.eq_zero_or_pos n1 with hz | hz
     ·have hle : l1 = [] := List.length_eq_zero_iff.1 (by rw [← HN1.out]; exact hz)
      have HZ := Lib.hid hz
      obtain ⟨m, hm⟩ : ∃ m, m = (catK l1 l2 0).length := ⟨_, rfl⟩
      have hown2 : wr.ownsRow w.heap.size 104 2 (.slice sa m sc) (catK l1 l2 1).length ((catK l1 l2 1).flatMap pV) := by
       have e : catK l1 l2 1 = catK l1 l2 0 := by simp [catK, hle]
       rw [e, hm]; exact hown
      rw [← hm] at hcap ⊢
      clear hown hm hz hle
      go_wp2_with (at_builtin; refine wpList_append_zero rfl _ _ 30 104 rfl i0 _ Tryz.undZvalvePulse hi hz0 _ _ _ _ _ _ hcap (by unfold maxLen at *; omega) rfl rfl HZ.out ?_)
      go_roundw
      case rel => exact ⟨1, by omega, by go_num, hown2, hbel⟩
      case measure => simp [intOf]
     ·obtain ⟨b, off, cp, he, -⟩ := HV1.out.head (by rw [← HN1.out]; exact hz)
      simp only [Value.slice.injEq] at he
      obtain ⟨rfl, -, rfl⟩ := he
      have hsrc := fun j u hj => (by have := HV1.out.src pV_len (by decide) (by rw [← HN1.out]; exact hz) j u hj; rw [addr_add] at this ⊢; exact cellb this hbel : wr.cell? ((⟨b, off, none⟩ : Addr).add j) = some u)
      have HS := Lib.hid (fun (j : Nat) (u : Value) (hj : (l1.flatMap pV)[j]? = some u) => (show wr.cell? ((⟨b, off, none⟩ : Addr).add j) = some u from hsrc j u hj))
      have HFL := Lib.hid (show (l1.flatMap pV).length = n1 * 2 by rw [flat_len pV_len, HN1.out])
      have HONE := Lib.hid (pV_one l1)
      obtain ⟨m, hm⟩ : ∃ m, m = (catK l1 l2 0).length := ⟨_, rfl⟩
      have hm9 : m ≤ n1 + n2 := by
       have := HN1.out
       have := HN2.out
       rw [hm]; simp [catK]
      have HM := Lib.hid hm
      rw [← hm] at hown ⊢
      clear hsrc hm hcap
      go_wp2_with (at_builtin; refine wpList_append_own _ rfl _ _ 30 rfl w.heap.size 104 i0 (.agg #[.int .i64 0, .int .i64 0]) 2 16 Tryz.undZvalvePulse hi hz0 hz1 hz2 rfl (by decide) (.slice sa m sc) m _ rfl hown ⟨b, off, none⟩ n1 c1 (l1.flatMap pV) rfl HFL.out HS.out HONE.out (by unfold maxLen; omega) (by omega) hbel.size ?_; intro v7 w8 hown' hgrow _)
      have hbelN : Below w.heap.size w w8 := hbel.trans (below_grow hown hbel.size hgrow)
      have hownN : w8.ownsRow w.heap.size 104 2 v7 (catK l1 l2 1).length ((catK l1 l2 1).flatMap pV) := by
       have e : catK l1 l2 1 = catK l1 l2 0 ++ l1 := by simp [catK]
       rw [e, List.length_append, List.flatMap_append, ← HM.out, ← HN1.out]
       exact hown'
      clear hown hown' hgrow hbel hcx
      go_wp2
      go_roundw
      case rel => exact ⟨1, by omega, by go_num, hownN, hbelN⟩
      case measure => simp [intOf]
    ·have hcx := cellb h1 hbel
     obtain ⟨sa, sc, rfl⟩ := own_slice hown
     obtain ⟨-, hcap, hcm⟩ := own_cap hown
     rcases Nat.eq_zero_or_pos n2 with hz | hz
     ·have hle : l2 = [] := List.length_eq_zero_iff.1 (by rw [← HN2.out]; exact hz)
      have HZ := Lib.hid hz
      obtain ⟨m, hm⟩ : ∃ m, m = (catK l1 l2 1).length := ⟨_, rfl⟩
      have hown2 : wr.ownsRow w.heap.size 104 2 (.slice sa m sc) (catK l1 l2 2).length ((catK l1 l2 2).flatMap pV) := by
       have e : catK l1 l2 2 = catK l1 l2 1 := by simp [catK, hle]
       rw [e, hm]; exact hown
      rw [← hm] at hcap ⊢
      clear hown hm hz hle
      go_wp2_with (at_builtin; refine wpList_append_zero rfl _ _ 30 104 rfl i0 _ Tryz.undZvalvePulse hi hz0 _ _ _ _ _ _ hcap (by unfold maxLen at *; omega) rfl rfl HZ.out ?_)
      go_roundw
      case rel => exact ⟨2, by omega, by go_num, hown2, hbel⟩
      case measure => simp [intOf]
     ·obtain ⟨b, off, cp, he, -⟩ := HV2.out.head (by rw [← HN2.out]; exact hz)
      simp only [Value.slice.injEq] at he
      obtain ⟨rfl, -, rfl⟩ := he
      have hsrc := fun j u hj => (by have := HV2.out.src pV_len (by decide) (by rw [← HN2.out]; exact hz) j u hj; rw [addr_add] at this ⊢; exact cellb this hbel : wr.cell? ((⟨b, off, none⟩ : Addr).add j) = some u)
      have HS := Lib.hid (fun (j : Nat) (u : Value) (hj : (l2.flatMap pV)[j]? = some u) => (show wr.cell? ((⟨b, off, none⟩ : Addr).add j) = some u from hsrc j u hj))
      have HFL := Lib.hid (show (l2.flatMap pV).length = n2 * 2 by rw [flat_len pV_len, HN2.out])
      have HONE := Lib.hid (pV_one l2)
      obtain ⟨m, hm⟩ : ∃ m, m = (catK l1 l2 1).length := ⟨_, rfl⟩
      have hm9 : m ≤ n1 + n2 := by
       have := HN1.out
       have := HN2.out
       rw [hm]; simp [catK]; omega
      have HM := Lib.hid hm
      rw [← hm] at hown ⊢
      clear hsrc hm hcap
      go_wp2_with (at_builtin; refine wpList_append_own _ rfl _ _ 30 rfl w.heap.size 104 i0 (.agg #[.int .i64 0, .int .i64 0]) 2 16 Tryz.undZvalvePulse hi hz0 hz1 hz2 rfl (by decide) (.slice sa m sc) m _ rfl hown ⟨b, off, none⟩ n2 c2 (l2.flatMap pV) rfl HFL.out HS.out HONE.out (by unfold maxLen; omega) (by omega) hbel.size ?_; intro v7 w8 hown' hgrow _)
      have hbelN : Below w.heap.size w w8 := hbel.trans (below_grow hown hbel.size hgrow)
      have hownN : w8.ownsRow w.heap.size 104 2 v7 (catK l1 l2 2).length ((catK l1 l2 2).flatMap pV) := by
       have e : catK l1 l2 2 = catK l1 l2 1 ++ l2 := by simp [catK]
       rw [e, List.length_append, List.flatMap_append, ← HM.out, ← HN2.out]
       exact hown'
      clear hown hown' hgrow hbel hcx
      go_wp2
      go_roundw
      case rel => exact ⟨2, by omega, by go_num, hownN, hbelN⟩
      case measure => simp [intOf]
    ·go_wp2
     go_ret
     exact ⟨⟨_, rfl, hown⟩, hbel⟩
end
section
set_option linter.unusedSimpArgs false
set_option linter.unusedVariables false
open Go.RowKit
def swtL (la lb : List P2) (t : Int) : List P2 := la.take (bfK la t) ++ lb.drop (bfK lb t)
def swtE1 (ca cb : Int) (la lb : List P2) (t : Int) : Int := firstE [logE ca la, logE cb lb, withinE t 0 100000]
def swtE (ca cb : Int) (la lb : List P2) (t : Int) : Int := if swtE1 ca cb la lb t = 0 then (if 256 < (la.take (bfK la t)).length + (lb.drop (bfK lb t)).length then 5 else 0) else swtE1 ca cb la lb t
def swtR (ca cb : Int) (la lb : List P2) (t : Int) : List P2 := if swtE ca cb la lb t = 0 then swtL la lb t else []
set_option maxRecDepth 100000 in
set_option maxHeartbeats 4000000 in
theorem Switched_any (ca cb t : Int) (a1 a2 : Option Addr) (n1 c1 n2 c2 : Nat) (la lb : List P2) (w : World) (hla : la.length ≤ 500000) (hlb : lb.length ≤ 500000) (hva : Prs w (.slice a1 n1 c1) la) (hvb : Prs w (.slice a2 n2 c2) lb) :
 Calls Tryz.prog 23 #[.agg #[.int .i64 ca, .slice a1 n1 c1], .agg #[.int .i64 cb, .slice a2 n2 c2], .int .i64 t] w fun r w' => (∃ u, r = .returned (.tuple #[u, .int .i64 (swtE ca cb la lb t)]) ∧ Prs w' u (swtR ca cb la lb t)) ∧ Below w.heap.size w w' := by
 have T0 := Lib.hid (fun W (h : Prs W (.slice a1 n1 c1) la) => logCheck_any ca a1 n1 c1 la W (by omega) h)
 have T1 := Lib.hid (fun W (h : Prs W (.slice a2 n2 c2) lb) => logCheck_any cb a2 n2 c2 lb W (by omega) h)
 have T2 := Lib.hid (fun W => within_any t 0 100000 W)
 have TA := Lib.hid (fun W (h : Prs W (.slice a1 n1 c1) la) => before_any (.slice a1 n1 c1) la t W (by omega) h)
 have TB := Lib.hid (fun W (h : Prs W (.slice a2 n2 c2) lb) => before_any (.slice a2 n2 c2) lb t W (by omega) h)
 have hE : swtE1 ca cb la lb t = firstE [logE ca la, logE cb lb, withinE t 0 100000] := rfl
 have hla1 : (la.take (bfK la t)).length ≤ 500000 := by rw [List.length_take]; omega
 have hlb1 : (lb.drop (bfK lb t)).length ≤ 500000 := by rw [List.length_drop]; omega
 have hr0 : swtE1 ca cb la lb t ≠ 0 → swtE ca cb la lb t = swtE1 ca cb la lb t ∧ swtR ca cb la lb t = [] := fun h => by
  have : swtE ca cb la lb t = swtE1 ca cb la lb t := by unfold swtE; rw [if_neg h]
  exact ⟨this, by unfold swtR; rw [this, if_neg h]⟩
 have hr1 : swtE1 ca cb la lb t = 0 → 256 < (la.take (bfK la t)).length + (lb.drop (bfK lb t)).length → swtE ca cb la lb t = 5 ∧ swtR ca cb la lb t = [] := fun h h2 => by
  have : swtE ca cb la lb t = 5 := by unfold swtE; rw [if_pos h, if_pos h2]
  exact ⟨this, by unfold swtR; rw [this, if_neg (by decide)]⟩
 have hr2 : swtE1 ca cb la lb t = 0 → ¬ 256 < (la.take (bfK la t)).length + (lb.drop (bfK lb t)).length → swtE ca cb la lb t = 0 ∧ swtR ca cb la lb t = la.take (bfK la t) ++ lb.drop (bfK lb t) := fun h h2 => by
  have : swtE ca cb la lb t = 0 := by unfold swtE; rw [if_pos h, if_neg h2]
  exact ⟨this, by unfold swtR; rw [this, if_pos rfl]; rfl⟩
 obtain ⟨e0, he0⟩ : ∃ e, e = logE ca la := ⟨_, rfl⟩
 obtain ⟨e1, he1⟩ : ∃ e, e = logE cb lb := ⟨_, rfl⟩
 obtain ⟨e2, he2⟩ : ∃ e, e = withinE t 0 100000 := ⟨_, rfl⟩
 rw [← he0] at T0 hE
 rw [← he1] at T1 hE
 rw [← he2] at T2 hE
 have TF := Lib.hid (fun (u : Value) (W : World) (h : Ints W u [e0, e1, e2]) => first_any u _ W (by simp [maxLen]) h)
 rw [← hE] at TF
 obtain ⟨E, hEE⟩ : ∃ E, E = swtE1 ca cb la lb t := ⟨_, rfl⟩
 obtain ⟨E2, hE2⟩ : ∃ E, E = swtE ca cb la lb t := ⟨_, rfl⟩
 obtain ⟨R, hR⟩ : ∃ R, R = swtR ca cb la lb t := ⟨_, rfl⟩
 rw [← hEE] at TF hr0 hr1 hr2
 rw [← hR] at hr0 hr1 hr2 ⊢
 rw [← hE2] at hr0 hr1 hr2 ⊢
 generalize la.take (bfK la t) = L1 at *
 generalize lb.drop (bfK lb t) = L2 at *
 have HR0 := Lib.hid hr0
 have HR1 := Lib.hid hr1
 have HR2 := Lib.hid hr2
 clear hE he0 he1 he2 hEE hE2 hR hr0 hr1 hr2
 go_enter Tryz.func23, Tryz.ntmps23
 go_upto_region 1 with fail
 obtain ⟨W1, hW1⟩ : ∃ v, v = World.alloc w (Obj.cells #[.int .i64 ca, .slice a1 n1 c1] 32) := ⟨_, rfl⟩
 have kW1 : Below w.heap.size w W1 := by rw [hW1]; exact below_new _ _
 have iW1 : Blk W1 (w.heap.size) 32 [.int .i64 ca, .slice a1 n1 c1] := by rw [hW1]; exact Blk.new _ _ _
 have sW1 : W1.heap.size = w.heap.size + 1 := by rw [hW1]; simp
 rw [← hW1]
 clear hW1
 obtain ⟨W2, hW2⟩ : ∃ v, v = World.alloc W1 (Obj.cells #[.int .i64 cb, .slice a2 n2 c2] 32) := ⟨_, rfl⟩
 have kW2 : Below W1.heap.size W1 W2 := by rw [hW2]; exact below_new _ _
 have iW2 : Blk W2 (w.heap.size + 1) 32 [.int .i64 cb, .slice a2 n2 c2] := by rw [hW2, ← sW1]; exact Blk.new _ _ _
 have sW2 : W2.heap.size = w.heap.size + 1 + 1 := by rw [hW2]; simp [sW1]
 rw [← hW2]
 clear hW2
 have hB := bthen kW1 kW2
 have i1 := iW1.carry kW2
 have a0 := i1.cell (j := 0) (v := .int .i64 ca) rfl
 have a1' := i1.cell (j := 1) (v := .slice a1 n1 c1) rfl
 have b0 := iW2.cell (j := 0) (v := .int .i64 cb) rfl
 have b1 := iW2.cell (j := 1) (v := .slice a2 n2 c2) rfl
 replace hva := hva.carry hB
 replace hvb := hvb.carry hB
 clear iW1 sW1 kW1 iW2 sW2 kW2 i1
 refine wp_region_E 8 (by kernel_rfl) ?_
 obtain ⟨wz, hwz⟩ : ∃ v, v = W2.drew := ⟨_, rfl⟩
 rw [← hwz]
 have hlz : Below W2.heap.size W2 wz := by rw [hwz]; exact (Below.refl _ _).drew
 have hbz := bthen hB hlz
 have a0 := cellb a0 hlz
 have a1' := cellb a1' hlz
 have b0 := cellb b0 hlz
 have b1 := cellb b1 hlz
 have hva := hva.carry hlz
 have hvb := hvb.carry hlz
 clear hwz hlz
 refine zV 0 ⟨some 13, .load 32 (.tmp 3), 32, "valve.go:188", #[], none⟩ rfl ?_ (hv := fun w hE => by have a0 := cellb a0 hE; have a1' := cellb a1' hE; have b0 := cellb b0 hE; have b1 := cellb b1 hE; (try dsimp only); go_simp; try rfl)
 simp only [Act.put, zS]
 refine zV 2 ⟨some 15, .load 32 (.tmp 4), 32, "valve.go:188", #[], none⟩ rfl ?_ (hv := fun w hE => by have a0 := cellb a0 hE; have a1' := cellb a1' hE; have b0 := cellb b0 hE; have b1 := cellb b1 hE; (try dsimp only); go_simp; try rfl)
 simp only [Act.put, zS]
 refine zV 4 ⟨some 17, .move (.tmp 2), 3, "valve.go:188", #[], none⟩ rfl ?_
 simp only [Act.put, zS]
 refine zB 1 ⟨some 14, .call ⟨.value (.func 42), #[.tmp 13], #[32]⟩, 27, "valve.go:188", #[⟨0, .data⟩], none⟩ (fun w hE => T0.out w (hva.carry hE)) rfl ?_
 simp only [Act.put, zS]
 refine zB 3 ⟨some 16, .call ⟨.value (.func 42), #[.tmp 15], #[32]⟩, 27, "valve.go:188", #[⟨2, .data⟩, ⟨1, .chain⟩], none⟩ (fun w hE => T1.out w (hvb.carry hE)) rfl ?_
 simp only [Act.put, zS]
 refine zB 5 ⟨some 18, .call ⟨.value (.func 59), #[.tmp 17, .const (.int .i64 0), .const (.int .i64 100000)], #[3, 3, 3]⟩, 27, "valve.go:188", #[⟨4, .data⟩, ⟨3, .chain⟩], none⟩ (fun w hE => ofPure (T2.out w)) rfl ?_
 simp only [Act.put, zS]
 refine wpAnyE_one (i := 6) (o := ⟨some 19, .buildSlice 150 3 #[(0, .tmp 14), (1, .tmp 16), (2, .tmp 18)], 150, "valve.go:188", #[⟨1, .data⟩, ⟨3, .data⟩, ⟨5, .data⟩], none⟩) (by kernel_rfl) rfl (fun wy1 hE K hK => ?_)
 have a0 := cellb a0 hE
 have a1' := cellb a1' hE
 have b0 := cellb b0 hE
 have b1 := cellb b1 hE
 have hva := hva.carry hE
 have hvb := hvb.carry hE
 have hbz1 := bthen hbz hE
 clear hE
 go_simp
 obtain ⟨wx1, hwz⟩ : ∃ v, v = wy1.alloc (Obj.cells #[.int .i64 e0, .int .i64 e1, .int .i64 e2] 27) := ⟨_, rfl⟩
 rw [← hwz]
 have hl : Below wy1.heap.size wy1 wx1 := by rw [hwz]; exact below_new _ _
 have hcz1 := bthen hbz1 hl
 have iN : BlkI wx1 wy1.heap.size 27 [e0, e1, e2] := by rw [hwz]; exact Blk.new _ _ _
 generalize wy1.heap.size = G at iN ⊢
 have a0 := cellb a0 hl
 have a1' := cellb a1' hl
 have b0 := cellb b0 hl
 have b1 := cellb b1 hl
 have hva := hva.carry hl
 have hvb := hvb.carry hl
 clear hwz
 refine hK _ _ (fun _ => hl) ?_
 clear hK K hl
 try simp only [Act.put, zS]
 refine zB 7 ⟨some 20, .call ⟨.value (.func 46), #[.tmp 19], #[150]⟩, 27, "valve.go:188", #[⟨6, .data⟩, ⟨5, .chain⟩], none⟩ (fun w hE => ofPure (TF.out _ w ((BlkI.ints iN rfl).carry hE))) rfl ?_
 simp only [Act.put, zS]
 refine wpAnyE_one (i := 8) (o := ⟨some 8, .assign (.tmp 20), 27, "valve.go:188", #[⟨7, .data⟩, ⟨7, .chain⟩, ⟨0, .phase⟩, ⟨1, .phase⟩, ⟨2, .phase⟩, ⟨3, .phase⟩, ⟨4, .phase⟩, ⟨5, .phase⟩, ⟨6, .phase⟩, ⟨7, .phase⟩], none⟩) (by kernel_rfl) rfl (fun wy2 hE K hK => ?_)
 have a0 := cellb a0 hE
 have a1' := cellb a1' hE
 have b0 := cellb b0 hE
 have b1 := cellb b1 hE
 have hva := hva.carry hE
 have hvb := hvb.carry hE
 have hbz2 := bthen hcz1 hE
 go_simp
 refine hK _ _ (fun _ => Below.refl _ _) ?_
 clear hK K hE
 try simp only [Act.put, zS]
 refine wpAnyE_done (by kernel_rfl) (fun wy3 hE => ?_) _
 have hbz3 := bthen hbz2 hE
 have a0 := cellb a0 hE
 have a1' := cellb a1' hE
 have b0 := cellb b0 hE
 have b1 := cellb b1 hE
 have hva := hva.carry hE
 have hvb := hvb.carry hE
 clear hE
 have hB := hbz3
 obtain ⟨W9, hW9⟩ : ∃ v, v = wy3 := ⟨_, rfl⟩
 rw [← hW9] at hB a0 a1' b0 b1 hva hvb ⊢
 clear hW9
 by_cases h0 : E = 0
 ·subst h0
  clear T0 T1 T2 TF
  go_wp2_with fail
  refine (TA.out W9 hva).mono ?_
  rintro e w3 ⟨⟨u1, u2, rfl, hu1, -⟩, hb3⟩
  have b1 := cellb b1 hb3
  replace hvb := hvb.carry hb3
  replace hB := bthen hB hb3
  clear a0 a1' b0 hva hb3
  go_wp2_with fail
  refine (TB.out w3 hvb).mono ?_
  rintro e w4 ⟨⟨u3, u4, rfl, -, hu4⟩, hb4⟩
  replace hu1 := hu1.carry hb4
  replace hB := bthen hB hb4
  clear b1 hvb hb4 TA TB
  have HL1 := Lib.hid hu1
  have HL2 := Lib.hid hu4
  obtain ⟨s1, d1, rfl, -, -⟩ := hu1
  obtain ⟨s4, d4, rfl, -, -⟩ := hu4
  obtain ⟨N1, hN1⟩ : ∃ N, N = L1.length := ⟨_, rfl⟩
  obtain ⟨N2, hN2⟩ : ∃ N, N = L2.length := ⟨_, rfl⟩
  rw [← hN1] at HL1 HR1 HR2 hla1 ⊢
  rw [← hN2] at HL2 HR1 HR2 hlb1 ⊢
  clear hN1 hN2
  have q1 : IntKind.i64.wrap ((N1 : Int) + (N2 : Int)) = (N1 : Int) + (N2 : Int) := IntWalk.i64_in _ (by omega)
  by_cases h9 : 256 < N1 + N2
  ·obtain ⟨rfl, rfl⟩ := HR1.out (by trivial) h9
   have q2 : decide ((256 : Int) < (N1 : Int) + (N2 : Int)) = true := by simp; omega
   go_wp2
   go_ret2
   exact ⟨⟨_, rfl, Rw.nil _ _ _ _ _⟩, hB⟩
  ·obtain ⟨rfl, rfl⟩ := HR2.out (by trivial) h9
   have q2 : decide ((256 : Int) < (N1 : Int) + (N2 : Int)) = false := by simp; omega
   have TK := Lib.hid (fun (B : Nat) (W : World) (hb : Blk W B 30 [.slice s1 N1 d1, .slice s4 N2 d4]) (h1 : Prs W (.slice s1 N1 d1) L1) (h2 : Prs W (.slice s4 N2 d4) L2) => Concat2_any B s1 s4 N1 d1 N2 d4 L1 L2 W (hb.cell (j := 0) rfl) (hb.cell (j := 1) rfl) h1 h2 (by omega))
   have kn := below_new w4 (.cells #[.slice s1 N1 d1, .slice s4 N2 d4] 30)
   clear h9
   go_wp2_with fail
   refine (TK.out w4.heap.size _ (Blk.new w4 30 [.slice s1 N1 d1, .slice s4 N2 d4]) (HL1.out.carry kn) (HL2.out.carry kn)).mono ?_
   rintro e w5 ⟨⟨u, rfl, hu⟩, hb5⟩
   have hout : Prs w5 u (L1 ++ L2) := Rw.of_own pV_len hu rfl
   go_wp2
   go_ret2
   exact ⟨⟨_, rfl, hout⟩, bthen hB (bthen kn hb5)⟩
 ·have z : (E == 0) = false := by rw [beq_eq_false_iff_ne]; exact h0
  obtain ⟨rfl, rfl⟩ := HR0.out h0
  clear HR0 HR1 HR2
  go_wp2
  go_ret2
  exact ⟨⟨_, rfl, Rw.nil _ _ _ _ _⟩, hB⟩
end
section
set_option linter.unusedSimpArgs false
set_option linter.unusedVariables false
open Go.RowKit Go.Maps
theorem Tryz.keyInt : Keyed Tryz.prog 3 := int_keyed Tryz.underlying3
theorem Tryz.zeroInt (w : World) : (zeroValue 3).run Tryz.prog w = .ok (.int .i64 0) w := by kernel_rfl
/-- the map of a train. -/
def mpD (t : List P2) : DataW Unit := t.foldl (fun D x => D.put (.int .i64 x.1) (.lit (.int .i64 x.2))) (.map [])
/-- the pulses at a tick. -/
def lkp (t : List P2) (k : Int) : Option Int := t.foldl (fun o x => if x.1 = k then some x.2 else o) none
theorem mpD_snoc (t : List P2) (x : P2) : mpD (t ++ [x]) = (mpD t).put (.int .i64 x.1) (.lit (.int .i64 x.2)) := by simp [mpD]
theorem lkp_snoc (t : List P2) (x : P2) (k : Int) : lkp (t ++ [x]) k = if x.1 = k then some x.2 else lkp t k := by simp [lkp]
theorem snoc_ind {α : Type} {p : List α → Prop} (h0 : p []) (h1 : ∀ l x, p l → p (l ++ [x])) (l : List α) : p l := by
 have : ∀ n, ∀ l : List α, l.length = n → p l := by
  intro n
  induction n with
  | zero => intro l h; rw [List.length_eq_zero_iff.1 h]; exact h0
  | succ n ih =>
    intro l h
    have hne : l ≠ [] := by rintro rfl; simp at h
    rw [← List.dropLast_concat_getLast hne]
    exact h1 _ _ (ih _ (by rw [List.length_dropLast]; omega))
 exact this _ l rfl
theorem lit_ne {a b : Int} (h : a ≠ b) : (Lit.int .i64 a) ≠ (Lit.int .i64 b) := by
 intro e; cases e; exact h rfl
theorem key_lit (a : Int) : WideAt.IsKeyLit (.int .i64 a) := by simp [WideAt.IsKeyLit]
theorem mpD_isMap (t : List P2) : IsMap (mpD t) := by
 refine snoc_ind (p := fun t => IsMap (mpD t)) ⟨_, rfl⟩ (fun l x ⟨es, h⟩ => ?_) t
 rw [mpD_snoc, h]
 exact ⟨_, rfl⟩
theorem has_mpD (t : List P2) (k : Int) : has (mpD t) (.int .i64 k) = (lkp t k).isSome := by
 refine snoc_ind (p := fun t => has (mpD t) (.int .i64 k) = (lkp t k).isSome) rfl (fun l x ih => ?_) t
 rw [mpD_snoc, lkp_snoc]
 by_cases h : x.1 = k
 ·rw [if_pos h, ← h, has_put_same (mpD_isMap l) (key_lit _)]; rfl
 ·rw [if_neg h, has_put_other (lit_ne (fun e => h e.symm)), ih]
theorem at_mpD (t : List P2) (k : Int) : (mpD t).atKey (.int .i64 k) (.lit (.int .i64 0)) = .lit (.int .i64 ((lkp t k).getD 0)) := by
 refine snoc_ind (p := fun t => (mpD t).atKey (.int .i64 k) (.lit (.int .i64 0)) = .lit (.int .i64 ((lkp t k).getD 0))) rfl (fun l x ih => ?_) t
 rw [mpD_snoc, lkp_snoc]
 by_cases h : x.1 = k
 ·rw [if_pos h, ← h, atKey_put_same (mpD_isMap l) (key_lit _)]; rfl
 ·rw [if_neg h, atKey_put_other (lit_ne (fun e => h e.symm)), ih]
theorem wf_i64 {x : Int} (h : 0 ≤ x ∧ x ≤ 1000000) : (Lit.int .i64 x).wf = true := by
 exact WalkArith.wf_i64 (by omega)
set_option maxRecDepth 100000 in
set_option maxHeartbeats 2000000 in
theorem at_any (c : Int) (a : Option Addr) (n cap : Nat) (t : List P2) (w : World) (hok : TrOk t) (hv : Prs w (.slice a n cap) t) :
 Calls Tryz.prog 123 #[.agg #[.int .i64 c, .slice a n cap]] w fun r w' => (∃ R, r = .returned (.map (some R)) ∧ w.heap.size ≤ R ∧ w'.ownsMap Tryz.prog 3 (plainElem (H := Unit) Tryz.prog 3) R n (mpD t)) ∧ Below w.heap.size w w' := by
 have hmm := @run_makeMap Tryz.prog
 have HN := Lib.hid hv.len
 have HOK := Lib.hid hok
 have HV := Lib.hid hv
 have hn9 : n ≤ 256 := by rw [HN.out]; exact hok.len
 clear hok hv
 go_enter Tryz.func123, Tryz.ntmps123
 go_upto_region 1 with fail
 obtain ⟨W1, hW1⟩ : ∃ v, v = World.alloc w (Obj.cells #[.int .i64 c, .slice a n cap] 32) := ⟨_, rfl⟩
 have kW1 : Below w.heap.size w W1 := by rw [hW1]; exact below_new _ _
 have iW1 : Blk W1 (w.heap.size) 32 [.int .i64 c, .slice a n cap] := by rw [hW1]; exact Blk.new _ _ _
 have sW1 : W1.heap.size = w.heap.size + 1 := by rw [hW1]; simp
 rw [← hW1]
 clear hW1
 have c1 := iW1.cell (j := 1) (v := .slice a n cap) rfl
 have hB := kW1
 have hs1 := Blk.lt iW1
 clear iW1 sW1 kW1
 go_wp2_with fail
 go_loopw [10] (fun i wr => ∃ k : Nat, k ≤ n ∧ i = .int .i64 k ∧ wr.ownsMap Tryz.prog 3 (plainElem (H := Unit) Tryz.prog 3) W1.heap.size k (mpD (t.take k)) ∧ Below w.heap.size w wr) (fun i _ => n - (intOf i).toNat)
 case atStart => exact ⟨0, by omega, rfl, World.ownsMap_made _ _ _ _, bthen hB (below_new _ _)⟩
 case round =>
  obtain ⟨k, hk, rfl, hown, hbel⟩ := hrel
  by_cases hlt : k < n
  ·obtain ⟨x, hx⟩ : ∃ x, t[k]? = some x := ⟨_, List.getElem?_eq_getElem (by rw [← HN.out]; exact hlt)⟩
   obtain ⟨b, off, cp', he, hcs⟩ := (HV.out.carry hbel).head (by rw [← HN.out]; omega)
   simp only [Value.slice.injEq] at he
   obtain ⟨rfl, -, rfl⟩ := he
   obtain ⟨d0, d1⟩ := rw2 (hcs k x hx) (show pV x = [.int .i64 x.1, .int .i64 x.2] from rfl)
   have hts : mpD (t.take (k + 1)) = (mpD (t.take k)).put (.int .i64 x.1) (.lit (.int .i64 x.2)) := by
    rw [List.take_add_one, hx]; exact mpD_snoc _ _
   have HTS := Lib.hid hts
   obtain ⟨r1, r2⟩ := HOK.out.rng k x hx
   have hkey : keyOf Tryz.prog 3 (.int .i64 x.1) = some (.int .i64 x.1) := keyOf_int_mk Tryz.underlying3 (wf_i64 (by omega))
   have hval : plainElem (H := Unit) Tryz.prog 3 (.int .i64 x.2) = some (.lit (.int .i64 x.2), []) := plainElem_int Tryz.underlying3 (wf_i64 (by omega))
   have HK := Lib.hid hkey
   have HVL := Lib.hid hval
   have hdk : (k : Int) < (n : Int) := by omega
   clear hcs hx hts r1 r2 hkey hval
   go_wp2_with (at_mapUpdate; refine wpList_mapUpdate_own _ rfl _ _ _ 200 rfl 3 3 Tryz.keyInt Tryz.underlying200 _ W1.heap.size k _ rfl (hown.alloc _) (by unfold maxLen; omega) _ _ _ rfl rfl HK.out _ [] HVL.out ?_; intro w1 hown1 hgrow1)
   have hbel1 : Below w.heap.size w w1 := (bthen hbel (below_new wr _)).grown hgrow1 (by have := hbel.size; simp; omega) (fun j hj => by cases hj; omega)
   rw [← HTS.out] at hown1
   clear hown hbel hgrow1 d0 d1
   go_roundw
   case rel => exact ⟨k + 1, by omega, by go_num, hown1, hbel1⟩
   case measure => simp [intOf]; omega
  ·have hkn : k = n := by omega
   subst hkn
   rw [List.take_of_length_le (by rw [HN.out]; exact Nat.le_refl _)] at hown
   have e6 : ¬ (k : Int) < (k : Int) := by omega
   go_wp2
   go_ret
   exact ⟨⟨_, rfl, by omega, hown⟩, hbel⟩
end
end Go.Proofs.YtpmngcffkhbofaaGreatDoor

/- The package harmonic: a filter's text; a tapped filter meets a polygon. -/
import Derived.Test.YtfeajpkjjlddlaaGreatDoorHpG
import Derived.Test.YtfeajpkjjlddlaaGreatDoorShelf
import Derived.Lib.LaidTab
import Derived.Lib.ItoaLen
namespace Go.Proofs.YtfeajpkjjlddlaaGreatDoor
set_option linter.unusedSimpArgs false
set_option linter.unusedVariables false
open Go.RowKit

/-- the slice v has the cells us. -/
def Vals (w : World) (v : Value) (us : List Value) : Prop :=
  ∃ a cap, v = .slice a us.length cap ∧ us.length ≤ cap ∧ (0 < us.length → ∃ b off, a = some ⟨b, off, none⟩ ∧ ∀ j u, us[j]? = some u → w.cell? ⟨b, off + j, none⟩ = some u)

theorem Vals.carry {w w' : World} {v : Value} {us : List Value} (h : Vals w v us) (hb : Below w.heap.size w w') : Vals w' v us := by
  obtain ⟨a, cap, hv, hc, h⟩ := h
  refine ⟨a, cap, hv, hc, fun hl => ?_⟩
  obtain ⟨b, off, ha, h⟩ := h hl
  exact ⟨b, off, ha, fun j u hj => (hb.cell (p := ⟨b, off + j, none⟩) (lt_of_cellSome (h j u hj))).trans (h j u hj)⟩
theorem Vals.head {w : World} {v : Value} {us : List Value} (h : Vals w v us) (h0 : 0 < us.length) : ∃ b off cap, v = .slice (some ⟨b, off, none⟩) us.length cap ∧ ∀ j u, us[j]? = some u → w.cell? ⟨b, off + j, none⟩ = some u := by
  obtain ⟨a, cap, rfl, _, hc⟩ := h
  obtain ⟨b, off, rfl, hd⟩ := hc h0
  exact ⟨b, off, cap, rfl, hd⟩
theorem Vals.nil (w : World) : Vals w (.slice none 0 0) [] := ⟨none, 0, rfl, by simp, fun h => by simp at h⟩
theorem Vals.of_own {w : World} {base e : Nat} {v : Value} {us : List Value} (h : w.ownsRow base e 1 v us.length us) : Vals w v us := by
  obtain ⟨h1, h2⟩ := h
  rcases h2 with ⟨rfl, h2⟩ | ⟨g, cap, cur, rfl, hg, hh, hnc, hcap, hcs, htk⟩
  · exact ⟨none, 0, by rw [h2], by omega, fun h => by omega⟩
  · refine ⟨some ⟨g, 0, none⟩, cap, rfl, hnc, fun hl => ⟨g, 0, rfl, fun j u hj => ?_⟩⟩
    rw [Nat.mul_one] at htk
    rw [← htk, List.getElem?_take] at hj
    split at hj
    · rw [Array.getElem?_toList] at hj
      simp [World.cell?, hh, hj]
    · cases hj

theorem below_grow_drew (w : World) (k : Nat) (os : Array Obj) : Below w.heap.size w (Go.Sort.grow (w.drewN k) os) :=
  ⟨rfl, rfl, rfl, by simp [Go.Sort.grow], fun i hi => by
    show ((w.drewN k).heap ++ os)[i]? = _
    rw [Array.getElem?_append_left (by show i < w.heap.size; omega)]
    rfl⟩

/-- the library's table of the powers of ten, as its initialiser lays it. -/
def Pows (w : World) : Prop := Lib.TabIs Tryz.prog w "internal/strconv.uint64pow10" .u64 Lib.pow10Tab
theorem Pows.below {w w' : World} (h : Pows w) (hb : Below w.heap.size w w') : Pows w' := by
  have hg : Tryz.prog.globalNamed "internal/strconv.uint64pow10" = some 3 := by kernel_rfl
  unfold Pows Lib.TabIs World.var? at h ⊢
  rw [hg] at h ⊢
  simp only [Option.bind_some] at h ⊢
  have hlt : 3 < w.heap.size := by
    rcases Nat.lt_or_ge 3 w.heap.size with h' | h'
    · exact h'
    · simp [h'] at h
  rw [hb.block _ hlt]
  exact h

/-- an integer's decimal numeral. -/
def word (n : Int) : ByteArray := ⟨(Lib.itoa n).toArray⟩
theorem Itoa_any (n : Int) (h0 : -9223372036854775808 ≤ n) (h1 : n ≤ 9223372036854775807) (w : World) (hp : Pows w) :
    Calls Tryz.prog 96 #[.int .i64 n] w fun e w' => e = .returned (.string (word n)) ∧ Below w.heap.size w w' :=
  (Tryz.strconv_Itoa n h0 h1 w hp).mono fun e w' h => by
    obtain ⟨h1, k, os, rfl⟩ := h
    exact ⟨h1, below_grow_drew w k os⟩

theorem Tryz.infoString : (Tryz.prog.info? 9).map (fun i => (i.zero, i.size, i.bytes)) = some (some (.string ⟨#[]⟩), 1, 16) := by kernel_rfl


theorem Tryz.enterAvoid1 (args : Array Value) (w : World) : Sem.run Tryz.prog (callFunc 87 args) w = .ok (.enter 87 args) w :=
  MuLone.run_callFunc_enter Tryz.func87 (by kernel_rfl) rfl args w
set_option maxRecDepth 100000 in
set_option maxHeartbeats 1000000 in
theorem avoid1_any (h : Int) (v u : Value) (ls l : List (Int × Int)) (B D : Nat) (w : World) (hv : Pairs w v ls) (hl : ls.length ≤ 1000000) (hu : Pairs w u l) (hlu : l.length ≤ 1000000) (hS : tunedB ls h = false → SusOk ls h)
    (hb : w.cell? ⟨B, 0, none⟩ = some v) (hd : w.cell? ⟨D, 0, none⟩ = some u) :
    Calls Tryz.prog 87 #[.int .i64 h, .pointer (some ⟨B, 0, none⟩), .pointer (some ⟨D, 0, none⟩)] w fun e w' => e = .returned (.bool (meetB ls l h)) ∧ Below w.heap.size w w' := by
  have TS := Lib.hid (meets_any v u ls l h w hv hl hu hlu hS)
  generalize meetB ls l h = m at TS ⊢
  obtain ⟨a, cp, rfl, _, _⟩ := id hv
  obtain ⟨a2, cp2, rfl, _, _⟩ := id hu
  clear hv hu hS
  go_enter Tryz.func87, Tryz.ntmps87
  go_wp2_with fail
  refine TS.out.mono ?_
  rintro e w2 ⟨rfl, hl⟩
  go_wp2
  go_ret
  exact ⟨rfl, hl⟩

theorem Pows.carry {w w' : World} (h : Pows w) (hb : Below w.heap.size w w') : Pows w' := h.below hb
theorem catS (T : TypeId) (x y : ByteArray) (W : World) (h : x.size + y.size ≤ 1000) : Sem.run Tryz.prog (binOp .add T (.string x) (.string y)) W = .ok (.string (x ++ y)) W := by
  have h2 : ¬ (9223372036854775807 < x.size + y.size) := by omega
  go_simp
theorem exec_add {P : Program} {ρ : Operand → Value} {o : Oper} {t t2 : TypeId} {x y : Operand} {v : Value} {w : World} (hop : o.op = Op.binOp .add t x y t2) (h : Sem.run P (binOp .add t (ρ x) (ρ y)) w = .ok v w) : (execOp ρ o).run P w = .ok (.value v) w := by
  unfold execOp
  simp [hop, h, eqGuard, Result.andThen]
theorem size7 : (⟨#[98, 114, 97, 110, 99, 104, 32]⟩ : ByteArray).size = 7 := rfl
theorem size1a : (⟨#[32]⟩ : ByteArray).size = 1 := rfl
theorem size1b : (⟨#[10]⟩ : ByteArray).size = 1 := rfl
/-- a branch's line. -/
def lineB (x : Int × Int) : ByteArray := (⟨#[98, 114, 97, 110, 99, 104, 32]⟩ ++ word x.1) ++ ⟨#[32]⟩ ++ word x.2 ++ ⟨#[10]⟩
theorem Tryz.enterPrint1 (args : Array Value) (w : World) : Sem.run Tryz.prog (callFunc 95 args) w = .ok (.enter 95 args) w :=
  MuLone.run_callFunc_enter Tryz.func95 (by kernel_rfl) rfl args w
set_option maxRecDepth 100000 in
set_option maxHeartbeats 2000000 in
theorem print1_any (x : Int × Int) (w : World) (hp : Pows w) (h1 : 0 ≤ x.1 ∧ x.1 ≤ 2000) (h2 : 0 ≤ x.2 ∧ x.2 ≤ 2000) (s1 : (word x.1).size ≤ 100) (s2 : (word x.2).size ≤ 100) :
    Calls Tryz.prog 95 #[.agg #[.int .i64 x.1, .int .i64 x.2]] w fun e w' => e = .returned (.string (lineB x)) ∧ Below w.heap.size w w' := by
  obtain ⟨r, hr⟩ : ∃ r, r = lineB x := ⟨_, rfl⟩
  rw [← hr]
  rw [lineB] at hr
  have T1 := Lib.hid (fun W hP => Itoa_any x.1 (by omega) (by omega) W hP)
  have T2 := Lib.hid (fun W hP => Itoa_any x.2 (by omega) (by omega) W hP)
  generalize word x.1 = a at T1 hr s1
  generalize word x.2 = b at T2 hr s2
  obtain ⟨l, c⟩ := x
  simp only at T1 T2 ⊢
  have HR := Lib.hid hr
  clear hr h1 h2
  go_enter Tryz.func95, Tryz.ntmps95
  go_upto_region 1 with fail
  obtain ⟨W1, hW1⟩ : ∃ v, v = World.alloc w (Obj.cells #[.int .i64 l, .int .i64 c] 129) := ⟨_, rfl⟩
  have kW1 : Below w.heap.size w W1 := by rw [hW1]; exact below_new _ _
  have iW1 : Blk W1 (w.heap.size) 129 [.int .i64 l, .int .i64 c] := by rw [hW1]; exact Blk.new _ _ _
  have sW1 : W1.heap.size = w.heap.size + 1 := by rw [hW1]; simp
  rw [← hW1]
  clear hW1
  have a0 := iW1.cell (j := 0) (v := .int .i64 l) rfl
  have a1 := iW1.cell (j := 1) (v := .int .i64 c) rfl
  have hQ := hp.below kW1
  refine wp_region_E 99 (by kernel_rfl) ?_
  obtain ⟨wz, hwz⟩ : ∃ v, v = W1.drew := ⟨_, rfl⟩
  rw [← hwz]
  have hlz : Below W1.heap.size W1 wz := by rw [hwz]; exact (Below.refl _ _).drew
  have hbz := bthen kW1 hlz
  have a0 := cellb a0 hlz
  have a1 := cellb a1 hlz
  have hQ := hQ.carry hlz
  clear hwz hlz
  refine wpAnyE_take (i := 0) (oi := { dst := some 3, op := Op.fieldAddr 129 (Operand.tmp 1) 0, type := 0, pos := "filter.go:285", after := #[], guard := none }) (v := ?_) rfl (by kernel_rfl) (by kernel_rfl) (by kernel_rfl) (by kernel_rfl) (fun _ _ _ h => h) (Or.inl ⟨by rfl, ?_⟩) ?_
  rotate_left
  · (intro w hE; have a0 := cellb a0 hE; have a1 := cellb a1 hE; (try dsimp only); go_simp); (try with_reducible rfl)
  try simp only [Act.put, List.setIfInBounds_toArray, List.set_cons_zero, List.set_cons_succ]
  refine wpAnyE_take (i := 1) (oi := { dst := some 4, op := Op.load 3 (Operand.tmp 3), type := 3, pos := "filter.go:285", after := #[{ on := 0, ground := Ground.data }], guard := none }) (v := ?_) rfl (by kernel_rfl) (by kernel_rfl) (by kernel_rfl) (by kernel_rfl) (fun _ _ _ h => h) (Or.inl ⟨by rfl, ?_⟩) ?_
  rotate_left
  · (intro w hE; have a0 := cellb a0 hE; have a1 := cellb a1 hE; (try dsimp only); go_simp); (try with_reducible rfl)
  try simp only [Act.put, List.setIfInBounds_toArray, List.set_cons_zero, List.set_cons_succ]
  refine wpAnyE_take (i := 5) (oi := { dst := some 8, op := Op.fieldAddr 129 (Operand.tmp 1) 1, type := 0, pos := "filter.go:285", after := #[], guard := none }) (v := ?_) rfl (by kernel_rfl) (by kernel_rfl) (by kernel_rfl) (by kernel_rfl) (fun _ _ _ h => h) (Or.inl ⟨by rfl, ?_⟩) ?_
  rotate_left
  · (intro w hE; have a0 := cellb a0 hE; have a1 := cellb a1 hE; (try dsimp only); go_simp); (try with_reducible rfl)
  try simp only [Act.put, List.setIfInBounds_toArray, List.set_cons_zero, List.set_cons_succ]
  refine wpAnyE_take (i := 6) (oi := { dst := some 9, op := Op.load 3 (Operand.tmp 8), type := 3, pos := "filter.go:285", after := #[{ on := 5, ground := Ground.data }], guard := none }) (v := ?_) rfl (by kernel_rfl) (by kernel_rfl) (by kernel_rfl) (by kernel_rfl) (fun _ _ _ h => h) (Or.inl ⟨by rfl, ?_⟩) ?_
  rotate_left
  · (intro w hE; have a0 := cellb a0 hE; have a1 := cellb a1 hE; (try dsimp only); go_simp); (try with_reducible rfl)
  try simp only [Act.put, List.setIfInBounds_toArray, List.set_cons_zero, List.set_cons_succ]
  refine wpAnyE_call (i := 2) (oi := { dst := some 5, op := Op.call { callee := Callee.value (Operand.func 96), args := #[Operand.tmp 4], argTypes := #[3] }, type := 9, pos := "filter.go:285", after := #[{ on := 1, ground := Ground.data }], guard := none }) (fun w hE => T1.out w (hQ.carry hE)) rfl (by kernel_rfl) (by kernel_rfl) (by kernel_rfl) (by kernel_rfl) (fun _ _ _ h => h) (by rfl) (fun w hE => by (try dsimp only); go_simp) ?_
  try simp only [Act.put, List.setIfInBounds_toArray, List.set_cons_zero, List.set_cons_succ]
  refine wpAnyE_take (i := 3) (oi := { dst := some 6, op := Op.binOp BinOp.add 9 (Operand.const (Value.string { data := #[98, 114, 97, 110, 99, 104, 32] })) (Operand.tmp 5) 9, type := 9, pos := "filter.go:285", after := #[{ on := 2, ground := Ground.data }], guard := none }) (v := ?_) rfl (by kernel_rfl) (by kernel_rfl) (by kernel_rfl) (by kernel_rfl) (fun _ _ _ h => h) (Or.inl ⟨by rfl, ?_⟩) ?_
  rotate_left
  · (intro w hE; have a0 := cellb a0 hE; have a1 := cellb a1 hE; (try dsimp only); refine (exec_add rfl (catS _ _ _ _ (by (try simp only [ByteArray.size_append]); have := size7; have := size1a; have := size1b; omega))).trans ?_; rfl); (try with_reducible rfl)
  try simp only [Act.put, List.setIfInBounds_toArray, List.set_cons_zero, List.set_cons_succ]
  refine wpAnyE_take (i := 4) (oi := { dst := some 7, op := Op.binOp BinOp.add 9 (Operand.tmp 6) (Operand.const (Value.string { data := #[32] })) 9, type := 9, pos := "filter.go:285", after := #[{ on := 3, ground := Ground.data }], guard := none }) (v := ?_) rfl (by kernel_rfl) (by kernel_rfl) (by kernel_rfl) (by kernel_rfl) (fun _ _ _ h => h) (Or.inl ⟨by rfl, ?_⟩) ?_
  rotate_left
  · (intro w hE; have a0 := cellb a0 hE; have a1 := cellb a1 hE; (try dsimp only); refine (exec_add rfl (catS _ _ _ _ (by (try simp only [ByteArray.size_append]); have := size7; have := size1a; have := size1b; omega))).trans ?_; rfl); (try with_reducible rfl)
  try simp only [Act.put, List.setIfInBounds_toArray, List.set_cons_zero, List.set_cons_succ]
  refine wpAnyE_call (i := 7) (oi := { dst := some 10, op := Op.call { callee := Callee.value (Operand.func 96), args := #[Operand.tmp 9], argTypes := #[3] }, type := 9, pos := "filter.go:285", after := #[{ on := 6, ground := Ground.data }, { on := 2, ground := Ground.chain }], guard := none }) (fun w hE => T2.out w (hQ.carry hE)) rfl (by kernel_rfl) (by kernel_rfl) (by kernel_rfl) (by kernel_rfl) (fun _ _ _ h => h) (by rfl) (fun w hE => by (try dsimp only); go_simp) ?_
  try simp only [Act.put, List.setIfInBounds_toArray, List.set_cons_zero, List.set_cons_succ]
  refine wpAnyE_take (i := 8) (oi := { dst := some 11, op := Op.binOp BinOp.add 9 (Operand.tmp 7) (Operand.tmp 10) 9, type := 9, pos := "filter.go:285", after := #[{ on := 4, ground := Ground.data }, { on := 7, ground := Ground.data }], guard := none }) (v := ?_) rfl (by kernel_rfl) (by kernel_rfl) (by kernel_rfl) (by kernel_rfl) (fun _ _ _ h => h) (Or.inl ⟨by rfl, ?_⟩) ?_
  rotate_left
  · (intro w hE; have a0 := cellb a0 hE; have a1 := cellb a1 hE; (try dsimp only); refine (exec_add rfl (catS _ _ _ _ (by (try simp only [ByteArray.size_append]); have := size7; have := size1a; have := size1b; omega))).trans ?_; rfl); (try with_reducible rfl)
  try simp only [Act.put, List.setIfInBounds_toArray, List.set_cons_zero, List.set_cons_succ]
  refine wpAnyE_take (i := 9) (oi := { dst := some 12, op := Op.binOp BinOp.add 9 (Operand.tmp 11) (Operand.const (Value.string { data := #[10] })) 9, type := 9, pos := "filter.go:285", after := #[{ on := 8, ground := Ground.data }], guard := none }) (v := ?_) rfl (by kernel_rfl) (by kernel_rfl) (by kernel_rfl) (by kernel_rfl) (fun _ _ _ h => h) (Or.inl ⟨by rfl, ?_⟩) ?_
  rotate_left
  · (intro w hE; have a0 := cellb a0 hE; have a1 := cellb a1 hE; (try dsimp only); refine (exec_add rfl (catS _ _ _ _ (by (try simp only [ByteArray.size_append]); have := size7; have := size1a; have := size1b; omega))).trans ?_; rfl); (try with_reducible rfl)
  try simp only [Act.put, List.setIfInBounds_toArray, List.set_cons_zero, List.set_cons_succ]
  refine wpAnyE_take (i := 10) (oi := { dst := some 2, op := Op.assign (Operand.tmp 12), type := 9, pos := "filter.go:285", after := #[{ on := 9, ground := Ground.data }, { on := 7, ground := Ground.chain }, { on := 0, ground := Ground.phase }, { on := 1, ground := Ground.phase }, { on := 2, ground := Ground.phase }, { on := 3, ground := Ground.phase }, { on := 4, ground := Ground.phase }, { on := 5, ground := Ground.phase }, { on := 6, ground := Ground.phase }, { on := 7, ground := Ground.phase }, { on := 8, ground := Ground.phase }, { on := 9, ground := Ground.phase }], guard := none }) (v := ?_) rfl (by kernel_rfl) (by kernel_rfl) (by kernel_rfl) (by kernel_rfl) (fun _ _ _ h => h) (Or.inl ⟨by rfl, ?_⟩) ?_
  rotate_left
  · (intro w hE; have a0 := cellb a0 hE; have a1 := cellb a1 hE; (try dsimp only); go_simp); (try with_reducible rfl)
  try simp only [Act.put, List.setIfInBounds_toArray, List.set_cons_zero, List.set_cons_succ]
  refine wpAnyE_done (by kernel_rfl) (fun wy1 hE => ?_) _
  have hbz1 := bthen hbz hE
  have a0 := cellb a0 hE
  have a1 := cellb a1 hE
  have hQ := hQ.carry hE
  clear hE
  have hB := hbz1
  go_wp2_with fail
  go_ret
  exact ⟨by rw [HR.out]; rfl, hB⟩
end Go.Proofs.YtfeajpkjjlddlaaGreatDoor

/- The law TopThimbleTelegrams. -/
import Derived.Test.YtjmdnolmaofbiaaDoorThmT
namespace Go.Proofs.YtjmdnolmaofbiaaDoor
set_option linter.unusedSimpArgs false
set_option linter.unusedVariables false
open Go.RowKit

theorem Tryd.undPhs : Tryd.prog.underlying 27 = some (.slice 37) := by kernel_rfl
theorem Tryd.infoPhs : (Tryd.prog.info? 37).map (fun i => (i.zero, i.size, i.bytes)) = some (some (.agg #[.int .i64 0, .int .i64 0, .int .i64 0, .int .i64 0, .int .i64 0, .int .i64 0]), 6, 48) := by kernel_rfl
theorem Tryd.sizeTg : (Tryd.prog.info? 40).map (fun x => x.size) = some 6 := by kernel_rfl
theorem Tryd.sizeA16 : (Tryd.prog.info? 43).map (fun x => x.size) = some 16 := by kernel_rfl
/-- the bit of a block. -/
def wrB (wr : Int) (j : Int) : Bool := bits .and .u16 (wr / 2 ^ j.toNat) 1 == 1
def phs (xs : List E3) (k : Nat) : E3 := phE (xs[k]?.getD (0, 0, 0, 0, 0, 0))
/-- a proof that leaves off: what is left, and that it does. -/
structure KeepP (p : Prop) : Prop where
  out : p
def splitP {M G : Prop} (h : G → M) : PSigma (fun G : Prop => G → M) := ⟨G, h⟩
set_option maxRecDepth 100000 in
set_option maxHeartbeats 80000000 in
def thSplit (a : Option Addr) (cap m : Nat) (xs : List E3) (n0 n1 n2 wg fs : Int) (w : World) :
    PSigma (fun G : Prop => G → ∀ (hT : Thirds w) (hv : Rows8 w (.slice a m cap) xs) (hm : m = xs.length) (h8 : ∀ x ∈ xs, E8 x) (hn0 : 0 ≤ n0 ∧ n0 ≤ 255) (hn1 : 0 ≤ n1 ∧ n1 ≤ 255) (hwg : 0 ≤ wg ∧ wg ≤ 65535) (hfs : 0 ≤ fs ∧ fs ≤ 65535), Calls Tryd.prog 3 #[.slice a m cap, .agg #[.int .u8 n0, .int .u8 n1, .int .u8 n2], .agg #[.int .u16 wg, .int .u16 fs]] w fun e w' => e = .returned (.bool true) ∧ Below w.heap.size w w') := by
  apply splitP
  intro hG hT hv hm h8 hn0 hn1 hwg hfs
  have HG := KeepP.mk hG
  clear hG
  have TW := Lib.hid (fun W hT => thWires_ok W hT)
  have HV := Lib.hid hv
  have H8 := Lib.hid h8
  have HM := Lib.hid hm
  clear hm h8 hv
  go_enter Tryd.func3, Tryd.ntmps3
  go_upto_region 1 with fail
  obtain ⟨W1, hW1⟩ : ∃ v, v = World.alloc w (Obj.cells #[.int .u8 n0, .int .u8 n1, .int .u8 n2] 23) := ⟨_, rfl⟩
  have kW1 : Below w.heap.size w W1 := by rw [hW1]; exact below_new _ _
  have iW1 : Blk W1 (w.heap.size) 23 [.int .u8 n0, .int .u8 n1, .int .u8 n2] := by rw [hW1]; exact Blk.new _ _ _
  have sW1 : W1.heap.size = w.heap.size + 1 := by rw [hW1]; simp
  rw [← hW1]
  clear hW1
  obtain ⟨W2, hW2⟩ : ∃ v, v = World.alloc W1 (Obj.cells #[.int .u16 wg, .int .u16 fs] 25) := ⟨_, rfl⟩
  have kW2 : Below W1.heap.size W1 W2 := by rw [hW2]; exact below_new _ _
  have iW2 : Blk W2 (w.heap.size + 1) 25 [.int .u16 wg, .int .u16 fs] := by rw [hW2, ← sW1]; exact Blk.new _ _ _
  have sW2 : W2.heap.size = w.heap.size + 1 + 1 := by rw [hW2]; simp [sW1]
  rw [← hW2]
  clear hW2
  have i1 := iW1.carry kW2
  have i2 := iW2
  have hB : Below w.heap.size w W2 := bthen kW1 kW2
  replace hT := hT.carry hB
  clear iW1 iW2 kW1 kW2 sW1 sW2
  by_cases hm8 : 8 < m
  · go_wp2_with fail
    refine (TW.out _ hT).mono ?_
    rintro e w3 ⟨rfl, hb3⟩
    go_wp2
    go_ret
    exact ⟨rfl, bthen hB hb3⟩
  · have b0 := i2.cell (j := 0) (v := .int .u16 wg) rfl
    have b1 := i2.cell (j := 1) (v := .int .u16 fs) rfl
    go_upto_region 3 with fail
    refine wp_region_E 99 (by kernel_rfl) ?_
    obtain ⟨wz, hwz⟩ : ∃ v, v = W2.drew := ⟨_, rfl⟩
    rw [← hwz]
    have hlz : Below W2.heap.size W2 wz := by rw [hwz]; exact (Below.refl _ _).drew
    have hbz := bthen hB hlz
    have b0 := cellb b0 hlz
    have b1 := cellb b1 hlz
    have i1 := i1.carry hlz
    have i2 := i2.carry hlz
    have hT := hT.carry hlz
    clear hwz hlz
    refine wpAnyE_take (i := 0) (oi := { dst := some 44, op := Op.indexAddr 25 (Operand.tmp 5) (Operand.const (Value.int IntKind.i64 0)), type := 0, pos := "top01_wt43d.go:32", after := #[], guard := none }) (v := ?_) rfl (by kernel_rfl) (by kernel_rfl) (by kernel_rfl) (by kernel_rfl) (fun _ _ _ h => h) (Or.inl ⟨by rfl, ?_⟩) ?_
    rotate_left
    · (intro w hE; have b0 := cellb b0 hE; have b1 := cellb b1 hE; (try dsimp only); go_simp); (try with_reducible rfl)
    try simp only [Act.put, List.setIfInBounds_toArray, List.set_cons_zero, List.set_cons_succ]
    refine wpAnyE_take (i := 1) (oi := { dst := some 45, op := Op.load 24 (Operand.tmp 44), type := 24, pos := "top01_wt43d.go:32", after := #[{ on := 0, ground := Ground.data }], guard := none }) (v := ?_) rfl (by kernel_rfl) (by kernel_rfl) (by kernel_rfl) (by kernel_rfl) (fun _ _ _ h => h) (Or.inl ⟨by rfl, ?_⟩) ?_
    rotate_left
    · (intro w hE; have b0 := cellb b0 hE; have b1 := cellb b1 hE; (try dsimp only); go_simp); (try with_reducible rfl)
    try simp only [Act.put, List.setIfInBounds_toArray, List.set_cons_zero, List.set_cons_succ]
    refine wpAnyE_take (i := 2) (oi := { dst := some 46, op := Op.indexAddr 25 (Operand.tmp 5) (Operand.const (Value.int IntKind.i64 1)), type := 0, pos := "top01_wt43d.go:32", after := #[{ on := 4, ground := Ground.gcOnly Departure.lateStores }], guard := none }) (v := ?_) rfl (by kernel_rfl) (by kernel_rfl) (by kernel_rfl) (by kernel_rfl) (fun _ _ _ h => h) (Or.inl ⟨by rfl, ?_⟩) ?_
    rotate_left
    · (intro w hE; have b0 := cellb b0 hE; have b1 := cellb b1 hE; (try dsimp only); go_simp); (try with_reducible rfl)
    try simp only [Act.put, List.setIfInBounds_toArray, List.set_cons_zero, List.set_cons_succ]
    refine wpAnyE_take (i := 3) (oi := { dst := some 47, op := Op.load 24 (Operand.tmp 46), type := 24, pos := "top01_wt43d.go:32", after := #[{ on := 2, ground := Ground.data }, { on := 4, ground := Ground.gcOnly Departure.lateStores }], guard := none }) (v := ?_) rfl (by kernel_rfl) (by kernel_rfl) (by kernel_rfl) (by kernel_rfl) (fun _ _ _ h => h) (Or.inl ⟨by rfl, ?_⟩) ?_
    rotate_left
    · (intro w hE; have b0 := cellb b0 hE; have b1 := cellb b1 hE; (try dsimp only); go_simp); (try with_reducible rfl)
    try simp only [Act.put, List.setIfInBounds_toArray, List.set_cons_zero, List.set_cons_succ]
    refine wpAnyE_take (i := 4) (oi := { dst := some 7, op := Op.assign (Operand.tmp 45), type := 24, pos := "top01_wt43d.go:32", after := #[{ on := 1, ground := Ground.data }, { on := 0, ground := Ground.phase }, { on := 1, ground := Ground.phase }, { on := 2, ground := Ground.textOnly Departure.lateStores }, { on := 3, ground := Ground.textOnly Departure.lateStores }], guard := none }) (v := ?_) rfl (by kernel_rfl) (by kernel_rfl) (by kernel_rfl) (by kernel_rfl) (fun _ _ _ h => h) (Or.inl ⟨by rfl, ?_⟩) ?_
    rotate_left
    · (intro w hE; have b0 := cellb b0 hE; have b1 := cellb b1 hE; (try dsimp only); go_simp); (try with_reducible rfl)
    try simp only [Act.put, List.setIfInBounds_toArray, List.set_cons_zero, List.set_cons_succ]
    refine wpAnyE_take (i := 5) (oi := { dst := some 8, op := Op.assign (Operand.tmp 47), type := 24, pos := "top01_wt43d.go:32", after := #[{ on := 3, ground := Ground.data }, { on := 4, ground := Ground.chain }, { on := 0, ground := Ground.phase }, { on := 1, ground := Ground.phase }, { on := 2, ground := Ground.phase }, { on := 3, ground := Ground.phase }, { on := 4, ground := Ground.phase }], guard := none }) (v := ?_) rfl (by kernel_rfl) (by kernel_rfl) (by kernel_rfl) (by kernel_rfl) (fun _ _ _ h => h) (Or.inl ⟨by rfl, ?_⟩) ?_
    rotate_left
    · (intro w hE; have b0 := cellb b0 hE; have b1 := cellb b1 hE; (try dsimp only); go_simp); (try with_reducible rfl)
    try simp only [Act.put, List.setIfInBounds_toArray, List.set_cons_zero, List.set_cons_succ]
    refine wpAnyE_done (by kernel_rfl) (fun wy1 hE => ?_) _
    have hbz1 := bthen hbz hE
    have b0 := cellb b0 hE
    have b1 := cellb b1 hE
    have i1 := i1.carry hE
    have i2 := i2.carry hE
    have hT := hT.carry hE
    clear hE
    have hB := hbz1
    obtain ⟨W3, hW3⟩ : ∃ v, v = wy1 := ⟨_, rfl⟩
    rw [← hW3] at hB i1 i2 hT ⊢
    clear hW3
    clear b0 b1 i2
    obtain ⟨bd, hbd⟩ : ∃ bd : Nat → Bool, bd = fun (j : Nat) => wrB wg (j : Int) := ⟨_, rfl⟩
    obtain ⟨kk, hkk⟩ : ∃ kk : Nat, kk = (n0 % 16).toNat := ⟨_, rfl⟩
    obtain ⟨dd, hdd⟩ : ∃ dd : Int, dd = 1 + n1 % 255 := ⟨_, rfl⟩
    have hk16 : kk < 16 := by omega
    have hd255 : 1 ≤ dd ∧ dd ≤ 255 := by omega
    have HBD := Lib.hid hbd
    have HKK := Lib.hid hkk
    have HDD := Lib.hid hdd
    have HK16 := Lib.hid hk16
    have HD255 := Lib.hid hd255
    clear hbd hkk hdd hk16 hd255
    obtain ⟨F, hF⟩ : ∃ F : Nat → List Int, F = frF (teleF (phs xs) fs) bd kk dd := ⟨_, rfl⟩
    have HF := Lib.hid hF
    clear hF
    have hWf : IntKind.i64.wrap fs = fs := IntWalk.i64_in _ (by omega)
    go_wp2_with fail
    go_loopw [9, 10, 11, 50] (fun u9 u10 u11 i wx => ∃ k : Nat, k ≤ m ∧ i = .int .i64 k ∧ Bag W3.heap.size wx u9 u10 u11 ((List.range k).map (phs xs)) (codeL F (2 * k)) (badN bd (2 * k)) ∧ Below W3.heap.size W3 wx) (fun _ _ _ i _ => m - (intOf i).toNat)
    case atStart => exact ⟨0, by omega, rfl, ⟨World.ownsRow_nil _ _ _ _, World.ownsRow_nil _ _ _ _, World.ownsRow_nil _ _ _ _, fun g h => by simp [Value.ownBlock] at h, fun g h => by simp [Value.ownBlock] at h, fun g h => by simp [Value.ownBlock] at h, Nat.le_refl _⟩, Below.refl _ _⟩
    case round =>
      obtain ⟨k, hk, rfl, hbag, hbel⟩ := hrel
      by_cases hlt : k < m
      · as_aux_lemma =>
          obtain ⟨x, hx⟩ : ∃ x, xs[k]? = some x := ⟨_, List.getElem?_eq_getElem (by rw [← HM.out]; exact hlt)⟩
          obtain ⟨g0, g1, g2, g3, g4, g5⟩ := H8.out x (List.mem_of_getElem? hx)
          obtain ⟨a', cap', hv', hcs0⟩ := HV.out
          simp only [Value.slice.injEq] at hv'
          obtain ⟨rfl, -, rfl⟩ := hv'
          obtain ⟨ba, off, rfl, hcs⟩ := hcs0 (by rw [← HM.out]; omega)
          obtain ⟨c0, c1, c2, c3, c4, c5⟩ := hcs k x hx
          have hBx := hB.trans (hbel.mono hB.size)
          have c0 := cellb c0 hBx
          have c1 := cellb c1 hBx
          have c2 := cellb c2 hBx
          have c3 := cellb c3 hBx
          have c4 := cellb c4 hBx
          have c5 := cellb c5 hBx
          obtain ⟨y, hy⟩ : ∃ y, y = phs xs k := ⟨_, rfl⟩
          have hyx : y = phE x := by rw [hy, phs, hx]; rfl
          have hys := phE_sml x
          rw [← hyx] at hys
          have HY := Lib.hid hy
          obtain ⟨x0, x1, x2, x3, x4, x5⟩ := x
          simp only at c0 c1 c2 c3 c4 c5 g0 g1 g2 g3 g4 g5
          unfold I8 at g0 g1 g2 g3 g4 g5
          have K5 := Lib.hid (fun W => thNumber_ok x0 x1 W (by omega) (by omega))
          have K11 := Lib.hid (fun W => thNumber_ok x2 x3 W (by omega) (by omega))
          have K17 := Lib.hid (fun W => thNumber_ok x4 x5 W (by omega) (by omega))
          have TP := Lib.hid (fun W => thPair_ok y (fs + (k : Int)) W (by omega))
          obtain ⟨y0, y1, y2, y3, y4, y5⟩ := y
          simp only [phE, Prod.mk.injEq] at hyx
          obtain ⟨e0, e1, e2, e3, e4, e5⟩ := hyx
          rw [← e0, ← e1] at K5
          rw [← e2, ← e3] at K11
          rw [← e4, ← e5] at K17
          clear e0 e1 e2 e3 e4 e5 g0 g1 g2 g3 g4 g5 hcs hcs0 hy hx hBx
          have hdk : (k : Int) < (m : Int) := by omega
          go_upto_region 10 with fail
          obtain ⟨W4, hW4⟩ : ∃ v, v = World.alloc wr (Obj.cells #[.int .i8 x0, .int .i8 x1, .int .i8 x2, .int .i8 x3, .int .i8 x4, .int .i8 x5] 31) := ⟨_, rfl⟩
          have kW4 : Below wr.heap.size wr W4 := by rw [hW4]; exact below_new _ _
          have iW4 : Blk W4 (wr.heap.size) 31 [.int .i8 x0, .int .i8 x1, .int .i8 x2, .int .i8 x3, .int .i8 x4, .int .i8 x5] := by rw [hW4]; exact Blk.new _ _ _
          have sW4 : W4.heap.size = wr.heap.size + 1 := by rw [hW4]; simp
          rw [← hW4]
          clear hW4
          replace hbag := hbag.carry kW4
          replace hbel := bthen hbel kW4
          have i4 := iW4
          clear c0 c1 c2 c3 c4 c5 iW4 kW4 sW4
          have c0 := i4.cell (j := 0) (v := .int .i8 x0) rfl
          have c1 := i4.cell (j := 1) (v := .int .i8 x1) rfl
          have c2 := i4.cell (j := 2) (v := .int .i8 x2) rfl
          have c3 := i4.cell (j := 3) (v := .int .i8 x3) rfl
          have c4 := i4.cell (j := 4) (v := .int .i8 x4) rfl
          have c5 := i4.cell (j := 5) (v := .int .i8 x5) rfl
          clear i4
          refine wp_region_E 20 (by kernel_rfl) ?_
          obtain ⟨wz, hwz⟩ : ∃ v, v = W4.drew := ⟨_, rfl⟩
          rw [← hwz]
          have hlz : Below W4.heap.size W4 wz := by rw [hwz]; exact (Below.refl _ _).drew
          have hbz := bthen hbel hlz
          have c0 := cellb c0 hlz
          have c1 := cellb c1 hlz
          have c2 := cellb c2 hlz
          have c3 := cellb c3 hlz
          have c4 := cellb c4 hlz
          have c5 := cellb c5 hlz
          have hbag := hbag.carry hlz
          clear hwz hlz
          refine wpAnyE_take (i := 0) (oi := { dst := some 55, op := Op.indexAddr 31 (Operand.tmp 14) (Operand.const (Value.int IntKind.i64 0)), type := 0, pos := "top01_wt43d.go:37", after := #[], guard := none }) (v := ?_) rfl (by kernel_rfl) (by kernel_rfl) (by kernel_rfl) (by kernel_rfl) (fun _ _ _ h => h) (Or.inl ⟨by rfl, ?_⟩) ?_
          rotate_left
          · (intro w hE; have c0 := cellb c0 hE; have c1 := cellb c1 hE; have c2 := cellb c2 hE; have c3 := cellb c3 hE; have c4 := cellb c4 hE; have c5 := cellb c5 hE; (try dsimp only); go_simp); (try with_reducible rfl)
          try simp only [Act.put, List.setIfInBounds_toArray, List.set_cons_zero, List.set_cons_succ]
          refine wpAnyE_take (i := 1) (oi := { dst := some 56, op := Op.load 30 (Operand.tmp 55), type := 30, pos := "top01_wt43d.go:37", after := #[{ on := 0, ground := Ground.data }], guard := none }) (v := ?_) rfl (by kernel_rfl) (by kernel_rfl) (by kernel_rfl) (by kernel_rfl) (fun _ _ _ h => h) (Or.inl ⟨by rfl, ?_⟩) ?_
          rotate_left
          · (intro w hE; have c0 := cellb c0 hE; have c1 := cellb c1 hE; have c2 := cellb c2 hE; have c3 := cellb c3 hE; have c4 := cellb c4 hE; have c5 := cellb c5 hE; (try dsimp only); go_simp); (try with_reducible rfl)
          try simp only [Act.put, List.setIfInBounds_toArray, List.set_cons_zero, List.set_cons_succ]
          refine wpAnyE_take (i := 2) (oi := { dst := some 57, op := Op.indexAddr 31 (Operand.tmp 14) (Operand.const (Value.int IntKind.i64 1)), type := 0, pos := "top01_wt43d.go:37", after := #[], guard := none }) (v := ?_) rfl (by kernel_rfl) (by kernel_rfl) (by kernel_rfl) (by kernel_rfl) (fun _ _ _ h => h) (Or.inl ⟨by rfl, ?_⟩) ?_
          rotate_left
          · (intro w hE; have c0 := cellb c0 hE; have c1 := cellb c1 hE; have c2 := cellb c2 hE; have c3 := cellb c3 hE; have c4 := cellb c4 hE; have c5 := cellb c5 hE; (try dsimp only); go_simp); (try with_reducible rfl)
          try simp only [Act.put, List.setIfInBounds_toArray, List.set_cons_zero, List.set_cons_succ]
          refine wpAnyE_take (i := 3) (oi := { dst := some 58, op := Op.load 30 (Operand.tmp 57), type := 30, pos := "top01_wt43d.go:37", after := #[{ on := 2, ground := Ground.data }], guard := none }) (v := ?_) rfl (by kernel_rfl) (by kernel_rfl) (by kernel_rfl) (by kernel_rfl) (fun _ _ _ h => h) (Or.inl ⟨by rfl, ?_⟩) ?_
          rotate_left
          · (intro w hE; have c0 := cellb c0 hE; have c1 := cellb c1 hE; have c2 := cellb c2 hE; have c3 := cellb c3 hE; have c4 := cellb c4 hE; have c5 := cellb c5 hE; (try dsimp only); go_simp); (try with_reducible rfl)
          try simp only [Act.put, List.setIfInBounds_toArray, List.set_cons_zero, List.set_cons_succ]
          refine wpAnyE_take (i := 4) (oi := { dst := some 59, op := Op.build 35 #[(0, Operand.tmp 56), (1, Operand.tmp 58)], type := 35, pos := "top01_wt43d.go:37", after := #[{ on := 1, ground := Ground.data }, { on := 3, ground := Ground.data }], guard := none }) (v := ?_) rfl (by kernel_rfl) (by kernel_rfl) (by kernel_rfl) (by kernel_rfl) (fun _ _ _ h => h) (Or.inl ⟨by rfl, ?_⟩) ?_
          rotate_left
          · (intro w hE; have c0 := cellb c0 hE; have c1 := cellb c1 hE; have c2 := cellb c2 hE; have c3 := cellb c3 hE; have c4 := cellb c4 hE; have c5 := cellb c5 hE; (try dsimp only); go_simp); (try with_reducible rfl)
          try simp only [Act.put, List.setIfInBounds_toArray, List.set_cons_zero, List.set_cons_succ]
          refine wpAnyE_take (i := 6) (oi := { dst := some 61, op := Op.indexAddr 31 (Operand.tmp 14) (Operand.const (Value.int IntKind.i64 2)), type := 0, pos := "top01_wt43d.go:37", after := #[], guard := none }) (v := ?_) rfl (by kernel_rfl) (by kernel_rfl) (by kernel_rfl) (by kernel_rfl) (fun _ _ _ h => h) (Or.inl ⟨by rfl, ?_⟩) ?_
          rotate_left
          · (intro w hE; have c0 := cellb c0 hE; have c1 := cellb c1 hE; have c2 := cellb c2 hE; have c3 := cellb c3 hE; have c4 := cellb c4 hE; have c5 := cellb c5 hE; (try dsimp only); go_simp); (try with_reducible rfl)
          try simp only [Act.put, List.setIfInBounds_toArray, List.set_cons_zero, List.set_cons_succ]
          refine wpAnyE_take (i := 7) (oi := { dst := some 62, op := Op.load 30 (Operand.tmp 61), type := 30, pos := "top01_wt43d.go:37", after := #[{ on := 6, ground := Ground.data }], guard := none }) (v := ?_) rfl (by kernel_rfl) (by kernel_rfl) (by kernel_rfl) (by kernel_rfl) (fun _ _ _ h => h) (Or.inl ⟨by rfl, ?_⟩) ?_
          rotate_left
          · (intro w hE; have c0 := cellb c0 hE; have c1 := cellb c1 hE; have c2 := cellb c2 hE; have c3 := cellb c3 hE; have c4 := cellb c4 hE; have c5 := cellb c5 hE; (try dsimp only); go_simp); (try with_reducible rfl)
          try simp only [Act.put, List.setIfInBounds_toArray, List.set_cons_zero, List.set_cons_succ]
          refine wpAnyE_take (i := 8) (oi := { dst := some 63, op := Op.indexAddr 31 (Operand.tmp 14) (Operand.const (Value.int IntKind.i64 3)), type := 0, pos := "top01_wt43d.go:37", after := #[], guard := none }) (v := ?_) rfl (by kernel_rfl) (by kernel_rfl) (by kernel_rfl) (by kernel_rfl) (fun _ _ _ h => h) (Or.inl ⟨by rfl, ?_⟩) ?_
          rotate_left
          · (intro w hE; have c0 := cellb c0 hE; have c1 := cellb c1 hE; have c2 := cellb c2 hE; have c3 := cellb c3 hE; have c4 := cellb c4 hE; have c5 := cellb c5 hE; (try dsimp only); go_simp); (try with_reducible rfl)
          try simp only [Act.put, List.setIfInBounds_toArray, List.set_cons_zero, List.set_cons_succ]
          refine wpAnyE_take (i := 9) (oi := { dst := some 64, op := Op.load 30 (Operand.tmp 63), type := 30, pos := "top01_wt43d.go:37", after := #[{ on := 8, ground := Ground.data }], guard := none }) (v := ?_) rfl (by kernel_rfl) (by kernel_rfl) (by kernel_rfl) (by kernel_rfl) (fun _ _ _ h => h) (Or.inl ⟨by rfl, ?_⟩) ?_
          rotate_left
          · (intro w hE; have c0 := cellb c0 hE; have c1 := cellb c1 hE; have c2 := cellb c2 hE; have c3 := cellb c3 hE; have c4 := cellb c4 hE; have c5 := cellb c5 hE; (try dsimp only); go_simp); (try with_reducible rfl)
          try simp only [Act.put, List.setIfInBounds_toArray, List.set_cons_zero, List.set_cons_succ]
          refine wpAnyE_take (i := 10) (oi := { dst := some 65, op := Op.build 35 #[(0, Operand.tmp 62), (1, Operand.tmp 64)], type := 35, pos := "top01_wt43d.go:37", after := #[{ on := 7, ground := Ground.data }, { on := 9, ground := Ground.data }], guard := none }) (v := ?_) rfl (by kernel_rfl) (by kernel_rfl) (by kernel_rfl) (by kernel_rfl) (fun _ _ _ h => h) (Or.inl ⟨by rfl, ?_⟩) ?_
          rotate_left
          · (intro w hE; have c0 := cellb c0 hE; have c1 := cellb c1 hE; have c2 := cellb c2 hE; have c3 := cellb c3 hE; have c4 := cellb c4 hE; have c5 := cellb c5 hE; (try dsimp only); go_simp); (try with_reducible rfl)
          try simp only [Act.put, List.setIfInBounds_toArray, List.set_cons_zero, List.set_cons_succ]
          refine wpAnyE_take (i := 12) (oi := { dst := some 67, op := Op.indexAddr 31 (Operand.tmp 14) (Operand.const (Value.int IntKind.i64 4)), type := 0, pos := "top01_wt43d.go:37", after := #[], guard := none }) (v := ?_) rfl (by kernel_rfl) (by kernel_rfl) (by kernel_rfl) (by kernel_rfl) (fun _ _ _ h => h) (Or.inl ⟨by rfl, ?_⟩) ?_
          rotate_left
          · (intro w hE; have c0 := cellb c0 hE; have c1 := cellb c1 hE; have c2 := cellb c2 hE; have c3 := cellb c3 hE; have c4 := cellb c4 hE; have c5 := cellb c5 hE; (try dsimp only); go_simp); (try with_reducible rfl)
          try simp only [Act.put, List.setIfInBounds_toArray, List.set_cons_zero, List.set_cons_succ]
          refine wpAnyE_take (i := 13) (oi := { dst := some 68, op := Op.load 30 (Operand.tmp 67), type := 30, pos := "top01_wt43d.go:37", after := #[{ on := 12, ground := Ground.data }], guard := none }) (v := ?_) rfl (by kernel_rfl) (by kernel_rfl) (by kernel_rfl) (by kernel_rfl) (fun _ _ _ h => h) (Or.inl ⟨by rfl, ?_⟩) ?_
          rotate_left
          · (intro w hE; have c0 := cellb c0 hE; have c1 := cellb c1 hE; have c2 := cellb c2 hE; have c3 := cellb c3 hE; have c4 := cellb c4 hE; have c5 := cellb c5 hE; (try dsimp only); go_simp); (try with_reducible rfl)
          try simp only [Act.put, List.setIfInBounds_toArray, List.set_cons_zero, List.set_cons_succ]
          refine wpAnyE_take (i := 14) (oi := { dst := some 69, op := Op.indexAddr 31 (Operand.tmp 14) (Operand.const (Value.int IntKind.i64 5)), type := 0, pos := "top01_wt43d.go:37", after := #[], guard := none }) (v := ?_) rfl (by kernel_rfl) (by kernel_rfl) (by kernel_rfl) (by kernel_rfl) (fun _ _ _ h => h) (Or.inl ⟨by rfl, ?_⟩) ?_
          rotate_left
          · (intro w hE; have c0 := cellb c0 hE; have c1 := cellb c1 hE; have c2 := cellb c2 hE; have c3 := cellb c3 hE; have c4 := cellb c4 hE; have c5 := cellb c5 hE; (try dsimp only); go_simp); (try with_reducible rfl)
          try simp only [Act.put, List.setIfInBounds_toArray, List.set_cons_zero, List.set_cons_succ]
          refine wpAnyE_take (i := 15) (oi := { dst := some 70, op := Op.load 30 (Operand.tmp 69), type := 30, pos := "top01_wt43d.go:37", after := #[{ on := 14, ground := Ground.data }], guard := none }) (v := ?_) rfl (by kernel_rfl) (by kernel_rfl) (by kernel_rfl) (by kernel_rfl) (fun _ _ _ h => h) (Or.inl ⟨by rfl, ?_⟩) ?_
          rotate_left
          · (intro w hE; have c0 := cellb c0 hE; have c1 := cellb c1 hE; have c2 := cellb c2 hE; have c3 := cellb c3 hE; have c4 := cellb c4 hE; have c5 := cellb c5 hE; (try dsimp only); go_simp); (try with_reducible rfl)
          try simp only [Act.put, List.setIfInBounds_toArray, List.set_cons_zero, List.set_cons_succ]
          refine wpAnyE_take (i := 16) (oi := { dst := some 71, op := Op.build 35 #[(0, Operand.tmp 68), (1, Operand.tmp 70)], type := 35, pos := "top01_wt43d.go:37", after := #[{ on := 13, ground := Ground.data }, { on := 15, ground := Ground.data }], guard := none }) (v := ?_) rfl (by kernel_rfl) (by kernel_rfl) (by kernel_rfl) (by kernel_rfl) (fun _ _ _ h => h) (Or.inl ⟨by rfl, ?_⟩) ?_
          rotate_left
          · (intro w hE; have c0 := cellb c0 hE; have c1 := cellb c1 hE; have c2 := cellb c2 hE; have c3 := cellb c3 hE; have c4 := cellb c4 hE; have c5 := cellb c5 hE; (try dsimp only); go_simp); (try with_reducible rfl)
          try simp only [Act.put, List.setIfInBounds_toArray, List.set_cons_zero, List.set_cons_succ]
          refine wpAnyE_call (i := 5) (oi := { dst := some 60, op := Op.call { callee := Callee.value (Operand.func 5), args := #[Operand.tmp 59], argTypes := #[35] }, type := 33, pos := "top01_wt43d.go:37", after := #[{ on := 4, ground := Ground.data }], guard := none }) (fun w hE => K5.out w) rfl (by kernel_rfl) (by kernel_rfl) (by kernel_rfl) (by kernel_rfl) (fun _ _ _ h => h) (by rfl) (fun w hE => by (try dsimp only); go_simp) ?_
          try simp only [Act.put, List.setIfInBounds_toArray, List.set_cons_zero, List.set_cons_succ]
          refine wpAnyE_call (i := 11) (oi := { dst := some 66, op := Op.call { callee := Callee.value (Operand.func 5), args := #[Operand.tmp 65], argTypes := #[35] }, type := 33, pos := "top01_wt43d.go:37", after := #[{ on := 10, ground := Ground.data }, { on := 5, ground := Ground.chain }], guard := none }) (fun w hE => K11.out w) rfl (by kernel_rfl) (by kernel_rfl) (by kernel_rfl) (by kernel_rfl) (fun _ _ _ h => h) (by rfl) (fun w hE => by (try dsimp only); go_simp) ?_
          try simp only [Act.put, List.setIfInBounds_toArray, List.set_cons_zero, List.set_cons_succ]
          refine wpAnyE_call (i := 17) (oi := { dst := some 72, op := Op.call { callee := Callee.value (Operand.func 5), args := #[Operand.tmp 71], argTypes := #[35] }, type := 33, pos := "top01_wt43d.go:37", after := #[{ on := 16, ground := Ground.data }, { on := 11, ground := Ground.chain }], guard := none }) (fun w hE => K17.out w) rfl (by kernel_rfl) (by kernel_rfl) (by kernel_rfl) (by kernel_rfl) (fun _ _ _ h => h) (by rfl) (fun w hE => by (try dsimp only); go_simp) ?_
          try simp only [Act.put, List.setIfInBounds_toArray, List.set_cons_zero, List.set_cons_succ]
          refine wpAnyE_take (i := 18) (oi := { dst := some 73, op := Op.build 37 #[(0, Operand.tmp 60), (1, Operand.tmp 66), (2, Operand.tmp 72)], type := 37, pos := "top01_wt43d.go:37", after := #[{ on := 5, ground := Ground.data }, { on := 11, ground := Ground.data }, { on := 17, ground := Ground.data }], guard := none }) (v := ?_) rfl (by kernel_rfl) (by kernel_rfl) (by kernel_rfl) (by kernel_rfl) (fun _ _ _ h => h) (Or.inl ⟨by rfl, ?_⟩) ?_
          rotate_left
          · (intro w hE; have c0 := cellb c0 hE; have c1 := cellb c1 hE; have c2 := cellb c2 hE; have c3 := cellb c3 hE; have c4 := cellb c4 hE; have c5 := cellb c5 hE; (try dsimp only); go_simp); (try with_reducible rfl)
          try simp only [Act.put, List.setIfInBounds_toArray, List.set_cons_zero, List.set_cons_succ]
          refine wpAnyE_one (i := 19) (o := { dst := some 15, op := Op.alloc 37, type := 0, pos := "top01_wt43d.go:37", after := #[], guard := none }) (by kernel_rfl) rfl (fun wy1 hE K hK => ?_)
          have c0 := cellb c0 hE
          have c1 := cellb c1 hE
          have c2 := cellb c2 hE
          have c3 := cellb c3 hE
          have c4 := cellb c4 hE
          have c5 := cellb c5 hE
          have hbag := hbag.carry hE
          have hbz1 := bthen hbz hE
          clear hE
          go_simp
          obtain ⟨wx1, hwz⟩ : ∃ v, v = wy1.alloc (Obj.cells #[.int .i64 0, .int .i64 0, .int .i64 0, .int .i64 0, .int .i64 0, .int .i64 0] 37) := ⟨_, rfl⟩
          rw [← hwz]
          have hl : Below wy1.heap.size wy1 wx1 := by rw [hwz]; exact below_new _ _
          have hcz1 := bthen hbz1 hl
          obtain ⟨Wp, hWp⟩ : ∃ v, v = wy1 := ⟨_, rfl⟩
          have hbag0 := hbag
          have hS : Since Wp wx1 := by rw [hWp]; exact ⟨hl⟩
          have iP : BlkI wx1 Wp.heap.size 37 [0, 0, 0, 0, 0, 0] := by rw [hwz, hWp]; exact Blk.new _ _ _
          have hGs : W3.heap.size ≤ Wp.heap.size := by rw [hWp]; exact (hbz1).size
          rw [← hWp] at hbag0
          rw [show wy1.heap.size = Wp.heap.size by rw [hWp]]
          clear hWp
          have c0 := cellb c0 hl
          have c1 := cellb c1 hl
          have c2 := cellb c2 hl
          have c3 := cellb c3 hl
          have c4 := cellb c4 hl
          have c5 := cellb c5 hl
          have hbag := hbag.carry hl
          clear hwz
          refine hK _ _ (fun _ => hl) ?_
          clear hK K hl
          try simp only [Act.put, List.setIfInBounds_toArray, List.set_cons_zero, List.set_cons_succ]
          refine wpAnyE_one (i := 20) (o := { dst := none, op := Op.store 37 (Operand.tmp 15) (Operand.tmp 73), type := 0, pos := "top01_wt43d.go:37", after := #[{ on := 19, ground := Ground.data }, { on := 18, ground := Ground.data }, { on := 17, ground := Ground.chain }, { on := 0, ground := Ground.phase }, { on := 1, ground := Ground.phase }, { on := 2, ground := Ground.phase }, { on := 3, ground := Ground.phase }, { on := 4, ground := Ground.phase }, { on := 5, ground := Ground.phase }, { on := 6, ground := Ground.phase }, { on := 7, ground := Ground.phase }, { on := 8, ground := Ground.phase }, { on := 9, ground := Ground.phase }, { on := 10, ground := Ground.phase }, { on := 11, ground := Ground.phase }, { on := 12, ground := Ground.phase }, { on := 13, ground := Ground.phase }, { on := 14, ground := Ground.phase }, { on := 15, ground := Ground.phase }, { on := 16, ground := Ground.phase }, { on := 17, ground := Ground.phase }, { on := 18, ground := Ground.phase }, { on := 19, ground := Ground.phase }], guard := none }) (by kernel_rfl) rfl (fun wy2 hE K hK => ?_)
          have c0 := cellb c0 hE
          have c1 := cellb c1 hE
          have c2 := cellb c2 hE
          have c3 := cellb c3 hE
          have c4 := cellb c4 hE
          have c5 := cellb c5 hE
          have hbag := hbag.carry hE
          have iP := iP.carry hE
          have hS := hS.carry hE
          have hbz2 := bthen hcz1 hE
          clear hE
          rw [if_pos (by rfl)]
          refine wp_storeA _ _ _ rfl Wp.heap.size [y0, y1, y2, y3, y4, y5] [0, 0, 0, 0, 0, 0] rfl rfl iP rfl Tryd.sizePh ?_
          obtain ⟨wx2, hwz⟩ : ∃ v, v = World.setRow wy2 Wp.heap.size (ia [y0, y1, y2, y3, y4, y5]) := ⟨_, rfl⟩
          rw [← hwz]
          have hcz2 : Below W3.heap.size W3 wx2 := by rw [hwz]; exact below_rowA hbz2 hGs _
          replace iP := BlkI.setRowA iP [y0, y1, y2, y3, y4, y5]
          rw [← hwz] at iP
          have hS : Since Wp wx2 := ⟨by rw [hwz]; exact below_rowA hS.below (Nat.le_refl _) _⟩
          clear hwz
          refine hK _ _ (fun h => absurd rfl h) ?_
          clear hK K
          try simp only [Act.put, List.setIfInBounds_toArray, List.set_cons_zero, List.set_cons_succ]
          refine wpAnyE_done (by kernel_rfl) (fun wy3 hE => ?_) _
          have hbz3 := bthen hcz2 hE
          have iP := iP.carry hE
          have hS := hS.carry hE
          clear hE
          have hbel := hbz3
          obtain ⟨W5, hW5⟩ : ∃ v, v = wy3 := ⟨_, rfl⟩
          rw [← hW5] at hbel iP hS ⊢
          clear hW5
          have hGo : ∀ g, u9.ownBlock = some g → g < Wp.heap.size := fun g e => (World.ownsRow.lt hbag0.oS g e).2
          have hbag := hbag0.carry hS.below
          clear hbag0 hS c0 c1 c2 c3 c4 c5
          obtain ⟨GP, hGP⟩ : ∃ G, G = Wp.heap.size := ⟨_, rfl⟩
          rw [← hGP] at iP hGo ⊢
          clear hGP hGs
          have p0 : W5.cell? ⟨GP, 0, none⟩ = some (.int .i64 y0) := BlkI.cell iP (j := 0) (by simp)
          have p1 : W5.cell? ⟨GP, 1, none⟩ = some (.int .i64 y1) := BlkI.cell iP (j := 1) (by simp)
          have p2 : W5.cell? ⟨GP, 2, none⟩ = some (.int .i64 y2) := BlkI.cell iP (j := 2) (by simp)
          have p3 : W5.cell? ⟨GP, 3, none⟩ = some (.int .i64 y3) := BlkI.cell iP (j := 3) (by simp)
          have p4 : W5.cell? ⟨GP, 4, none⟩ = some (.int .i64 y4) := BlkI.cell iP (j := 4) (by simp)
          have p5 : W5.cell? ⟨GP, 5, none⟩ = some (.int .i64 y5) := BlkI.cell iP (j := 5) (by simp)
          obtain ⟨i0, hi, hz0, hz1, hz2⟩ := info_parts Tryd.infoPhs
          have hlk : ((List.range k).map (phs xs)).length = k := by simp
          have HBG := Lib.hid hbag
          have hoS := hbag.oS
          unfold OwE at hoS
          rw [hlk] at hoS
          have hh3 := hbag.hs
          have hk8 : k ≤ 8 := by omega
          obtain ⟨sa, sc, rfl⟩ := own_slice hoS
          clear hbag hlk
          go_wp2_with (at_builtin; refine wpList_append_own_at _ rfl (.tmp 74) (.tmp 76) 27 rfl W3.heap.size 37 i0 _ 6 48 Tryd.undPhs hi hz0 hz1 hz2 rfl (by decide) (.slice sa k sc) k _ rfl (own_below hoS (below_new _ _)) ⟨W5.heap.size, 0, none⟩ 1 1 [.int .i64 y0, .int .i64 y1, .int .i64 y2, .int .i64 y3, .int .i64 y4, .int .i64 y5] rfl rfl (fun j u hj => (Blk.new W5 37 [.int .i64 y0, .int .i64 y1, .int .i64 y2, .int .i64 y3, .int .i64 y4, .int .i64 y5]).news j u hj) (by simp [Value.oneCell']) (by unfold maxLen; omega) (by omega) (by simp; omega) ?_; intro v9 w6 hown' hgrow _ hat; have iP6 : BlkI w6 GP 37 [y0, y1, y2, y3, y4, y5] := Blk.kept (Blk.carry iP (below_new _ _)) hgrow (fun e => Nat.lt_irrefl _ (hGo GP e.symm)); have p0 := BlkI.cell iP6 (j := 0) (by simp); have p1 := BlkI.cell iP6 (j := 1) (by simp); have p2 := BlkI.cell iP6 (j := 2) (by simp); have p3 := BlkI.cell iP6 (j := 3) (by simp); have p4 := BlkI.cell iP6 (j := 4) (by simp); have p5 := BlkI.cell iP6 (j := 5) (by simp); simp only [List.getElem?_cons_zero, List.getElem?_cons_succ, Option.getD_some] at p0 p1 p2 p3 p4 p5)
          have hbag2 := (HBG.out.carry (below_new W5 (.cells #[.int .i64 y0, .int .i64 y1, .int .i64 y2, .int .i64 y3, .int .i64 y4, .int .i64 y5] 37))).addS (ls' := (List.range (k + 1)).map (phs xs)) hgrow (by
            unfold OwE
            rw [List.range_succ, List.map_append, List.flatMap_append, List.length_append, List.length_map, List.length_range]
            have : [phs xs k].flatMap e3V = [.int .i64 y0, .int .i64 y1, .int .i64 y2, .int .i64 y3, .int .i64 y4, .int .i64 y5] := by rw [← HY.out]; rfl
            rw [List.map_cons, List.map_nil, this]
            exact hown') hat
          have hb6 : Below W3.heap.size W3 w6 := (bthen hbel (below_new W5 (.cells #[.int .i64 y0, .int .i64 y1, .int .i64 y2, .int .i64 y3, .int .i64 y4, .int .i64 y5] 37))).trans (below_grow (own_below hoS (below_new _ _)) (by simp; omega) hgrow)
          refine (TP.out w6).mono ?_
          rintro e w7 ⟨he, hb7⟩
          obtain ⟨P, hP⟩ : ∃ P : Int × Int, P = ((2 * (fs + (k : Int))) % 65536, (2 * (fs + (k : Int)) + 1) % 65536) := ⟨_, rfl⟩
          obtain ⟨t1, t2⟩ := P
          replace he : e = .returned (.agg #[.int .i64 5, .int .i64 t1, .int .i64 y0, .int .i64 y1, .int .i64 y2, .int .i64 y3, .int .i64 5, .int .i64 t2, .int .i64 y4, .int .i64 y5, .int .i64 0, .int .i64 0]) := by
            simp only [Prod.mk.injEq] at hP
            rw [he, hP.1, hP.2]; rfl
          subst he
          have HP := Lib.hid hP
          have hbag3 := hbag2.carry hb7
          have hb7' := bthen hb6 hb7
          clear hP hbag2 hb6 hb7 hown' hgrow hat hoS iP6 p0 p1 p2 p3 p4 p5 iP hGo hbel HBG
          go_wp2_with fail
          go_loopw [10, 11, 84] (fun u10 u11 i wx => ∃ q : Nat, q ≤ 2 ∧ i = .int .i64 q ∧ Bag W3.heap.size wx v9 u10 u11 ((List.range (k + 1)).map (phs xs)) (codeL F (2 * k + q)) (badN bd (2 * k + q)) ∧ Below W3.heap.size W3 wx) (fun _ _ i _ => 2 - (intOf i).toNat)
          case atStart => exact ⟨0, by omega, rfl, hbag3, hb7'⟩
          case round =>
            clear hbag3 hb7'
            obtain ⟨q, hq, rfl, hbag, hbel⟩ := hrel
            by_cases hq2 : q < 2
            · obtain ⟨T, hTe⟩ : ∃ T, T = teleF (phs xs) fs (2 * k + q) := ⟨_, rfl⟩
              have hTok : TgOk T := by rw [hTe]; exact teleF_ok (fun k => phE_sml _) _ _
              have hFj : F (2 * k + q) = frX T (bd (2 * k + q)) kk dd := by rw [HF.out, hTe]; rfl
              have hTsel : T = if q = 0 then (5, t1, y0, y1, y2, y3) else (5, t2, y4, y5, 0, 0) := by
                have hP := HP.out
                simp only [Prod.mk.injEq] at hP
                rw [hTe, hP.1, hP.2]
                unfold teleF
                have e1 : (2 * k + q) / 2 = k := by omega
                rw [e1, ← HY.out]
                by_cases h0 : q = 0
                · subst h0
                  rw [if_pos (by omega), if_pos rfl]; rfl
                · rw [if_neg (by omega), if_neg h0]; rfl
              have HFJ := Lib.hid hFj
              have HSEL := Lib.hid hTsel
              have HTOK := Lib.hid hTok
              clear hTe hFj hTsel hTok
              obtain ⟨ta, tb, tc, td, te, tf⟩ := T
              have hidx : ∀ W, Sem.run Tryd.prog (Instr.index 41 (.agg #[.int .i64 5, .int .i64 t1, .int .i64 y0, .int .i64 y1, .int .i64 y2, .int .i64 y3, .int .i64 5, .int .i64 t2, .int .i64 y4, .int .i64 y5, .int .i64 0, .int .i64 0]) (.int .i64 q)) W = .ok (.agg #[.int .i64 ta, .int .i64 tb, .int .i64 tc, .int .i64 td, .int .i64 te, .int .i64 tf]) W := fun W => by
                have hs := HSEL.out
                have hq3 : q = 0 ∨ q = 1 := by omega
                rcases hq3 with rfl | rfl
                · rw [if_pos rfl] at hs
                  simp only [Prod.mk.injEq] at hs
                  obtain ⟨rfl, rfl, rfl, rfl, rfl, rfl⟩ := hs
                  exact idxT0 _ _ _ _ _ _ _ _ _ _ _ _ W
                · rw [if_neg (by decide)] at hs
                  simp only [Prod.mk.injEq] at hs
                  obtain ⟨rfl, rfl, rfl, rfl, rfl, rfl⟩ := hs
                  exact idxT1 _ _ _ _ _ _ _ _ _ _ _ _ W
              have TE := Lib.hid (fun W => Encode_ok ta tb tc td te tf HTOK.out W)
              obtain ⟨f, hf⟩ : ∃ f, f = frm (ta, tb, tc, td, te, tf) := ⟨_, rfl⟩
              have hfl : f.length = 16 := by rw [hf]; rfl
              rw [← hf] at TE
              have HFR := Lib.hid hf
              have HFL := Lib.hid hfl
              clear hf hfl
              have hdq : (q : Int) < 2 := by omega
              go_upto_region 15 with fail
              obtain ⟨W8, hW8⟩ : ∃ v, v = World.alloc wr (Obj.cells #[.int .i64 ta, .int .i64 tb, .int .i64 tc, .int .i64 td, .int .i64 te, .int .i64 tf] 40) := ⟨_, rfl⟩
              have kW8 : Below wr.heap.size wr W8 := by rw [hW8]; exact below_new _ _
              have iW8 : Blk W8 (wr.heap.size) 40 [.int .i64 ta, .int .i64 tb, .int .i64 tc, .int .i64 td, .int .i64 te, .int .i64 tf] := by rw [hW8]; exact Blk.new _ _ _
              have sW8 : W8.heap.size = wr.heap.size + 1 := by rw [hW8]; simp
              rw [← hW8]
              clear hW8
              replace hbag := hbag.carry kW8
              replace hbel := bthen hbel kW8
              have c0 := iW8.cell (j := 0) (v := .int .i64 ta) rfl
              have c1 := iW8.cell (j := 1) (v := .int .i64 tb) rfl
              have c2 := iW8.cell (j := 2) (v := .int .i64 tc) rfl
              have c3 := iW8.cell (j := 3) (v := .int .i64 td) rfl
              have c4 := iW8.cell (j := 4) (v := .int .i64 te) rfl
              have c5 := iW8.cell (j := 5) (v := .int .i64 tf) rfl
              clear iW8 kW8 sW8 hidx
              go_wp2_with fail
              refine (TE.out W8).mono ?_
              rintro e w9 ⟨rfl, hb9⟩
              replace hbag := hbag.carry hb9
              replace hbel := bthen hbel hb9
              clear c0 c1 c2 c3 c4 c5 hb9
              have hz6 : BlkU (w9.alloc (.cells (ua (List.replicate 16 0)) 43)) w9.heap.size 43 (List.replicate 16 0) := Blk.new w9 _ _
              have hfl := HFL.out
              go_upto_region 16 with (refine wpList_storeU rfl _ _ _ rfl w9.heap.size f (List.replicate 16 0) rfl rfl hz6 (by rw [hfl]; rfl) (by rw [hfl]; exact Tryd.sizeA16) ?_)
              obtain ⟨W10, hW10⟩ : ∃ v, v = World.setRow (World.alloc w9 (Obj.cells #[.int .u8 0, .int .u8 0, .int .u8 0, .int .u8 0, .int .u8 0, .int .u8 0, .int .u8 0, .int .u8 0, .int .u8 0, .int .u8 0, .int .u8 0, .int .u8 0, .int .u8 0, .int .u8 0, .int .u8 0, .int .u8 0] 43)) w9.heap.size (ua f) := ⟨_, rfl⟩
              have hk10 : Below w9.heap.size w9 W10 := by rw [hW10]; exact zrow_below _ _ _ _
              have iF : BlkU W10 w9.heap.size 43 f := by rw [hW10]; exact BlkU.setRowU (Blk.new w9 43 ((List.replicate 16 0).map (Value.int .u8))) f
              rw [← hW10]
              have hGo : (∀ g, u10.ownBlock = some g → g < w9.heap.size) ∧ (∀ g, u11.ownBlock = some g → g < w9.heap.size) := ⟨fun g e => (World.ownsRow.lt hbag.oC g e).2, fun g e => (World.ownsRow.lt hbag.oN g e).2⟩
              have hGs : ∀ g, v9.ownBlock = some g → g < w9.heap.size := fun g e => (World.ownsRow.lt hbag.oS g e).2
              replace hbag := hbag.carry hk10
              have hG3 : W3.heap.size ≤ w9.heap.size := hbel.size
              replace hbel := bthen hbel hk10
              clear hz6 hW10 hk10 hfl
              have HFn := Lib.hid (show ∀ j, (F j).length = 16 from fun j => by rw [HF.out]; exact frX_len _ _ _ _)
              have hw2 : IntKind.i64.wrap (2 * (k : Int)) = 2 * (k : Int) := IntWalk.i64_in _ (by omega)
              have hw3 : IntKind.i64.wrap (2 * (k : Int) + (q : Int)) = 2 * (k : Int) + (q : Int) := IntWalk.i64_in _ (by omega)
              obtain ⟨SH, hSH⟩ : ∃ SH, SH = wg / 2 ^ (2 * k + q) := ⟨_, rfl⟩
              obtain ⟨Z, hZ⟩ : ∃ Z, Z = bits .and .u16 SH 1 := ⟨_, rfl⟩
              have hbq : bd (2 * k + q) = (Z == 1) := by
                rw [HBD.out, hZ, hSH]
                rfl
              have hSH' := hSH.symm
              have hZ' := hZ.symm
              clear hSH hZ
              cases hbt : bd (2 * k + q) with
              | true =>
                rw [hbt] at hbq HFJ
                replace hbq := hbq.symm
                have hbb := hbt
                have y0c : 0 ≤ kk ∧ kk < 16 := ⟨by omega, HK16.out⟩
                obtain ⟨y, hy⟩ : ∃ y, y = f.getD kk 0 := ⟨_, rfl⟩
                obtain ⟨c, hc⟩ : ∃ c, c = bits .xor .u8 y dd := ⟨_, rfl⟩
                have hfc : frX (ta, tb, tc, td, te, tf) true kk dd = f.set kk c := by
                  unfold frX
                  rw [if_pos rfl, ← HFR.out, hc, hy]
                have HFC := Lib.hid hfc
                have HBT := Lib.hid hbt
                have cF : W10.cell? ⟨w9.heap.size, kk, none⟩ = some (.int .u8 y) := by
                  have h9 : kk < f.length := by rw [HFL.out]; exact HK16.out
                  have : y = f[kk] := by rw [hy, List.getD, List.getElem?_eq_getElem h9]; rfl
                  rw [this]
                  exact Blk.cell iF (j := kk) (by rw [List.getElem?_map, List.getElem?_eq_getElem h9]; rfl)
                have fF := Blk.frozen iF kk
                have i1x := Blk.carry i1 hbel
                have d0 := i1x.cell (j := 0) (v := .int .u8 n0) rfl
                have d1 := i1x.cell (j := 1) (v := .int .u8 n1) rfl
                have q1 : IntKind.i64.wrap n0 = n0 := IntWalk.i64_in _ (by omega)
                have q2 : n0.tmod 16 = (kk : Int) := by rw [Int.tmod_eq_emod_of_nonneg hn0.1, HKK.out]; omega
                have q3 : n0 % 16 = (kk : Int) := by rw [HKK.out]; omega
                have q4 : IntKind.u8.wrap (1 + n1.tmod 255) = dd := by
                  rw [Int.tmod_eq_emod_of_nonneg hn1.1, HDD.out]
                  have : IntKind.u8.wrap (1 + n1 % 255) = (1 + n1 % 255) % 256 := rfl
                  rw [this]; omega
                have q5 : IntKind.u8.wrap (1 + n1 % 255) = dd := by
                  rw [HDD.out]
                  have : IntKind.u8.wrap (1 + n1 % 255) = (1 + n1 % 255) % 256 := rfl
                  rw [this]; omega
                have q6 := hc.symm
                have q7 : (kk : Int) < 16 := by omega
                clear hfc hy hc i1x hbt
                go_upto_region 19 with fail
                refine wp_region_E 12 (by kernel_rfl) ?_
                obtain ⟨wz, hwz⟩ : ∃ v, v = W10.drew := ⟨_, rfl⟩
                rw [← hwz]
                have hlz : Below W10.heap.size W10 wz := by rw [hwz]; exact (Below.refl _ _).drew
                have hbz := bthen hbel hlz
                have d0 := cellb d0 hlz
                have d1 := cellb d1 hlz
                have cF := cellb cF hlz
                have hbag := hbag.carry hlz
                have iF := iF.carry hlz
                clear hwz hlz
                refine wpAnyE_take (i := 0) (oi := { dst := some 103, op := Op.indexAddr 23 (Operand.tmp 4) (Operand.const (Value.int IntKind.i64 0)), type := 0, pos := "top01_wt43d.go:45", after := #[], guard := none }) (v := ?_) rfl (by kernel_rfl) (by kernel_rfl) (by kernel_rfl) (by kernel_rfl) (fun _ _ _ h => h) (Or.inl ⟨by rfl, ?_⟩) ?_
                rotate_left
                · (intro w hE; have d0 := cellb d0 hE; have d1 := cellb d1 hE; have cF := cellb cF hE; (try dsimp only); go_simp); (try with_reducible rfl)
                try simp only [Act.put, List.setIfInBounds_toArray, List.set_cons_zero, List.set_cons_succ]
                refine wpAnyE_take (i := 1) (oi := { dst := some 104, op := Op.load 5 (Operand.tmp 103), type := 5, pos := "top01_wt43d.go:45", after := #[{ on := 0, ground := Ground.data }], guard := none }) (v := ?_) rfl (by kernel_rfl) (by kernel_rfl) (by kernel_rfl) (by kernel_rfl) (fun _ _ _ h => h) (Or.inl ⟨by rfl, ?_⟩) ?_
                rotate_left
                · (intro w hE; have d0 := cellb d0 hE; have d1 := cellb d1 hE; have cF := cellb cF hE; (try dsimp only); go_simp); (try with_reducible rfl)
                try simp only [Act.put, List.setIfInBounds_toArray, List.set_cons_zero, List.set_cons_succ]
                refine wpAnyE_take (i := 2) (oi := { dst := some 105, op := Op.convert 5 3 (Operand.tmp 104), type := 3, pos := "top01_wt43d.go:45", after := #[{ on := 1, ground := Ground.data }], guard := none }) (v := ?_) rfl (by kernel_rfl) (by kernel_rfl) (by kernel_rfl) (by kernel_rfl) (fun _ _ _ h => h) (Or.inl ⟨by rfl, ?_⟩) ?_
                rotate_left
                · (intro w hE; have d0 := cellb d0 hE; have d1 := cellb d1 hE; have cF := cellb cF hE; (try dsimp only); go_simp); (try with_reducible rfl)
                try simp only [Act.put, List.setIfInBounds_toArray, List.set_cons_zero, List.set_cons_succ]
                refine wpAnyE_take (i := 3) (oi := { dst := some 106, op := Op.binOp BinOp.rem 3 (Operand.tmp 105) (Operand.const (Value.int IntKind.i64 16)) 3, type := 3, pos := "top01_wt43d.go:45", after := #[{ on := 2, ground := Ground.data }], guard := none }) (v := ?_) rfl (by kernel_rfl) (by kernel_rfl) (by kernel_rfl) (by kernel_rfl) (fun _ _ _ h => h) (Or.inl ⟨by rfl, ?_⟩) ?_
                rotate_left
                · (intro w hE; have d0 := cellb d0 hE; have d1 := cellb d1 hE; have cF := cellb cF hE; (try dsimp only); go_simp); (try with_reducible rfl)
                try simp only [Act.put, List.setIfInBounds_toArray, List.set_cons_zero, List.set_cons_succ]
                refine wpAnyE_take (i := 4) (oi := { dst := some 107, op := Op.indexAddr 43 (Operand.tmp 18) (Operand.tmp 106), type := 0, pos := "top01_wt43d.go:45", after := #[{ on := 3, ground := Ground.data }], guard := none }) (v := ?_) rfl (by kernel_rfl) (by kernel_rfl) (by kernel_rfl) (by kernel_rfl) (fun _ _ _ h => h) (Or.inl ⟨by rfl, ?_⟩) ?_
                rotate_left
                · (intro w hE; have d0 := cellb d0 hE; have d1 := cellb d1 hE; have cF := cellb cF hE; (try dsimp only); go_simp); (try with_reducible rfl)
                try simp only [Act.put, List.setIfInBounds_toArray, List.set_cons_zero, List.set_cons_succ]
                refine wpAnyE_take (i := 5) (oi := { dst := some 108, op := Op.load 5 (Operand.tmp 107), type := 5, pos := "top01_wt43d.go:45", after := #[{ on := 4, ground := Ground.data }], guard := none }) (v := ?_) rfl (by kernel_rfl) (by kernel_rfl) (by kernel_rfl) (by kernel_rfl) (fun _ _ _ h => h) (Or.inl ⟨by rfl, ?_⟩) ?_
                rotate_left
                · (intro w hE; have d0 := cellb d0 hE; have d1 := cellb d1 hE; have cF := cellb cF hE; (try dsimp only); go_simp); (try with_reducible rfl)
                try simp only [Act.put, List.setIfInBounds_toArray, List.set_cons_zero, List.set_cons_succ]
                refine wpAnyE_take (i := 6) (oi := { dst := some 109, op := Op.indexAddr 23 (Operand.tmp 4) (Operand.const (Value.int IntKind.i64 1)), type := 0, pos := "top01_wt43d.go:45", after := #[], guard := none }) (v := ?_) rfl (by kernel_rfl) (by kernel_rfl) (by kernel_rfl) (by kernel_rfl) (fun _ _ _ h => h) (Or.inl ⟨by rfl, ?_⟩) ?_
                rotate_left
                · (intro w hE; have d0 := cellb d0 hE; have d1 := cellb d1 hE; have cF := cellb cF hE; (try dsimp only); go_simp); (try with_reducible rfl)
                try simp only [Act.put, List.setIfInBounds_toArray, List.set_cons_zero, List.set_cons_succ]
                refine wpAnyE_take (i := 7) (oi := { dst := some 110, op := Op.load 5 (Operand.tmp 109), type := 5, pos := "top01_wt43d.go:45", after := #[{ on := 6, ground := Ground.data }], guard := none }) (v := ?_) rfl (by kernel_rfl) (by kernel_rfl) (by kernel_rfl) (by kernel_rfl) (fun _ _ _ h => h) (Or.inl ⟨by rfl, ?_⟩) ?_
                rotate_left
                · (intro w hE; have d0 := cellb d0 hE; have d1 := cellb d1 hE; have cF := cellb cF hE; (try dsimp only); go_simp); (try with_reducible rfl)
                try simp only [Act.put, List.setIfInBounds_toArray, List.set_cons_zero, List.set_cons_succ]
                refine wpAnyE_take (i := 8) (oi := { dst := some 111, op := Op.binOp BinOp.rem 5 (Operand.tmp 110) (Operand.const (Value.int IntKind.u8 255)) 5, type := 5, pos := "top01_wt43d.go:45", after := #[{ on := 7, ground := Ground.data }], guard := none }) (v := ?_) rfl (by kernel_rfl) (by kernel_rfl) (by kernel_rfl) (by kernel_rfl) (fun _ _ _ h => h) (Or.inl ⟨by rfl, ?_⟩) ?_
                rotate_left
                · (intro w hE; have d0 := cellb d0 hE; have d1 := cellb d1 hE; have cF := cellb cF hE; (try dsimp only); go_simp); (try with_reducible rfl)
                try simp only [Act.put, List.setIfInBounds_toArray, List.set_cons_zero, List.set_cons_succ]
                refine wpAnyE_take (i := 9) (oi := { dst := some 112, op := Op.binOp BinOp.add 5 (Operand.const (Value.int IntKind.u8 1)) (Operand.tmp 111) 5, type := 5, pos := "top01_wt43d.go:45", after := #[{ on := 8, ground := Ground.data }], guard := none }) (v := ?_) rfl (by kernel_rfl) (by kernel_rfl) (by kernel_rfl) (by kernel_rfl) (fun _ _ _ h => h) (Or.inl ⟨by rfl, ?_⟩) ?_
                rotate_left
                · (intro w hE; have d0 := cellb d0 hE; have d1 := cellb d1 hE; have cF := cellb cF hE; (try dsimp only); go_simp); (try with_reducible rfl)
                try simp only [Act.put, List.setIfInBounds_toArray, List.set_cons_zero, List.set_cons_succ]
                refine wpAnyE_take (i := 10) (oi := { dst := some 113, op := Op.binOp BinOp.xor 5 (Operand.tmp 108) (Operand.tmp 112) 5, type := 5, pos := "top01_wt43d.go:45", after := #[{ on := 5, ground := Ground.data }, { on := 9, ground := Ground.data }], guard := none }) (v := ?_) rfl (by kernel_rfl) (by kernel_rfl) (by kernel_rfl) (by kernel_rfl) (fun _ _ _ h => h) (Or.inl ⟨by rfl, ?_⟩) ?_
                rotate_left
                · (intro w hE; have d0 := cellb d0 hE; have d1 := cellb d1 hE; have cF := cellb cF hE; (try dsimp only); go_simp); (try with_reducible rfl)
                try simp only [Act.put, List.setIfInBounds_toArray, List.set_cons_zero, List.set_cons_succ]
                refine wpAnyE_take (i := 11) (oi := { dst := some 114, op := Op.indexAddr 43 (Operand.tmp 18) (Operand.tmp 106), type := 0, pos := "top01_wt43d.go:45", after := #[{ on := 3, ground := Ground.data }, { on := 0, ground := Ground.phase }, { on := 1, ground := Ground.phase }, { on := 2, ground := Ground.phase }, { on := 3, ground := Ground.phase }, { on := 4, ground := Ground.phase }, { on := 5, ground := Ground.phase }, { on := 6, ground := Ground.phase }, { on := 7, ground := Ground.phase }, { on := 8, ground := Ground.phase }, { on := 9, ground := Ground.phase }, { on := 10, ground := Ground.phase }], guard := none }) (v := ?_) rfl (by kernel_rfl) (by kernel_rfl) (by kernel_rfl) (by kernel_rfl) (fun _ _ _ h => h) (Or.inl ⟨by rfl, ?_⟩) ?_
                rotate_left
                · (intro w hE; have d0 := cellb d0 hE; have d1 := cellb d1 hE; have cF := cellb cF hE; (try dsimp only); go_simp); (try with_reducible rfl)
                try simp only [Act.put, List.setIfInBounds_toArray, List.set_cons_zero, List.set_cons_succ]
                refine wpAnyE_one (i := 12) (o := { dst := none, op := Op.store 5 (Operand.tmp 114) (Operand.tmp 113), type := 0, pos := "top01_wt43d.go:45", after := #[{ on := 11, ground := Ground.data }, { on := 10, ground := Ground.data }, { on := 0, ground := Ground.phase }, { on := 1, ground := Ground.phase }, { on := 2, ground := Ground.phase }, { on := 3, ground := Ground.phase }, { on := 4, ground := Ground.phase }, { on := 5, ground := Ground.phase }, { on := 6, ground := Ground.phase }, { on := 7, ground := Ground.phase }, { on := 8, ground := Ground.phase }, { on := 9, ground := Ground.phase }, { on := 10, ground := Ground.phase }], guard := none }) (by kernel_rfl) rfl (fun wy1 hE K hK => ?_)
                have d0 := cellb d0 hE
                have d1 := cellb d1 hE
                have cF := cellb cF hE
                have hbag := hbag.carry hE
                have iF := iF.carry hE
                have hbz1 := bthen hbz hE
                clear hE
                have fF := Blk.frozen iF kk
                go_simp
                obtain ⟨wx1, hwz⟩ : ∃ v, v = (wy1.setCell ⟨w9.heap.size, kk, none⟩ (.int .u8 c)) := ⟨_, rfl⟩
                rw [← hwz]
                have hcz1 : Below W3.heap.size W3 wx1 := by rw [hwz]; exact (hbz1).setCell hG3 _
                have iF := Blk.set iF kk (.int .u8 c)
                rw [← hwz] at iF
                have hbag := hbag.setF hGo.1 hGo.2 hGs kk (.int .u8 c)
                rw [← hwz] at hbag
                clear hwz
                refine hK _ _ (fun h => absurd rfl h) ?_
                clear hK K
                try simp only [Act.put, List.setIfInBounds_toArray, List.set_cons_zero, List.set_cons_succ]
                refine wpAnyE_done (by kernel_rfl) (fun wy2 hE => ?_) _
                have hbz2 := bthen hcz1 hE
                have hbag := hbag.carry hE
                have iF := iF.carry hE
                clear hE
                have hbel := hbz2
                obtain ⟨W11, hW11⟩ : ∃ v, v = wy2 := ⟨_, rfl⟩
                rw [← hW11] at hbel iF hbag ⊢
                clear hW11
                have iF2 : BlkU W11 w9.heap.size 43 (f.set kk c) := by
                  unfold BlkU
                  rw [List.map_set]; exact iF
                clear iF cF fF d0 d1 q1 q2 q3 q4 q5 q6
                obtain ⟨n0i, hni, hniz0, hniz1, hniz2⟩ := info_parts Tryd.infoI3
                have hoN := hbag.oN
                unfold OwN at hoN
                have hbl := badN_le bd (2 * k + q)
                obtain ⟨NB, hNB⟩ : ∃ N, N = (badN bd (2 * k + q)).length := ⟨_, rfl⟩
                rw [← hNB] at hoN hbl
                have HNB := Lib.hid hNB
                clear hNB
                have hhN := hbag.hs
                obtain ⟨na, nc, rfl⟩ := own_slice hoN
                have HBN := Lib.hid hbag
                have hgF : ∀ g, (Value.slice na NB nc).ownBlock = some g → g < w9.heap.size := hGo.2
                clear hbag
                go_upto_region 21 with (at_builtin; refine wpList_append_own_at _ rfl (.tmp 115) (.tmp 120) 29 rfl W3.heap.size 3 n0i _ 1 8 Tryd.underlying29 hni hniz0 hniz1 hniz2 rfl (by decide) (.slice na NB nc) NB _ rfl (own_below hoN (below_new _ _)) ⟨W11.heap.size, 0, none⟩ 1 1 [.int .i64 (2 * (k : Int) + (q : Int))] rfl rfl (cell_one_new _ _ _) (by simp [Value.oneCell']) (by unfold maxLen; omega) (by omega) (by simp; omega) ?_; intro v11 W14 hownN hgrowN _ hatN)
                have hbagN := (HBN.out.carry (below_new W11 (.cells #[.int .i64 (2 * (k : Int) + (q : Int))] 3))).addN (bs' := badN bd (2 * k + q + 1)) hgrowN (by
                  unfold OwN
                  rw [badN_succ, HBT.out, if_pos rfl, List.length_append, List.map_append, ← HNB.out, show ((2 * k + q : Nat) : Int) = 2 * (k : Int) + (q : Int) by omega]
                  exact hownN) hatN
                have iF4 : BlkU W14 w9.heap.size 43 (f.set kk c) := Blk.kept (Blk.carry iF2 (below_new _ _)) hgrowN (fun e => Nat.lt_irrefl _ (hgF _ e.symm))
                have hbelN : Below W3.heap.size W3 W14 := (bthen hbel (below_new W11 (.cells #[.int .i64 (2 * (k : Int) + (q : Int))] 3))).trans (below_grow (own_below hoN (below_new _ _)) (by simp; omega) hgrowN)
                clear hownN hgrowN hatN hoN hhN iF2 hbel hgF HBN
                obtain ⟨j0, hj, hjz0, hjz1, hjz2⟩ := info_parts Tryd.infoU8
                have hoC := hbagN.oC
                unfold OwB at hoC
                rw [codeL_len HFn.out] at hoC
                obtain ⟨NC, hNC⟩ : ∃ N, N = 16 * (2 * k + q) := ⟨_, rfl⟩
                rw [← hNC] at hoC
                have hNC9 : NC ≤ 1000 := by omega
                have HNC := Lib.hid hNC
                clear hNC
                obtain ⟨ca, cc, rfl⟩ := own_slice hoC
                have hhC := hbagN.hs
                have HBC := Lib.hid hbagN
                have hFl : (f.set kk c).length = 16 := by rw [List.length_set]; exact HFL.out
                have hnews : ∀ (j : Nat) (u : Value), ((f.set kk c).map (Value.int .u8))[j]? = some u → W14.cell? ((⟨w9.heap.size, 0, none⟩ : Addr).add j) = some u := fun j u hj => by
                  rw [addr_add, Nat.zero_add]
                  exact Blk.cell iF4 hj
                have hone : ∀ u ∈ (f.set kk c).map (Value.int .u8), u.oneCell' = true := by
                  intro u hu
                  rw [List.mem_map] at hu
                  obtain ⟨x, _, rfl⟩ := hu
                  rfl
                have hlen16 : ((f.set kk c).map (Value.int .u8)).length = 16 * 1 := by rw [List.length_map, hFl]
                have HNW := Lib.hid hnews
                have HON := Lib.hid hone
                have HL16 := Lib.hid hlen16
                clear hbagN hnews hone hFl hlen16
                go_wp2_with (at_builtin; refine wpList_append_own_at _ rfl (.tmp 122) (.tmp 123) 28 rfl W3.heap.size 5 j0 _ 1 1 Tryd.underlying28 hj hjz0 hjz1 hjz2 rfl (by decide) (.slice ca NC cc) NC _ rfl hoC ⟨w9.heap.size, 0, none⟩ 16 16 _ rfl HL16.out HNW.out HON.out (by unfold maxLen; omega) (by omega) hhC ?_; intro v10 w12 hownC hgrowC _ hatC)
                have hbag9 := HBC.out.addC (cs' := codeL F (2 * k + q + 1)) hgrowC (by
                  unfold OwB
                  rw [codeL_len HFn.out, codeL_succ, HFJ.out, List.map_append, show 16 * (2 * k + q + 1) = NC + 16 by rw [HNC.out]; omega]
                  rw [HFC.out]
                  exact hownC) hatC
                have hbel9 : Below W3.heap.size W3 w12 := hbelN.trans (below_grow hoC hhC hgrowC)
                clear hownC hgrowC hatC hoC hhC iF4 hbelN
                go_wp2_with fail
                go_roundw
                case rel => exact ⟨q + 1, by omega, by go_num, by rw [show 2 * k + (q + 1) = 2 * k + q + 1 by omega]; exact hbag9, hbel9⟩
                case measure => simp [intOf]; omega
              | false =>
                rw [hbt] at hbq HFJ
                replace hbq := hbq.symm
                have HBT := Lib.hid hbt
                clear hbt
                obtain ⟨j0, hj, hjz0, hjz1, hjz2⟩ := info_parts Tryd.infoU8
                have hoC := hbag.oC
                unfold OwB at hoC
                rw [codeL_len HFn.out] at hoC
                obtain ⟨NC, hNC⟩ : ∃ N, N = 16 * (2 * k + q) := ⟨_, rfl⟩
                rw [← hNC] at hoC
                have hNC9 : NC ≤ 1000 := by omega
                have HNC := Lib.hid hNC
                clear hNC
                obtain ⟨ca, cc, rfl⟩ := own_slice hoC
                have hhC := hbag.hs
                have HBC := Lib.hid hbag
                have hFl : (f).length = 16 := HFL.out
                have hnews : ∀ (j : Nat) (u : Value), ((f).map (Value.int .u8))[j]? = some u → W10.cell? ((⟨w9.heap.size, 0, none⟩ : Addr).add j) = some u := fun j u hj => by
                  rw [addr_add, Nat.zero_add]
                  exact Blk.cell iF hj
                have hone : ∀ u ∈ (f).map (Value.int .u8), u.oneCell' = true := by
                  intro u hu
                  rw [List.mem_map] at hu
                  obtain ⟨x, _, rfl⟩ := hu
                  rfl
                have hlen16 : ((f).map (Value.int .u8)).length = 16 * 1 := by rw [List.length_map, hFl]
                have HNW := Lib.hid hnews
                have HON := Lib.hid hone
                have HL16 := Lib.hid hlen16
                clear hbag hnews hone hFl hlen16
                go_wp2_with (at_builtin; refine wpList_append_own_at _ rfl (.tmp 122) (.tmp 123) 28 rfl W3.heap.size 5 j0 _ 1 1 Tryd.underlying28 hj hjz0 hjz1 hjz2 rfl (by decide) (.slice ca NC cc) NC _ rfl hoC ⟨w9.heap.size, 0, none⟩ 16 16 _ rfl HL16.out HNW.out HON.out (by unfold maxLen; omega) (by omega) hhC ?_; intro v10 w12 hownC hgrowC _ hatC)
                have hbag9 := HBC.out.addC (cs' := codeL F (2 * k + q + 1)) hgrowC (by
                  unfold OwB
                  rw [codeL_len HFn.out, codeL_succ, HFJ.out, List.map_append, show 16 * (2 * k + q + 1) = NC + 16 by rw [HNC.out]; omega]
                  rw [show frX (ta, tb, tc, td, te, tf) false kk dd = f by unfold frX; rw [if_neg (by decide), HFR.out]]
                  exact hownC) hatC
                have hbel9 : Below W3.heap.size W3 w12 := hbel.trans (below_grow hoC hhC hgrowC)
                clear hownC hgrowC hatC hoC hhC iF hbel
                go_wp2_with fail
                go_roundw
                case rel => exact ⟨q + 1, by omega, by go_num, by rw [show 2 * k + (q + 1) = 2 * k + q + 1 by omega, badN_succ, HBT.out, if_neg (by decide), List.append_nil]; exact hbag9, hbel9⟩
                case measure => simp [intOf]; omega
            · obtain rfl : q = 2 := by omega
              go_wp2
              go_roundw
              case rel => exact ⟨k + 1, by omega, by go_num, by rw [show 2 * (k + 1) = 2 * k + 2 by omega]; exact hbag, hbel⟩
              case measure => simp [intOf]; omega
      · skip
        rename_i Qp j1 j2 j3 j4 j5 j6 j7 j8 j9 Kc aK
        clear j1 j2 j3 j4 j5 j6 j7 j8 j9 b0 b1 i2 hbz hbz1
        revert hn0 hn1 hwg hfs TW HV H8 HM Qp W1 W2 hm8 wz wy1 W3 hT i1 hB bd kk dd HBD HKK HDD HK16 HD255 F HF hWf Kc aK wr u6 u9 u10 u11 u13 u14 u15 u16 u17 u18 u19 u51 u52 u53 u54 u55 u56 u57 u58 u59 u60 u61 u62 u63 u64 u65 u66 u67 u68 u69 u70 u71 u72 u73 u74 u75 u76 u77 u78 u79 u80 u81 u82 u83 u84 u85 u86 u87 u88 u89 u90 u91 u92 u93 u94 u95 u96 u97 u98 u99 u100 u101 u102 u103 u104 u105 u106 u107 u108 u109 u110 u111 u112 u113 u114 u115 u116 u117 u118 u119 u120 u121 u122 u123 u124 u125 u126 k hk hbag hbel hlt
        exact HG.out
end Go.Proofs.YtjmdnolmaofbiaaDoor

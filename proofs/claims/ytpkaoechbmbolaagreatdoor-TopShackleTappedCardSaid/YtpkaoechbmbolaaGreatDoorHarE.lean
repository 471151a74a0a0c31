/- The package harmonic: turned. -/
import Derived.Test.YtpkaoechbmbolaaGreatDoorHarD
namespace Go.Proofs.YtpkaoechbmbolaaGreatDoor
set_option linter.unusedSimpArgs false
set_option linter.unusedVariables false
open Go.RowKit

/-- the table of the powers of the root, as it is laid. -/
def powC : List Int := [1, 0, 0, 0, 0, 0, 0, -1, 1, 1, 0, 0]
def Powers (w : World) : Prop := ∀ j, j < 12 → w.cell? ⟨0, j, none⟩ = some (.int .i64 (powC[j]?.getD 0))
theorem Powers.carry {w w' : World} (h : Powers w) (hb : Below w.heap.size w w') : Powers w' := fun j hj => cellb (h j hj) hb
/-- a number, multiplied by i so often. -/
def quarters : Nat → Int × Int × Int × Int → Int × Int × Int × Int
  | 0, x => x
  | k + 1, x => let y := quarters k x; (wrap64 (-y.2.2.1), wrap64 (-y.2.2.2), y.1, y.2.1)
def powAt (p : Nat) : Int × Int × Int × Int := (powC[4 * p]?.getD 0, powC[4 * p + 1]?.getD 0, powC[4 * p + 2]?.getD 0, powC[4 * p + 3]?.getD 0)
def cyMul (x y : Int × Int × Int × Int) : Int × Int × Int × Int :=
  (cy0 x.1 x.2.1 x.2.2.1 x.2.2.2 y.1 y.2.1 y.2.2.1 y.2.2.2, cy1 x.1 x.2.1 x.2.2.1 x.2.2.2 y.1 y.2.1 y.2.2.1 y.2.2.2, cy2 x.1 x.2.1 x.2.2.1 x.2.2.2 y.1 y.2.1 y.2.2.1 y.2.2.2, cy3 x.1 x.2.1 x.2.2.1 x.2.2.2 y.1 y.2.1 y.2.2.1 y.2.2.2)
def turnC (x : Int × Int × Int × Int) (m : Nat) : Int × Int × Int × Int := quarters (m / 3) (cyMul x (powAt (m % 3)))
def cyV (x : Int × Int × Int × Int) : Value := .agg #[.int .i64 x.1, .int .i64 x.2.1, .int .i64 x.2.2.1, .int .i64 x.2.2.2]

set_option maxRecDepth 100000 in
set_option maxHeartbeats 4000000 in
theorem turned_any (x0 x1 x2 x3 n : Int) (m : Nat) (w : World) (hp : Powers w) (hm : m < 12) (hn : (n.tmod 12 + 12) % 12 = m) :
    Calls Tryz.prog 104 #[.agg #[.int .i64 x0, .int .i64 x1, .int .i64 x2, .int .i64 x3], .int .i64 n] w fun e w' => e = .returned (cyV (turnC (x0, x1, x2, x3) m)) ∧ Below w.heap.size w w' := by
  have hr : -11 ≤ n.tmod 12 ∧ n.tmod 12 ≤ 11 := by
    have h := Int.natAbs_tmod n 12
    have h2 : n.natAbs % (12 : Int).natAbs < 12 := Nat.mod_lt _ (by decide)
    rw [← h] at h2
    omega
  obtain ⟨r, hre⟩ : ∃ r, n.tmod 12 = r := ⟨_, rfl⟩
  rw [hre] at hr hn
  obtain ⟨M, hM⟩ : ∃ M : Int, (m : Int) = M := ⟨_, rfl⟩
  rw [hM] at hn
  have hMb : 0 ≤ M ∧ M ≤ 11 := by omega
  have HP := Lib.hid hp
  have HMM := Lib.hid hM
  clear hp hM
  obtain ⟨T, hT⟩ : ∃ T, T = turnC (x0, x1, x2, x3) m := ⟨_, rfl⟩
  rw [← hT]
  go_enter Tryz.func104, Tryz.ntmps104
  go_upto_region 1 with fail
  obtain ⟨W1, hW1⟩ : ∃ v, v = World.alloc w (Obj.cells #[.int .i64 x0, .int .i64 x1, .int .i64 x2, .int .i64 x3] 68) := ⟨_, rfl⟩
  have kW1 : Below w.heap.size w W1 := by rw [hW1]; exact below_new _ _
  have iW1 : Blk W1 (w.heap.size) 68 [.int .i64 x0, .int .i64 x1, .int .i64 x2, .int .i64 x3] := by rw [hW1]; exact Blk.new _ _ _
  have sW1 : W1.heap.size = w.heap.size + 1 := by rw [hW1]; simp
  rw [← hW1]
  clear hW1
  obtain ⟨W2, hW2⟩ : ∃ v, v = World.alloc W1 (Obj.cells #[.int .i64 0, .int .i64 0, .int .i64 0, .int .i64 0] 68) := ⟨_, rfl⟩
  have kW2 : Below W1.heap.size W1 W2 := by rw [hW2]; exact below_new _ _
  have iW2 : Blk W2 (w.heap.size + 1) 68 [.int .i64 0, .int .i64 0, .int .i64 0, .int .i64 0] := by rw [hW2, ← sW1]; exact Blk.new _ _ _
  have sW2 : W2.heap.size = w.heap.size + 1 + 1 := by rw [hW2]; simp [sW1]
  rw [← hW2]
  clear hW2
  clear sW1 sW2
  have i1 := iW1.carry kW2
  have i2 := iW2
  have hB := bthen kW1 kW2
  clear iW1 kW1 iW2 kW2
  go_upto_region 2 with fail
  rw [hn]
  obtain ⟨q, hq⟩ : ∃ q : Nat, q = m / 3 := ⟨_, rfl⟩
  have hq3 : (q : Int) ≤ 3 := by omega
  have hq1 : M / 3 = (q : Int) := by have := HMM.out; omega
  have hq2 : M.tdiv 3 = (q : Int) := by rw [Int.tdiv_eq_ediv_of_nonneg hMb.1]; exact hq1
  have hpw := HP.out.carry hB
  clear hn hre hr
  have hpc : m % 3 = 0 ∨ m % 3 = 1 ∨ m % 3 = 2 := by omega
  rcases hpc with hpc | hpc | hpc
  · have hTP : T = quarters q (cy0 x0 x1 x2 x3 1 0 0 0, cy1 x0 x1 x2 x3 1 0 0 0, cy2 x0 x1 x2 x3 1 0 0 0, cy3 x0 x1 x2 x3 1 0 0 0) := by rw [hT, turnC, hpc, ← hq]; rfl
    have TM := Lib.hid (fun W => timesC_any x0 x1 x2 x3 1 0 0 0 W)
    generalize cy0 x0 x1 x2 x3 1 0 0 0 = m0 at TM hTP
    generalize cy1 x0 x1 x2 x3 1 0 0 0 = m1 at TM hTP
    generalize cy2 x0 x1 x2 x3 1 0 0 0 = m2 at TM hTP
    generalize cy3 x0 x1 x2 x3 1 0 0 0 = m3 at TM hTP
    have HTP := Lib.hid hTP
    have HHT := Lib.hid hT
    have hpm : M.tmod 3 = 0 := by rw [Int.tmod_eq_emod_of_nonneg hMb.1]; have := HMM.out; omega
    clear hTP hT hpc
    have g0 : W2.cell? ⟨0, 0, none⟩ = some (.int .i64 1) := hpw 0 (by omega)
    have g1 : W2.cell? ⟨0, 1, none⟩ = some (.int .i64 0) := hpw 1 (by omega)
    have g2 : W2.cell? ⟨0, 2, none⟩ = some (.int .i64 0) := hpw 2 (by omega)
    have g3 : W2.cell? ⟨0, 3, none⟩ = some (.int .i64 0) := hpw 3 (by omega)
    have a0 := i1.cell (j := 0) (v := .int .i64 x0) rfl
    have a1 := i1.cell (j := 1) (v := .int .i64 x1) rfl
    have a2 := i1.cell (j := 2) (v := .int .i64 x2) rfl
    have a3 := i1.cell (j := 3) (v := .int .i64 x3) rfl
    refine wp_region_E 7 (by kernel_rfl) ?_
    obtain ⟨wz, hwz⟩ : ∃ v, v = W2.drew := ⟨_, rfl⟩
    rw [← hwz]
    have hlz : Below W2.heap.size W2 wz := by rw [hwz]; exact (Below.refl _ _).drew
    have hbz := bthen hB hlz
    have a0 := cellb a0 hlz
    have a1 := cellb a1 hlz
    have a2 := cellb a2 hlz
    have a3 := cellb a3 hlz
    have g0 := cellb g0 hlz
    have g1 := cellb g1 hlz
    have g2 := cellb g2 hlz
    have g3 := cellb g3 hlz
    have i2 := i2.carry hlz
    clear hwz hlz
    refine wpAnyE_take (i := 0) (oi := { dst := some 10, op := Op.load 68 (Operand.tmp 2), type := 68, pos := "harmonic.go:105", after := #[], guard := none }) (v := ?_) rfl (by kernel_rfl) (by kernel_rfl) (by kernel_rfl) (by kernel_rfl) (fun _ _ _ h => h) (Or.inl ⟨by rfl, ?_⟩) ?_
    rotate_left
    · (intro w hE; have a0 := cellb a0 hE; have a1 := cellb a1 hE; have a2 := cellb a2 hE; have a3 := cellb a3 hE; have g0 := cellb g0 hE; have g1 := cellb g1 hE; have g2 := cellb g2 hE; have g3 := cellb g3 hE; (try dsimp only); go_simp); (try with_reducible rfl)
    try simp only [Act.put, List.setIfInBounds_toArray, List.set_cons_zero, List.set_cons_succ]
    refine wpAnyE_take (i := 1) (oi := { dst := some 11, op := Op.move (Operand.tmp 1), type := 3, pos := "harmonic.go:105", after := #[], guard := none }) (v := ?_) rfl (by kernel_rfl) (by kernel_rfl) (by kernel_rfl) (by kernel_rfl) (fun _ _ _ h => h) (Or.inl ⟨by rfl, ?_⟩) ?_
    rotate_left
    · (intro w hE; have a0 := cellb a0 hE; have a1 := cellb a1 hE; have a2 := cellb a2 hE; have a3 := cellb a3 hE; have g0 := cellb g0 hE; have g1 := cellb g1 hE; have g2 := cellb g2 hE; have g3 := cellb g3 hE; (try dsimp only); go_simp); (try with_reducible rfl)
    try simp only [Act.put, List.setIfInBounds_toArray, List.set_cons_zero, List.set_cons_succ]
    refine wpAnyE_take (i := 2) (oi := { dst := some 12, op := Op.binOp BinOp.rem 3 (Operand.tmp 11) (Operand.const (Value.int IntKind.i64 3)) 3, type := 3, pos := "harmonic.go:105", after := #[{ on := 1, ground := Ground.data }], guard := none }) (v := ?_) rfl (by kernel_rfl) (by kernel_rfl) (by kernel_rfl) (by kernel_rfl) (fun _ _ _ h => h) (Or.inl ⟨by rfl, ?_⟩) ?_
    rotate_left
    · (intro w hE; have a0 := cellb a0 hE; have a1 := cellb a1 hE; have a2 := cellb a2 hE; have a3 := cellb a3 hE; have g0 := cellb g0 hE; have g1 := cellb g1 hE; have g2 := cellb g2 hE; have g3 := cellb g3 hE; (try dsimp only); go_simp); (try with_reducible rfl)
    try simp only [Act.put, List.setIfInBounds_toArray, List.set_cons_zero, List.set_cons_succ]
    refine wpAnyE_take (i := 3) (oi := { dst := some 13, op := Op.indexAddr 179 (Operand.global 0) (Operand.tmp 12), type := 0, pos := "harmonic.go:105", after := #[{ on := 2, ground := Ground.data }], guard := none }) (v := ?_) rfl (by kernel_rfl) (by kernel_rfl) (by kernel_rfl) (by kernel_rfl) (fun _ _ _ h => h) (Or.inl ⟨by rfl, ?_⟩) ?_
    rotate_left
    · (intro w hE; have a0 := cellb a0 hE; have a1 := cellb a1 hE; have a2 := cellb a2 hE; have a3 := cellb a3 hE; have g0 := cellb g0 hE; have g1 := cellb g1 hE; have g2 := cellb g2 hE; have g3 := cellb g3 hE; (try dsimp only); go_simp); (try with_reducible rfl)
    try simp only [Act.put, List.setIfInBounds_toArray, List.set_cons_zero, List.set_cons_succ]
    refine wpAnyE_take (i := 4) (oi := { dst := some 14, op := Op.load 68 (Operand.tmp 13), type := 68, pos := "harmonic.go:105", after := #[{ on := 3, ground := Ground.data }], guard := none }) (v := ?_) rfl (by kernel_rfl) (by kernel_rfl) (by kernel_rfl) (by kernel_rfl) (fun _ _ _ h => h) (Or.inl ⟨by rfl, ?_⟩) ?_
    rotate_left
    · (intro w hE; have a0 := cellb a0 hE; have a1 := cellb a1 hE; have a2 := cellb a2 hE; have a3 := cellb a3 hE; have g0 := cellb g0 hE; have g1 := cellb g1 hE; have g2 := cellb g2 hE; have g3 := cellb g3 hE; (try dsimp only); go_simp); (try with_reducible rfl)
    try simp only [Act.put, List.setIfInBounds_toArray, List.set_cons_zero, List.set_cons_succ]
    refine wpAnyE_call (i := 5) (oi := { dst := some 15, op := Op.call { callee := Callee.value (Operand.func 111), args := #[Operand.tmp 10, Operand.tmp 14], argTypes := #[68, 68] }, type := 68, pos := "harmonic.go:105", after := #[{ on := 0, ground := Ground.data }, { on := 4, ground := Ground.data }], guard := none }) (fun w hE => TM.out w) rfl (by kernel_rfl) (by kernel_rfl) (by kernel_rfl) (by kernel_rfl) (fun _ _ _ h => h) (by rfl) (fun w hE => by (try dsimp only); go_simp) ?_
    try simp only [Act.put, List.setIfInBounds_toArray, List.set_cons_zero, List.set_cons_succ]
    refine wpAnyE_one (i := 6) (o := { dst := some 5, op := Op.alloc 68, type := 0, pos := "harmonic.go:105", after := #[], guard := none }) (by kernel_rfl) rfl (fun wy1 hE K hK => ?_)
    have a0 := cellb a0 hE
    have a1 := cellb a1 hE
    have a2 := cellb a2 hE
    have a3 := cellb a3 hE
    have g0 := cellb g0 hE
    have g1 := cellb g1 hE
    have g2 := cellb g2 hE
    have g3 := cellb g3 hE
    have i2 := i2.carry hE
    have hbz1 := bthen hbz hE
    clear hE
    go_simp
    obtain ⟨wx1, hwz⟩ : ∃ v, v = wy1.alloc (Obj.cells #[.int .i64 0, .int .i64 0, .int .i64 0, .int .i64 0] 68) := ⟨_, rfl⟩
    rw [← hwz]
    have hl : Below wy1.heap.size wy1 wx1 := by rw [hwz]; exact below_new _ _
    have hcz1 := bthen hbz1 hl
    have iN : Blk wx1 wy1.heap.size 68 [.int .i64 0, .int .i64 0, .int .i64 0, .int .i64 0] := by rw [hwz]; exact Blk.new _ _ _
    have hGs : w.heap.size ≤ wy1.heap.size := (hbz1).size
    have hG2 := i2.lt
    generalize wy1.heap.size = G at iN hGs hG2 ⊢
    have a0 := cellb a0 hl
    have a1 := cellb a1 hl
    have a2 := cellb a2 hl
    have a3 := cellb a3 hl
    have g0 := cellb g0 hl
    have g1 := cellb g1 hl
    have g2 := cellb g2 hl
    have g3 := cellb g3 hl
    have i2 := i2.carry hl
    clear hwz
    refine hK _ _ (fun _ => hl) ?_
    clear hK K hl
    try simp only [Act.put, List.setIfInBounds_toArray, List.set_cons_zero, List.set_cons_succ]
    refine wpAnyE_one (i := 7) (o := { dst := none, op := Op.store 68 (Operand.tmp 5) (Operand.tmp 15), type := 0, pos := "harmonic.go:105", after := #[{ on := 6, ground := Ground.data }, { on := 5, ground := Ground.data }, { on := 5, ground := Ground.chain }, { on := 0, ground := Ground.phase }, { on := 1, ground := Ground.phase }, { on := 2, ground := Ground.phase }, { on := 3, ground := Ground.phase }, { on := 4, ground := Ground.phase }, { on := 5, ground := Ground.phase }, { on := 6, ground := Ground.phase }], guard := none }) (by kernel_rfl) rfl (fun wy2 hE K hK => ?_)
    have a0 := cellb a0 hE
    have a1 := cellb a1 hE
    have a2 := cellb a2 hE
    have a3 := cellb a3 hE
    have g0 := cellb g0 hE
    have g1 := cellb g1 hE
    have g2 := cellb g2 hE
    have g3 := cellb g3 hE
    have i2 := i2.carry hE
    have iN := iN.carry hE
    have hbz2 := bthen hcz1 hE
    clear hE
    have c0 := iN.cell (j := 0) (v := .int .i64 0) rfl
    have c1 := iN.cell (j := 1) (v := .int .i64 0) rfl
    have c2 := iN.cell (j := 2) (v := .int .i64 0) rfl
    have c3 := iN.cell (j := 3) (v := .int .i64 0) rfl
    have f0 := iN.frozen 0
    have f1 := iN.frozen 1
    have f2 := iN.frozen 2
    have f3 := iN.frozen 3
    go_simp
    obtain ⟨wx2, hwz⟩ : ∃ v, v = (((wy2.setCell ⟨G, 0, none⟩ (.int .i64 m0)).setCell ⟨G, 1, none⟩ (.int .i64 m1)).setCell ⟨G, 2, none⟩ (.int .i64 m2)).setCell ⟨G, 3, none⟩ (.int .i64 m3) := ⟨_, rfl⟩
    rw [← hwz]
    have hcz2 : Below w.heap.size w wx2 := by rw [hwz]; exact ((((hbz2).setCell hGs _).setCell hGs _).setCell hGs _).setCell hGs _
    have iN := (((iN.set 0 (.int .i64 m0)).set 1 (.int .i64 m1)).set 2 (.int .i64 m2)).set 3 (.int .i64 m3)
    have i2 := (((i2.other (B' := G) (j := 0) (by omega) (.int .i64 m0)).other (B' := G) (j := 1) (by omega) (.int .i64 m1)).other (B' := G) (j := 2) (by omega) (.int .i64 m2)).other (B' := G) (j := 3) (by omega) (.int .i64 m3)
    rw [← hwz] at iN i2
    clear hwz
    refine hK _ _ (fun h => absurd rfl h) ?_
    clear hK K
    try simp only [Act.put, List.setIfInBounds_toArray, List.set_cons_zero, List.set_cons_succ]
    refine wpAnyE_done (by kernel_rfl) (fun wy3 hE => ?_) _
    have hbz3 := bthen hcz2 hE
    have i2 := i2.carry hE
    have iN := iN.carry hE
    clear hE
    have hB := hbz3
    obtain ⟨W3, hW3⟩ : ∃ v, v = wy3 := ⟨_, rfl⟩
    rw [← hW3] at hB i2 iN ⊢
    clear hW3
    clear a0 a1 a2 a3 g0 g1 g2 g3 hpm i1 hpw
    have hGR : w.heap.size + 1 ≠ G := by omega
    go_wp2_with fail
    go_loopw [18] (fun v18 wr => ∃ k : Nat, k ≤ q ∧ v18 = .int .i64 k ∧ Blk wr G 68 [.int .i64 (quarters k (m0, m1, m2, m3)).1, .int .i64 (quarters k (m0, m1, m2, m3)).2.1, .int .i64 (quarters k (m0, m1, m2, m3)).2.2.1, .int .i64 (quarters k (m0, m1, m2, m3)).2.2.2] ∧ Blk wr (w.heap.size + 1) 68 [.int .i64 0, .int .i64 0, .int .i64 0, .int .i64 0] ∧ Below w.heap.size w wr) (fun v18 _ => q - (intOf v18).toNat)
    case atStart => exact ⟨0, by omega, rfl, iN, i2, hB⟩
    case round =>
      clear iN i2 hB
      obtain ⟨k, hk, rfl, iN, i2, hB⟩ := hrel
      by_cases hlt : k < q
      · have hQ : quarters (k + 1) (m0, m1, m2, m3) = (wrap64 (-(quarters k (m0, m1, m2, m3)).2.2.1), wrap64 (-(quarters k (m0, m1, m2, m3)).2.2.2), (quarters k (m0, m1, m2, m3)).1, (quarters k (m0, m1, m2, m3)).2.1) := rfl
        generalize (quarters k (m0, m1, m2, m3)).1 = u0 at hQ iN
        generalize (quarters k (m0, m1, m2, m3)).2.1 = u1 at hQ iN
        generalize (quarters k (m0, m1, m2, m3)).2.2.1 = u2 at hQ iN
        generalize (quarters k (m0, m1, m2, m3)).2.2.2 = u3 at hQ iN
        have HQ := Lib.hid hQ
        clear hQ
        have d1 : (k : Int) < (q : Int) := by omega
        have c0 := iN.cell (j := 0) (v := .int .i64 u0) rfl
        have c1 := iN.cell (j := 1) (v := .int .i64 u1) rfl
        have c2 := iN.cell (j := 2) (v := .int .i64 u2) rfl
        have c3 := iN.cell (j := 3) (v := .int .i64 u3) rfl
        go_wp2_with fail
        clear c0 c1 c2 c3
        refine (quarter_any u0 u1 u2 u3 wr).mono ?_
        rintro e w7 ⟨rfl, hl⟩
        replace iN := iN.carry hl
        replace i2 := i2.carry hl
        replace hB := bthen hB hl
        clear hl
        have c0 := iN.cell (j := 0) (v := .int .i64 u0) rfl
        have c1 := iN.cell (j := 1) (v := .int .i64 u1) rfl
        have c2 := iN.cell (j := 2) (v := .int .i64 u2) rfl
        have c3 := iN.cell (j := 3) (v := .int .i64 u3) rfl
        have f0 := iN.frozen 0
        have f1 := iN.frozen 1
        have f2 := iN.frozen 2
        have f3 := iN.frozen 3
        go_wp2_with fail
        have iN2 := (((iN.set 0 (.int .i64 (wrap64 (-u2)))).set 1 (.int .i64 (wrap64 (-u3)))).set 2 (.int .i64 u0)).set 3 (.int .i64 u1)
        have i3 := (((i2.other (B' := G) (j := 0) hGR (.int .i64 (wrap64 (-u2)))).other (B' := G) (j := 1) hGR (.int .i64 (wrap64 (-u3)))).other (B' := G) (j := 2) hGR (.int .i64 u0)).other (B' := G) (j := 3) hGR (.int .i64 u1)
        have hB2 := (((hB.setCell (p := ⟨G, 0, none⟩) hGs (.int .i64 (wrap64 (-u2)))).setCell (p := ⟨G, 1, none⟩) hGs (.int .i64 (wrap64 (-u3)))).setCell (p := ⟨G, 2, none⟩) hGs (.int .i64 u0)).setCell (p := ⟨G, 3, none⟩) hGs (.int .i64 u1)
        exact ⟨⟨k + 1, by omega, by go_num, by rw [HQ.out]; exact iN2, i3, hB2⟩, by simp [intOf]; omega⟩
      · obtain rfl : k = q := by omega
        have hT4 : T = ((quarters k (m0, m1, m2, m3)).1, (quarters k (m0, m1, m2, m3)).2.1, (quarters k (m0, m1, m2, m3)).2.2.1, (quarters k (m0, m1, m2, m3)).2.2.2) := HTP.out
        generalize (quarters k (m0, m1, m2, m3)).1 = u0 at hT4 iN
        generalize (quarters k (m0, m1, m2, m3)).2.1 = u1 at hT4 iN
        generalize (quarters k (m0, m1, m2, m3)).2.2.1 = u2 at hT4 iN
        generalize (quarters k (m0, m1, m2, m3)).2.2.2 = u3 at hT4 iN
        have HT4 := Lib.hid hT4
        clear hT4
        have d1 : ¬ (k : Int) < (k : Int) := by omega
        have c0 := iN.cell (j := 0) (v := .int .i64 u0) rfl
        have c1 := iN.cell (j := 1) (v := .int .i64 u1) rfl
        have c2 := iN.cell (j := 2) (v := .int .i64 u2) rfl
        have c3 := iN.cell (j := 3) (v := .int .i64 u3) rfl
        have b0 := i2.cell (j := 0) (v := .int .i64 0) rfl
        have b1 := i2.cell (j := 1) (v := .int .i64 0) rfl
        have b2 := i2.cell (j := 2) (v := .int .i64 0) rfl
        have b3 := i2.cell (j := 3) (v := .int .i64 0) rfl
        have f0 := i2.frozen 0
        have f1 := i2.frozen 1
        have f2 := i2.frozen 2
        have f3 := i2.frozen 3
        go_wp2_with fail
        have h9 := (((i2.set 0 (.int .i64 u0)).set 1 (.int .i64 u1)).set 2 (.int .i64 u2)).set 3 (.int .i64 u3)
        have z0 := h9.cell (j := 0) (v := .int .i64 u0) rfl
        have z1 := h9.cell (j := 1) (v := .int .i64 u1) rfl
        have z2 := h9.cell (j := 2) (v := .int .i64 u2) rfl
        have z3 := h9.cell (j := 3) (v := .int .i64 u3) rfl
        exact bodyPost_ret (v := .agg #[.int .i64 u0, .int .i64 u1, .int .i64 u2, .int .i64 u3]) (by simp [results, Tryz.f104, go_sem, z0, z1, z2, z3]) rfl ⟨by rw [HT4.out]; rfl, (((hB.setCell (by simp; try omega) _).setCell (by simp; try omega) _).setCell (by simp; try omega) _).setCell (by simp; try omega) _⟩
  · have hTP : T = quarters q (cy0 x0 x1 x2 x3 0 0 0 (-1), cy1 x0 x1 x2 x3 0 0 0 (-1), cy2 x0 x1 x2 x3 0 0 0 (-1), cy3 x0 x1 x2 x3 0 0 0 (-1)) := by rw [hT, turnC, hpc, ← hq]; rfl
    have TM := Lib.hid (fun W => timesC_any x0 x1 x2 x3 0 0 0 (-1) W)
    generalize cy0 x0 x1 x2 x3 0 0 0 (-1) = m0 at TM hTP
    generalize cy1 x0 x1 x2 x3 0 0 0 (-1) = m1 at TM hTP
    generalize cy2 x0 x1 x2 x3 0 0 0 (-1) = m2 at TM hTP
    generalize cy3 x0 x1 x2 x3 0 0 0 (-1) = m3 at TM hTP
    have HTP := Lib.hid hTP
    have HHT := Lib.hid hT
    have hpm : M.tmod 3 = 1 := by rw [Int.tmod_eq_emod_of_nonneg hMb.1]; have := HMM.out; omega
    clear hTP hT hpc
    have g0 : W2.cell? ⟨0, 4, none⟩ = some (.int .i64 0) := hpw 4 (by omega)
    have g1 : W2.cell? ⟨0, 5, none⟩ = some (.int .i64 0) := hpw 5 (by omega)
    have g2 : W2.cell? ⟨0, 6, none⟩ = some (.int .i64 0) := hpw 6 (by omega)
    have g3 : W2.cell? ⟨0, 7, none⟩ = some (.int .i64 (-1)) := hpw 7 (by omega)
    have a0 := i1.cell (j := 0) (v := .int .i64 x0) rfl
    have a1 := i1.cell (j := 1) (v := .int .i64 x1) rfl
    have a2 := i1.cell (j := 2) (v := .int .i64 x2) rfl
    have a3 := i1.cell (j := 3) (v := .int .i64 x3) rfl
    refine wp_region_E 7 (by kernel_rfl) ?_
    obtain ⟨wz, hwz⟩ : ∃ v, v = W2.drew := ⟨_, rfl⟩
    rw [← hwz]
    have hlz : Below W2.heap.size W2 wz := by rw [hwz]; exact (Below.refl _ _).drew
    have hbz := bthen hB hlz
    have a0 := cellb a0 hlz
    have a1 := cellb a1 hlz
    have a2 := cellb a2 hlz
    have a3 := cellb a3 hlz
    have g0 := cellb g0 hlz
    have g1 := cellb g1 hlz
    have g2 := cellb g2 hlz
    have g3 := cellb g3 hlz
    have i2 := i2.carry hlz
    clear hwz hlz
    refine wpAnyE_take (i := 0) (oi := { dst := some 10, op := Op.load 68 (Operand.tmp 2), type := 68, pos := "harmonic.go:105", after := #[], guard := none }) (v := ?_) rfl (by kernel_rfl) (by kernel_rfl) (by kernel_rfl) (by kernel_rfl) (fun _ _ _ h => h) (Or.inl ⟨by rfl, ?_⟩) ?_
    rotate_left
    · (intro w hE; have a0 := cellb a0 hE; have a1 := cellb a1 hE; have a2 := cellb a2 hE; have a3 := cellb a3 hE; have g0 := cellb g0 hE; have g1 := cellb g1 hE; have g2 := cellb g2 hE; have g3 := cellb g3 hE; (try dsimp only); go_simp); (try with_reducible rfl)
    try simp only [Act.put, List.setIfInBounds_toArray, List.set_cons_zero, List.set_cons_succ]
    refine wpAnyE_take (i := 1) (oi := { dst := some 11, op := Op.move (Operand.tmp 1), type := 3, pos := "harmonic.go:105", after := #[], guard := none }) (v := ?_) rfl (by kernel_rfl) (by kernel_rfl) (by kernel_rfl) (by kernel_rfl) (fun _ _ _ h => h) (Or.inl ⟨by rfl, ?_⟩) ?_
    rotate_left
    · (intro w hE; have a0 := cellb a0 hE; have a1 := cellb a1 hE; have a2 := cellb a2 hE; have a3 := cellb a3 hE; have g0 := cellb g0 hE; have g1 := cellb g1 hE; have g2 := cellb g2 hE; have g3 := cellb g3 hE; (try dsimp only); go_simp); (try with_reducible rfl)
    try simp only [Act.put, List.setIfInBounds_toArray, List.set_cons_zero, List.set_cons_succ]
    refine wpAnyE_take (i := 2) (oi := { dst := some 12, op := Op.binOp BinOp.rem 3 (Operand.tmp 11) (Operand.const (Value.int IntKind.i64 3)) 3, type := 3, pos := "harmonic.go:105", after := #[{ on := 1, ground := Ground.data }], guard := none }) (v := ?_) rfl (by kernel_rfl) (by kernel_rfl) (by kernel_rfl) (by kernel_rfl) (fun _ _ _ h => h) (Or.inl ⟨by rfl, ?_⟩) ?_
    rotate_left
    · (intro w hE; have a0 := cellb a0 hE; have a1 := cellb a1 hE; have a2 := cellb a2 hE; have a3 := cellb a3 hE; have g0 := cellb g0 hE; have g1 := cellb g1 hE; have g2 := cellb g2 hE; have g3 := cellb g3 hE; (try dsimp only); go_simp); (try with_reducible rfl)
    try simp only [Act.put, List.setIfInBounds_toArray, List.set_cons_zero, List.set_cons_succ]
    refine wpAnyE_take (i := 3) (oi := { dst := some 13, op := Op.indexAddr 179 (Operand.global 0) (Operand.tmp 12), type := 0, pos := "harmonic.go:105", after := #[{ on := 2, ground := Ground.data }], guard := none }) (v := ?_) rfl (by kernel_rfl) (by kernel_rfl) (by kernel_rfl) (by kernel_rfl) (fun _ _ _ h => h) (Or.inl ⟨by rfl, ?_⟩) ?_
    rotate_left
    · (intro w hE; have a0 := cellb a0 hE; have a1 := cellb a1 hE; have a2 := cellb a2 hE; have a3 := cellb a3 hE; have g0 := cellb g0 hE; have g1 := cellb g1 hE; have g2 := cellb g2 hE; have g3 := cellb g3 hE; (try dsimp only); go_simp); (try with_reducible rfl)
    try simp only [Act.put, List.setIfInBounds_toArray, List.set_cons_zero, List.set_cons_succ]
    refine wpAnyE_take (i := 4) (oi := { dst := some 14, op := Op.load 68 (Operand.tmp 13), type := 68, pos := "harmonic.go:105", after := #[{ on := 3, ground := Ground.data }], guard := none }) (v := ?_) rfl (by kernel_rfl) (by kernel_rfl) (by kernel_rfl) (by kernel_rfl) (fun _ _ _ h => h) (Or.inl ⟨by rfl, ?_⟩) ?_
    rotate_left
    · (intro w hE; have a0 := cellb a0 hE; have a1 := cellb a1 hE; have a2 := cellb a2 hE; have a3 := cellb a3 hE; have g0 := cellb g0 hE; have g1 := cellb g1 hE; have g2 := cellb g2 hE; have g3 := cellb g3 hE; (try dsimp only); go_simp); (try with_reducible rfl)
    try simp only [Act.put, List.setIfInBounds_toArray, List.set_cons_zero, List.set_cons_succ]
    refine wpAnyE_call (i := 5) (oi := { dst := some 15, op := Op.call { callee := Callee.value (Operand.func 111), args := #[Operand.tmp 10, Operand.tmp 14], argTypes := #[68, 68] }, type := 68, pos := "harmonic.go:105", after := #[{ on := 0, ground := Ground.data }, { on := 4, ground := Ground.data }], guard := none }) (fun w hE => TM.out w) rfl (by kernel_rfl) (by kernel_rfl) (by kernel_rfl) (by kernel_rfl) (fun _ _ _ h => h) (by rfl) (fun w hE => by (try dsimp only); go_simp) ?_
    try simp only [Act.put, List.setIfInBounds_toArray, List.set_cons_zero, List.set_cons_succ]
    refine wpAnyE_one (i := 6) (o := { dst := some 5, op := Op.alloc 68, type := 0, pos := "harmonic.go:105", after := #[], guard := none }) (by kernel_rfl) rfl (fun wy1 hE K hK => ?_)
    have a0 := cellb a0 hE
    have a1 := cellb a1 hE
    have a2 := cellb a2 hE
    have a3 := cellb a3 hE
    have g0 := cellb g0 hE
    have g1 := cellb g1 hE
    have g2 := cellb g2 hE
    have g3 := cellb g3 hE
    have i2 := i2.carry hE
    have hbz1 := bthen hbz hE
    clear hE
    go_simp
    obtain ⟨wx1, hwz⟩ : ∃ v, v = wy1.alloc (Obj.cells #[.int .i64 0, .int .i64 0, .int .i64 0, .int .i64 0] 68) := ⟨_, rfl⟩
    rw [← hwz]
    have hl : Below wy1.heap.size wy1 wx1 := by rw [hwz]; exact below_new _ _
    have hcz1 := bthen hbz1 hl
    have iN : Blk wx1 wy1.heap.size 68 [.int .i64 0, .int .i64 0, .int .i64 0, .int .i64 0] := by rw [hwz]; exact Blk.new _ _ _
    have hGs : w.heap.size ≤ wy1.heap.size := (hbz1).size
    have hG2 := i2.lt
    generalize wy1.heap.size = G at iN hGs hG2 ⊢
    have a0 := cellb a0 hl
    have a1 := cellb a1 hl
    have a2 := cellb a2 hl
    have a3 := cellb a3 hl
    have g0 := cellb g0 hl
    have g1 := cellb g1 hl
    have g2 := cellb g2 hl
    have g3 := cellb g3 hl
    have i2 := i2.carry hl
    clear hwz
    refine hK _ _ (fun _ => hl) ?_
    clear hK K hl
    try simp only [Act.put, List.setIfInBounds_toArray, List.set_cons_zero, List.set_cons_succ]
    refine wpAnyE_one (i := 7) (o := { dst := none, op := Op.store 68 (Operand.tmp 5) (Operand.tmp 15), type := 0, pos := "harmonic.go:105", after := #[{ on := 6, ground := Ground.data }, { on := 5, ground := Ground.data }, { on := 5, ground := Ground.chain }, { on := 0, ground := Ground.phase }, { on := 1, ground := Ground.phase }, { on := 2, ground := Ground.phase }, { on := 3, ground := Ground.phase }, { on := 4, ground := Ground.phase }, { on := 5, ground := Ground.phase }, { on := 6, ground := Ground.phase }], guard := none }) (by kernel_rfl) rfl (fun wy2 hE K hK => ?_)
    have a0 := cellb a0 hE
    have a1 := cellb a1 hE
    have a2 := cellb a2 hE
    have a3 := cellb a3 hE
    have g0 := cellb g0 hE
    have g1 := cellb g1 hE
    have g2 := cellb g2 hE
    have g3 := cellb g3 hE
    have i2 := i2.carry hE
    have iN := iN.carry hE
    have hbz2 := bthen hcz1 hE
    clear hE
    have c0 := iN.cell (j := 0) (v := .int .i64 0) rfl
    have c1 := iN.cell (j := 1) (v := .int .i64 0) rfl
    have c2 := iN.cell (j := 2) (v := .int .i64 0) rfl
    have c3 := iN.cell (j := 3) (v := .int .i64 0) rfl
    have f0 := iN.frozen 0
    have f1 := iN.frozen 1
    have f2 := iN.frozen 2
    have f3 := iN.frozen 3
    go_simp
    obtain ⟨wx2, hwz⟩ : ∃ v, v = (((wy2.setCell ⟨G, 0, none⟩ (.int .i64 m0)).setCell ⟨G, 1, none⟩ (.int .i64 m1)).setCell ⟨G, 2, none⟩ (.int .i64 m2)).setCell ⟨G, 3, none⟩ (.int .i64 m3) := ⟨_, rfl⟩
    rw [← hwz]
    have hcz2 : Below w.heap.size w wx2 := by rw [hwz]; exact ((((hbz2).setCell hGs _).setCell hGs _).setCell hGs _).setCell hGs _
    have iN := (((iN.set 0 (.int .i64 m0)).set 1 (.int .i64 m1)).set 2 (.int .i64 m2)).set 3 (.int .i64 m3)
    have i2 := (((i2.other (B' := G) (j := 0) (by omega) (.int .i64 m0)).other (B' := G) (j := 1) (by omega) (.int .i64 m1)).other (B' := G) (j := 2) (by omega) (.int .i64 m2)).other (B' := G) (j := 3) (by omega) (.int .i64 m3)
    rw [← hwz] at iN i2
    clear hwz
    refine hK _ _ (fun h => absurd rfl h) ?_
    clear hK K
    try simp only [Act.put, List.setIfInBounds_toArray, List.set_cons_zero, List.set_cons_succ]
    refine wpAnyE_done (by kernel_rfl) (fun wy3 hE => ?_) _
    have hbz3 := bthen hcz2 hE
    have i2 := i2.carry hE
    have iN := iN.carry hE
    clear hE
    have hB := hbz3
    obtain ⟨W3, hW3⟩ : ∃ v, v = wy3 := ⟨_, rfl⟩
    rw [← hW3] at hB i2 iN ⊢
    clear hW3
    clear a0 a1 a2 a3 g0 g1 g2 g3 hpm i1 hpw
    have hGR : w.heap.size + 1 ≠ G := by omega
    go_wp2_with fail
    go_loopw [18] (fun v18 wr => ∃ k : Nat, k ≤ q ∧ v18 = .int .i64 k ∧ Blk wr G 68 [.int .i64 (quarters k (m0, m1, m2, m3)).1, .int .i64 (quarters k (m0, m1, m2, m3)).2.1, .int .i64 (quarters k (m0, m1, m2, m3)).2.2.1, .int .i64 (quarters k (m0, m1, m2, m3)).2.2.2] ∧ Blk wr (w.heap.size + 1) 68 [.int .i64 0, .int .i64 0, .int .i64 0, .int .i64 0] ∧ Below w.heap.size w wr) (fun v18 _ => q - (intOf v18).toNat)
    case atStart => exact ⟨0, by omega, rfl, iN, i2, hB⟩
    case round =>
      clear iN i2 hB
      obtain ⟨k, hk, rfl, iN, i2, hB⟩ := hrel
      by_cases hlt : k < q
      · have hQ : quarters (k + 1) (m0, m1, m2, m3) = (wrap64 (-(quarters k (m0, m1, m2, m3)).2.2.1), wrap64 (-(quarters k (m0, m1, m2, m3)).2.2.2), (quarters k (m0, m1, m2, m3)).1, (quarters k (m0, m1, m2, m3)).2.1) := rfl
        generalize (quarters k (m0, m1, m2, m3)).1 = u0 at hQ iN
        generalize (quarters k (m0, m1, m2, m3)).2.1 = u1 at hQ iN
        generalize (quarters k (m0, m1, m2, m3)).2.2.1 = u2 at hQ iN
        generalize (quarters k (m0, m1, m2, m3)).2.2.2 = u3 at hQ iN
        have HQ := Lib.hid hQ
        clear hQ
        have d1 : (k : Int) < (q : Int) := by omega
        have c0 := iN.cell (j := 0) (v := .int .i64 u0) rfl
        have c1 := iN.cell (j := 1) (v := .int .i64 u1) rfl
        have c2 := iN.cell (j := 2) (v := .int .i64 u2) rfl
        have c3 := iN.cell (j := 3) (v := .int .i64 u3) rfl
        go_wp2_with fail
        clear c0 c1 c2 c3
        refine (quarter_any u0 u1 u2 u3 wr).mono ?_
        rintro e w7 ⟨rfl, hl⟩
        replace iN := iN.carry hl
        replace i2 := i2.carry hl
        replace hB := bthen hB hl
        clear hl
        have c0 := iN.cell (j := 0) (v := .int .i64 u0) rfl
        have c1 := iN.cell (j := 1) (v := .int .i64 u1) rfl
        have c2 := iN.cell (j := 2) (v := .int .i64 u2) rfl
        have c3 := iN.cell (j := 3) (v := .int .i64 u3) rfl
        have f0 := iN.frozen 0
        have f1 := iN.frozen 1
        have f2 := iN.frozen 2
        have f3 := iN.frozen 3
        go_wp2_with fail
        have iN2 := (((iN.set 0 (.int .i64 (wrap64 (-u2)))).set 1 (.int .i64 (wrap64 (-u3)))).set 2 (.int .i64 u0)).set 3 (.int .i64 u1)
        have i3 := (((i2.other (B' := G) (j := 0) hGR (.int .i64 (wrap64 (-u2)))).other (B' := G) (j := 1) hGR (.int .i64 (wrap64 (-u3)))).other (B' := G) (j := 2) hGR (.int .i64 u0)).other (B' := G) (j := 3) hGR (.int .i64 u1)
        have hB2 := (((hB.setCell (p := ⟨G, 0, none⟩) hGs (.int .i64 (wrap64 (-u2)))).setCell (p := ⟨G, 1, none⟩) hGs (.int .i64 (wrap64 (-u3)))).setCell (p := ⟨G, 2, none⟩) hGs (.int .i64 u0)).setCell (p := ⟨G, 3, none⟩) hGs (.int .i64 u1)
        exact ⟨⟨k + 1, by omega, by go_num, by rw [HQ.out]; exact iN2, i3, hB2⟩, by simp [intOf]; omega⟩
      · obtain rfl : k = q := by omega
        have hT4 : T = ((quarters k (m0, m1, m2, m3)).1, (quarters k (m0, m1, m2, m3)).2.1, (quarters k (m0, m1, m2, m3)).2.2.1, (quarters k (m0, m1, m2, m3)).2.2.2) := HTP.out
        generalize (quarters k (m0, m1, m2, m3)).1 = u0 at hT4 iN
        generalize (quarters k (m0, m1, m2, m3)).2.1 = u1 at hT4 iN
        generalize (quarters k (m0, m1, m2, m3)).2.2.1 = u2 at hT4 iN
        generalize (quarters k (m0, m1, m2, m3)).2.2.2 = u3 at hT4 iN
        have HT4 := Lib.hid hT4
        clear hT4
        have d1 : ¬ (k : Int) < (k : Int) := by omega
        have c0 := iN.cell (j := 0) (v := .int .i64 u0) rfl
        have c1 := iN.cell (j := 1) (v := .int .i64 u1) rfl
        have c2 := iN.cell (j := 2) (v := .int .i64 u2) rfl
        have c3 := iN.cell (j := 3) (v := .int .i64 u3) rfl
        have b0 := i2.cell (j := 0) (v := .int .i64 0) rfl
        have b1 := i2.cell (j := 1) (v := .int .i64 0) rfl
        have b2 := i2.cell (j := 2) (v := .int .i64 0) rfl
        have b3 := i2.cell (j := 3) (v := .int .i64 0) rfl
        have f0 := i2.frozen 0
        have f1 := i2.frozen 1
        have f2 := i2.frozen 2
        have f3 := i2.frozen 3
        go_wp2_with fail
        have h9 := (((i2.set 0 (.int .i64 u0)).set 1 (.int .i64 u1)).set 2 (.int .i64 u2)).set 3 (.int .i64 u3)
        have z0 := h9.cell (j := 0) (v := .int .i64 u0) rfl
        have z1 := h9.cell (j := 1) (v := .int .i64 u1) rfl
        have z2 := h9.cell (j := 2) (v := .int .i64 u2) rfl
        have z3 := h9.cell (j := 3) (v := .int .i64 u3) rfl
        exact bodyPost_ret (v := .agg #[.int .i64 u0, .int .i64 u1, .int .i64 u2, .int .i64 u3]) (by simp [results, Tryz.f104, go_sem, z0, z1, z2, z3]) rfl ⟨by rw [HT4.out]; rfl, (((hB.setCell (by simp; try omega) _).setCell (by simp; try omega) _).setCell (by simp; try omega) _).setCell (by simp; try omega) _⟩
  · have hTP : T = quarters q (cy0 x0 x1 x2 x3 1 1 0 0, cy1 x0 x1 x2 x3 1 1 0 0, cy2 x0 x1 x2 x3 1 1 0 0, cy3 x0 x1 x2 x3 1 1 0 0) := by rw [hT, turnC, hpc, ← hq]; rfl
    have TM := Lib.hid (fun W => timesC_any x0 x1 x2 x3 1 1 0 0 W)
    generalize cy0 x0 x1 x2 x3 1 1 0 0 = m0 at TM hTP
    generalize cy1 x0 x1 x2 x3 1 1 0 0 = m1 at TM hTP
    generalize cy2 x0 x1 x2 x3 1 1 0 0 = m2 at TM hTP
    generalize cy3 x0 x1 x2 x3 1 1 0 0 = m3 at TM hTP
    have HTP := Lib.hid hTP
    have HHT := Lib.hid hT
    have hpm : M.tmod 3 = 2 := by rw [Int.tmod_eq_emod_of_nonneg hMb.1]; have := HMM.out; omega
    clear hTP hT hpc
    have g0 : W2.cell? ⟨0, 8, none⟩ = some (.int .i64 1) := hpw 8 (by omega)
    have g1 : W2.cell? ⟨0, 9, none⟩ = some (.int .i64 1) := hpw 9 (by omega)
    have g2 : W2.cell? ⟨0, 10, none⟩ = some (.int .i64 0) := hpw 10 (by omega)
    have g3 : W2.cell? ⟨0, 11, none⟩ = some (.int .i64 0) := hpw 11 (by omega)
    have a0 := i1.cell (j := 0) (v := .int .i64 x0) rfl
    have a1 := i1.cell (j := 1) (v := .int .i64 x1) rfl
    have a2 := i1.cell (j := 2) (v := .int .i64 x2) rfl
    have a3 := i1.cell (j := 3) (v := .int .i64 x3) rfl
    refine wp_region_E 7 (by kernel_rfl) ?_
    obtain ⟨wz, hwz⟩ : ∃ v, v = W2.drew := ⟨_, rfl⟩
    rw [← hwz]
    have hlz : Below W2.heap.size W2 wz := by rw [hwz]; exact (Below.refl _ _).drew
    have hbz := bthen hB hlz
    have a0 := cellb a0 hlz
    have a1 := cellb a1 hlz
    have a2 := cellb a2 hlz
    have a3 := cellb a3 hlz
    have g0 := cellb g0 hlz
    have g1 := cellb g1 hlz
    have g2 := cellb g2 hlz
    have g3 := cellb g3 hlz
    have i2 := i2.carry hlz
    clear hwz hlz
    refine wpAnyE_take (i := 0) (oi := { dst := some 10, op := Op.load 68 (Operand.tmp 2), type := 68, pos := "harmonic.go:105", after := #[], guard := none }) (v := ?_) rfl (by kernel_rfl) (by kernel_rfl) (by kernel_rfl) (by kernel_rfl) (fun _ _ _ h => h) (Or.inl ⟨by rfl, ?_⟩) ?_
    rotate_left
    · (intro w hE; have a0 := cellb a0 hE; have a1 := cellb a1 hE; have a2 := cellb a2 hE; have a3 := cellb a3 hE; have g0 := cellb g0 hE; have g1 := cellb g1 hE; have g2 := cellb g2 hE; have g3 := cellb g3 hE; (try dsimp only); go_simp); (try with_reducible rfl)
    try simp only [Act.put, List.setIfInBounds_toArray, List.set_cons_zero, List.set_cons_succ]
    refine wpAnyE_take (i := 1) (oi := { dst := some 11, op := Op.move (Operand.tmp 1), type := 3, pos := "harmonic.go:105", after := #[], guard := none }) (v := ?_) rfl (by kernel_rfl) (by kernel_rfl) (by kernel_rfl) (by kernel_rfl) (fun _ _ _ h => h) (Or.inl ⟨by rfl, ?_⟩) ?_
    rotate_left
    · (intro w hE; have a0 := cellb a0 hE; have a1 := cellb a1 hE; have a2 := cellb a2 hE; have a3 := cellb a3 hE; have g0 := cellb g0 hE; have g1 := cellb g1 hE; have g2 := cellb g2 hE; have g3 := cellb g3 hE; (try dsimp only); go_simp); (try with_reducible rfl)
    try simp only [Act.put, List.setIfInBounds_toArray, List.set_cons_zero, List.set_cons_succ]
    refine wpAnyE_take (i := 2) (oi := { dst := some 12, op := Op.binOp BinOp.rem 3 (Operand.tmp 11) (Operand.const (Value.int IntKind.i64 3)) 3, type := 3, pos := "harmonic.go:105", after := #[{ on := 1, ground := Ground.data }], guard := none }) (v := ?_) rfl (by kernel_rfl) (by kernel_rfl) (by kernel_rfl) (by kernel_rfl) (fun _ _ _ h => h) (Or.inl ⟨by rfl, ?_⟩) ?_
    rotate_left
    · (intro w hE; have a0 := cellb a0 hE; have a1 := cellb a1 hE; have a2 := cellb a2 hE; have a3 := cellb a3 hE; have g0 := cellb g0 hE; have g1 := cellb g1 hE; have g2 := cellb g2 hE; have g3 := cellb g3 hE; (try dsimp only); go_simp); (try with_reducible rfl)
    try simp only [Act.put, List.setIfInBounds_toArray, List.set_cons_zero, List.set_cons_succ]
    refine wpAnyE_take (i := 3) (oi := { dst := some 13, op := Op.indexAddr 179 (Operand.global 0) (Operand.tmp 12), type := 0, pos := "harmonic.go:105", after := #[{ on := 2, ground := Ground.data }], guard := none }) (v := ?_) rfl (by kernel_rfl) (by kernel_rfl) (by kernel_rfl) (by kernel_rfl) (fun _ _ _ h => h) (Or.inl ⟨by rfl, ?_⟩) ?_
    rotate_left
    · (intro w hE; have a0 := cellb a0 hE; have a1 := cellb a1 hE; have a2 := cellb a2 hE; have a3 := cellb a3 hE; have g0 := cellb g0 hE; have g1 := cellb g1 hE; have g2 := cellb g2 hE; have g3 := cellb g3 hE; (try dsimp only); go_simp); (try with_reducible rfl)
    try simp only [Act.put, List.setIfInBounds_toArray, List.set_cons_zero, List.set_cons_succ]
    refine wpAnyE_take (i := 4) (oi := { dst := some 14, op := Op.load 68 (Operand.tmp 13), type := 68, pos := "harmonic.go:105", after := #[{ on := 3, ground := Ground.data }], guard := none }) (v := ?_) rfl (by kernel_rfl) (by kernel_rfl) (by kernel_rfl) (by kernel_rfl) (fun _ _ _ h => h) (Or.inl ⟨by rfl, ?_⟩) ?_
    rotate_left
    · (intro w hE; have a0 := cellb a0 hE; have a1 := cellb a1 hE; have a2 := cellb a2 hE; have a3 := cellb a3 hE; have g0 := cellb g0 hE; have g1 := cellb g1 hE; have g2 := cellb g2 hE; have g3 := cellb g3 hE; (try dsimp only); go_simp); (try with_reducible rfl)
    try simp only [Act.put, List.setIfInBounds_toArray, List.set_cons_zero, List.set_cons_succ]
    refine wpAnyE_call (i := 5) (oi := { dst := some 15, op := Op.call { callee := Callee.value (Operand.func 111), args := #[Operand.tmp 10, Operand.tmp 14], argTypes := #[68, 68] }, type := 68, pos := "harmonic.go:105", after := #[{ on := 0, ground := Ground.data }, { on := 4, ground := Ground.data }], guard := none }) (fun w hE => TM.out w) rfl (by kernel_rfl) (by kernel_rfl) (by kernel_rfl) (by kernel_rfl) (fun _ _ _ h => h) (by rfl) (fun w hE => by (try dsimp only); go_simp) ?_
    try simp only [Act.put, List.setIfInBounds_toArray, List.set_cons_zero, List.set_cons_succ]
    refine wpAnyE_one (i := 6) (o := { dst := some 5, op := Op.alloc 68, type := 0, pos := "harmonic.go:105", after := #[], guard := none }) (by kernel_rfl) rfl (fun wy1 hE K hK => ?_)
    have a0 := cellb a0 hE
    have a1 := cellb a1 hE
    have a2 := cellb a2 hE
    have a3 := cellb a3 hE
    have g0 := cellb g0 hE
    have g1 := cellb g1 hE
    have g2 := cellb g2 hE
    have g3 := cellb g3 hE
    have i2 := i2.carry hE
    have hbz1 := bthen hbz hE
    clear hE
    go_simp
    obtain ⟨wx1, hwz⟩ : ∃ v, v = wy1.alloc (Obj.cells #[.int .i64 0, .int .i64 0, .int .i64 0, .int .i64 0] 68) := ⟨_, rfl⟩
    rw [← hwz]
    have hl : Below wy1.heap.size wy1 wx1 := by rw [hwz]; exact below_new _ _
    have hcz1 := bthen hbz1 hl
    have iN : Blk wx1 wy1.heap.size 68 [.int .i64 0, .int .i64 0, .int .i64 0, .int .i64 0] := by rw [hwz]; exact Blk.new _ _ _
    have hGs : w.heap.size ≤ wy1.heap.size := (hbz1).size
    have hG2 := i2.lt
    generalize wy1.heap.size = G at iN hGs hG2 ⊢
    have a0 := cellb a0 hl
    have a1 := cellb a1 hl
    have a2 := cellb a2 hl
    have a3 := cellb a3 hl
    have g0 := cellb g0 hl
    have g1 := cellb g1 hl
    have g2 := cellb g2 hl
    have g3 := cellb g3 hl
    have i2 := i2.carry hl
    clear hwz
    refine hK _ _ (fun _ => hl) ?_
    clear hK K hl
    try simp only [Act.put, List.setIfInBounds_toArray, List.set_cons_zero, List.set_cons_succ]
    refine wpAnyE_one (i := 7) (o := { dst := none, op := Op.store 68 (Operand.tmp 5) (Operand.tmp 15), type := 0, pos := "harmonic.go:105", after := #[{ on := 6, ground := Ground.data }, { on := 5, ground := Ground.data }, { on := 5, ground := Ground.chain }, { on := 0, ground := Ground.phase }, { on := 1, ground := Ground.phase }, { on := 2, ground := Ground.phase }, { on := 3, ground := Ground.phase }, { on := 4, ground := Ground.phase }, { on := 5, ground := Ground.phase }, { on := 6, ground := Ground.phase }], guard := none }) (by kernel_rfl) rfl (fun wy2 hE K hK => ?_)
    have a0 := cellb a0 hE
    have a1 := cellb a1 hE
    have a2 := cellb a2 hE
    have a3 := cellb a3 hE
    have g0 := cellb g0 hE
    have g1 := cellb g1 hE
    have g2 := cellb g2 hE
    have g3 := cellb g3 hE
    have i2 := i2.carry hE
    have iN := iN.carry hE
    have hbz2 := bthen hcz1 hE
    clear hE
    have c0 := iN.cell (j := 0) (v := .int .i64 0) rfl
    have c1 := iN.cell (j := 1) (v := .int .i64 0) rfl
    have c2 := iN.cell (j := 2) (v := .int .i64 0) rfl
    have c3 := iN.cell (j := 3) (v := .int .i64 0) rfl
    have f0 := iN.frozen 0
    have f1 := iN.frozen 1
    have f2 := iN.frozen 2
    have f3 := iN.frozen 3
    go_simp
    obtain ⟨wx2, hwz⟩ : ∃ v, v = (((wy2.setCell ⟨G, 0, none⟩ (.int .i64 m0)).setCell ⟨G, 1, none⟩ (.int .i64 m1)).setCell ⟨G, 2, none⟩ (.int .i64 m2)).setCell ⟨G, 3, none⟩ (.int .i64 m3) := ⟨_, rfl⟩
    rw [← hwz]
    have hcz2 : Below w.heap.size w wx2 := by rw [hwz]; exact ((((hbz2).setCell hGs _).setCell hGs _).setCell hGs _).setCell hGs _
    have iN := (((iN.set 0 (.int .i64 m0)).set 1 (.int .i64 m1)).set 2 (.int .i64 m2)).set 3 (.int .i64 m3)
    have i2 := (((i2.other (B' := G) (j := 0) (by omega) (.int .i64 m0)).other (B' := G) (j := 1) (by omega) (.int .i64 m1)).other (B' := G) (j := 2) (by omega) (.int .i64 m2)).other (B' := G) (j := 3) (by omega) (.int .i64 m3)
    rw [← hwz] at iN i2
    clear hwz
    refine hK _ _ (fun h => absurd rfl h) ?_
    clear hK K
    try simp only [Act.put, List.setIfInBounds_toArray, List.set_cons_zero, List.set_cons_succ]
    refine wpAnyE_done (by kernel_rfl) (fun wy3 hE => ?_) _
    have hbz3 := bthen hcz2 hE
    have i2 := i2.carry hE
    have iN := iN.carry hE
    clear hE
    have hB := hbz3
    obtain ⟨W3, hW3⟩ : ∃ v, v = wy3 := ⟨_, rfl⟩
    rw [← hW3] at hB i2 iN ⊢
    clear hW3
    clear a0 a1 a2 a3 g0 g1 g2 g3 hpm i1 hpw
    have hGR : w.heap.size + 1 ≠ G := by omega
    go_wp2_with fail
    go_loopw [18] (fun v18 wr => ∃ k : Nat, k ≤ q ∧ v18 = .int .i64 k ∧ Blk wr G 68 [.int .i64 (quarters k (m0, m1, m2, m3)).1, .int .i64 (quarters k (m0, m1, m2, m3)).2.1, .int .i64 (quarters k (m0, m1, m2, m3)).2.2.1, .int .i64 (quarters k (m0, m1, m2, m3)).2.2.2] ∧ Blk wr (w.heap.size + 1) 68 [.int .i64 0, .int .i64 0, .int .i64 0, .int .i64 0] ∧ Below w.heap.size w wr) (fun v18 _ => q - (intOf v18).toNat)
    case atStart => exact ⟨0, by omega, rfl, iN, i2, hB⟩
    case round =>
      clear iN i2 hB
      obtain ⟨k, hk, rfl, iN, i2, hB⟩ := hrel
      by_cases hlt : k < q
      · have hQ : quarters (k + 1) (m0, m1, m2, m3) = (wrap64 (-(quarters k (m0, m1, m2, m3)).2.2.1), wrap64 (-(quarters k (m0, m1, m2, m3)).2.2.2), (quarters k (m0, m1, m2, m3)).1, (quarters k (m0, m1, m2, m3)).2.1) := rfl
        generalize (quarters k (m0, m1, m2, m3)).1 = u0 at hQ iN
        generalize (quarters k (m0, m1, m2, m3)).2.1 = u1 at hQ iN
        generalize (quarters k (m0, m1, m2, m3)).2.2.1 = u2 at hQ iN
        generalize (quarters k (m0, m1, m2, m3)).2.2.2 = u3 at hQ iN
        have HQ := Lib.hid hQ
        clear hQ
        have d1 : (k : Int) < (q : Int) := by omega
        have c0 := iN.cell (j := 0) (v := .int .i64 u0) rfl
        have c1 := iN.cell (j := 1) (v := .int .i64 u1) rfl
        have c2 := iN.cell (j := 2) (v := .int .i64 u2) rfl
        have c3 := iN.cell (j := 3) (v := .int .i64 u3) rfl
        go_wp2_with fail
        clear c0 c1 c2 c3
        refine (quarter_any u0 u1 u2 u3 wr).mono ?_
        rintro e w7 ⟨rfl, hl⟩
        replace iN := iN.carry hl
        replace i2 := i2.carry hl
        replace hB := bthen hB hl
        clear hl
        have c0 := iN.cell (j := 0) (v := .int .i64 u0) rfl
        have c1 := iN.cell (j := 1) (v := .int .i64 u1) rfl
        have c2 := iN.cell (j := 2) (v := .int .i64 u2) rfl
        have c3 := iN.cell (j := 3) (v := .int .i64 u3) rfl
        have f0 := iN.frozen 0
        have f1 := iN.frozen 1
        have f2 := iN.frozen 2
        have f3 := iN.frozen 3
        go_wp2_with fail
        have iN2 := (((iN.set 0 (.int .i64 (wrap64 (-u2)))).set 1 (.int .i64 (wrap64 (-u3)))).set 2 (.int .i64 u0)).set 3 (.int .i64 u1)
        have i3 := (((i2.other (B' := G) (j := 0) hGR (.int .i64 (wrap64 (-u2)))).other (B' := G) (j := 1) hGR (.int .i64 (wrap64 (-u3)))).other (B' := G) (j := 2) hGR (.int .i64 u0)).other (B' := G) (j := 3) hGR (.int .i64 u1)
        have hB2 := (((hB.setCell (p := ⟨G, 0, none⟩) hGs (.int .i64 (wrap64 (-u2)))).setCell (p := ⟨G, 1, none⟩) hGs (.int .i64 (wrap64 (-u3)))).setCell (p := ⟨G, 2, none⟩) hGs (.int .i64 u0)).setCell (p := ⟨G, 3, none⟩) hGs (.int .i64 u1)
        exact ⟨⟨k + 1, by omega, by go_num, by rw [HQ.out]; exact iN2, i3, hB2⟩, by simp [intOf]; omega⟩
      · obtain rfl : k = q := by omega
        have hT4 : T = ((quarters k (m0, m1, m2, m3)).1, (quarters k (m0, m1, m2, m3)).2.1, (quarters k (m0, m1, m2, m3)).2.2.1, (quarters k (m0, m1, m2, m3)).2.2.2) := HTP.out
        generalize (quarters k (m0, m1, m2, m3)).1 = u0 at hT4 iN
        generalize (quarters k (m0, m1, m2, m3)).2.1 = u1 at hT4 iN
        generalize (quarters k (m0, m1, m2, m3)).2.2.1 = u2 at hT4 iN
        generalize (quarters k (m0, m1, m2, m3)).2.2.2 = u3 at hT4 iN
        have HT4 := Lib.hid hT4
        clear hT4
        have d1 : ¬ (k : Int) < (k : Int) := by omega
        have c0 := iN.cell (j := 0) (v := .int .i64 u0) rfl
        have c1 := iN.cell (j := 1) (v := .int .i64 u1) rfl
        have c2 := iN.cell (j := 2) (v := .int .i64 u2) rfl
        have c3 := iN.cell (j := 3) (v := .int .i64 u3) rfl
        have b0 := i2.cell (j := 0) (v := .int .i64 0) rfl
        have b1 := i2.cell (j := 1) (v := .int .i64 0) rfl
        have b2 := i2.cell (j := 2) (v := .int .i64 0) rfl
        have b3 := i2.cell (j := 3) (v := .int .i64 0) rfl
        have f0 := i2.frozen 0
        have f1 := i2.frozen 1
        have f2 := i2.frozen 2
        have f3 := i2.frozen 3
        go_wp2_with fail
        have h9 := (((i2.set 0 (.int .i64 u0)).set 1 (.int .i64 u1)).set 2 (.int .i64 u2)).set 3 (.int .i64 u3)
        have z0 := h9.cell (j := 0) (v := .int .i64 u0) rfl
        have z1 := h9.cell (j := 1) (v := .int .i64 u1) rfl
        have z2 := h9.cell (j := 2) (v := .int .i64 u2) rfl
        have z3 := h9.cell (j := 3) (v := .int .i64 u3) rfl
        exact bodyPost_ret (v := .agg #[.int .i64 u0, .int .i64 u1, .int .i64 u2, .int .i64 u3]) (by simp [results, Tryz.f104, go_sem, z0, z1, z2, z3]) rfl ⟨by rw [HT4.out]; rfl, (((hB.setCell (by simp; try omega) _).setCell (by simp; try omega) _).setCell (by simp; try omega) _).setCell (by simp; try omega) _⟩

end Go.Proofs.YtpkaoechbmbolaaGreatDoor

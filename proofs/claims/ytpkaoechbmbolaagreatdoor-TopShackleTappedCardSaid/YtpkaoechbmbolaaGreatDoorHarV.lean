/- The package harmonic: the susceptance of a filter. -/
import Derived.Test.YtpkaoechbmbolaaGreatDoorHarU
namespace Go.Proofs.YtpkaoechbmbolaaGreatDoor
set_option linter.unusedSimpArgs false
set_option linter.unusedVariables false
open Go.RowKit

def susT (h : Int) (p : Int × Int) (x : Int × Int) : Int × Int := (wrap64 (wrap64 (p.1 * leftB x h) + wrap64 (h * p.2)), wrap64 (p.2 * leftB x h))
/-- the sum of the branches as a fraction. -/
def susL (ls : List (Int × Int)) (h : Int) : Int × Int := ls.foldl (susT h) (0, 1)
theorem susL_take (ls : List (Int × Int)) (h : Int) (k : Nat) (x : Int × Int) (hk : ls[k]? = some x) : susL (ls.take (k + 1)) h = susT h (susL (ls.take k) h) x := by
  unfold susL
  rw [List.take_add_one, hk, List.foldl_append]; rfl
def lowA (n d : Int) : Int := if d < 0 then -((Nat.gcd n.natAbs d.natAbs : Nat) : Int) else ((Nat.gcd n.natAbs d.natAbs : Nat) : Int)
/-- lowest terms, the denominator above 0. -/
def lowQ (n d : Int) : Int × Int := (n.tdiv (lowA n d), d.tdiv (lowA n d))
def susR (ls : List (Int × Int)) (h : Int) : Int × Int := lowQ (susL ls h).1 (susL ls h).2
def SusOk (ls : List (Int × Int)) (h : Int) : Prop := (-1000000000000000 ≤ (susL ls h).1 ∧ (susL ls h).1 ≤ 1000000000000000) ∧ (-1000000000000000 ≤ (susL ls h).2 ∧ (susL ls h).2 ≤ 1000000000000000) ∧ (susL ls h).2 ≠ 0
instance (ls : List (Int × Int)) (h : Int) : Decidable (SusOk ls h) := by unfold SusOk; infer_instance

theorem Tryz.infoRatio : (Tryz.prog.info? 165).map (·.size) = some 2 := by kernel_rfl
theorem gcd_step (x y : Int) (G : Nat) (h : Nat.gcd x.natAbs y.natAbs = G) : Nat.gcd y.natAbs (x.tmod y).natAbs = G := by
  rw [Int.natAbs_tmod, Nat.gcd_comm, ← Nat.gcd_rec, Nat.gcd_comm]; exact h
theorem lowA_of (n d x : Int) (hx : x.natAbs = Nat.gcd n.natAbs d.natAbs) (hs : x ≠ 0) (h : x < 0 ↔ d < 0) : x = lowA n d := by
  unfold lowA
  rw [← hx]
  by_cases hd : d < 0
  · rw [if_pos hd]; have := h.2 hd; omega
  · rw [if_neg hd]; have : ¬ x < 0 := fun h1 => hd (h.1 h1); omega
theorem lowA_neg (n d x : Int) (hx : x.natAbs = Nat.gcd n.natAbs d.natAbs) (hs : x ≠ 0) (h : ¬ (x < 0 ↔ d < 0)) : -x = lowA n d := by
  refine lowA_of n d (-x) (by rw [Int.natAbs_neg]; exact hx) (by omega) ?_
  by_cases hd : d < 0 <;> by_cases h1 : x < 0 <;> simp [hd, h1] at h ⊢ <;> omega

set_option maxRecDepth 100000 in
set_option maxHeartbeats 4000000 in
theorem susceptance_any (v : Value) (ls : List (Int × Int)) (h : Int) (w : World) (hv : Pairs w v ls) (hl : ls.length ≤ 1000000) (hS : SusOk ls h) :
    Calls Tryz.prog 97 #[.agg #[v], .int .i64 h] w fun e w' => e = .returned (.agg #[.int .i64 (susR ls h).1, .int .i64 (susR ls h).2]) ∧ Below w.heap.size w w' := by
  have HV := Lib.hid hv
  obtain ⟨a, cp, rfl, _, hcs0⟩ := id hv
  have hcs : ∀ k : Nat, k < ls.length → ∃ x b off, ls[k]? = some x ∧ a = some ⟨b, off, none⟩ ∧ w.cell? ⟨b, off + k * 2, none⟩ = some (.int .i64 x.1) ∧ w.cell? ⟨b, off + k * 2 + 1, none⟩ = some (.int .i64 x.2) := fun k hk => by
    obtain ⟨b, off, rfl, hc⟩ := hcs0 (by omega)
    obtain ⟨x, hx⟩ : ∃ x, ls[k]? = some x := ⟨_, List.getElem?_eq_getElem hk⟩
    exact ⟨x, b, off, hx, rfl, hc k x hx⟩
  have HC := Lib.hid hcs
  obtain ⟨r, hre⟩ : ∃ r, r = susR ls h := ⟨_, rfl⟩
  have HR0 := Lib.hid (show r = lowQ (susL ls h).1 (susL ls h).2 from hre)
  rw [← hre]
  clear hre
  have HSO := Lib.hid hS
  clear hv hcs0 hcs hS
  have hnil : 0 < ls.length → a ≠ none := fun h0 => by
    obtain ⟨x, b, off, _, rfl, _⟩ := HC.out 0 h0
    simp
  clear hnil
  go_enter Tryz.func97, Tryz.ntmps97
  go_upto_region 1 with fail
  obtain ⟨W1, hW1⟩ : ∃ v, v = World.alloc w (Obj.cells #[.slice a ls.length cp] 34) := ⟨_, rfl⟩
  have kW1 : Below w.heap.size w W1 := by rw [hW1]; exact below_new _ _
  have iW1 : Blk W1 (w.heap.size) 34 [.slice a ls.length cp] := by rw [hW1]; exact Blk.new _ _ _
  have sW1 : W1.heap.size = w.heap.size + 1 := by rw [hW1]; simp
  rw [← hW1]
  clear hW1
  obtain ⟨W2, hW2⟩ : ∃ v, v = World.alloc W1 (Obj.cells #[.int .i64 0, .int .i64 0] 165) := ⟨_, rfl⟩
  have kW2 : Below W1.heap.size W1 W2 := by rw [hW2]; exact below_new _ _
  have iW2 : Blk W2 (w.heap.size + 1) 165 [.int .i64 0, .int .i64 0] := by rw [hW2, ← sW1]; exact Blk.new _ _ _
  have sW2 : W2.heap.size = w.heap.size + 1 + 1 := by rw [hW2]; simp [sW1]
  rw [← hW2]
  clear hW2
  have hs2 : w.heap.size + 1 < W2.heap.size := Blk.lt iW2
  have a0 := (iW1.carry kW2).cell (j := 0) (v := .slice a ls.length cp) rfl
  have i4 : BlkI W2 (w.heap.size + 1) 165 [0, 0] := iW2
  have hB := bthen kW1 kW2
  clear iW1 iW2 kW1 kW2 sW1 sW2
  go_wp2_with fail
  clear a0
  go_loopw [5, 6, 14] (fun p q i wr => ∃ k : Nat, k ≤ ls.length ∧ i = .int .i64 k ∧ p = .int .i64 (susL (ls.take k) h).1 ∧ q = .int .i64 (susL (ls.take k) h).2 ∧ BlkI wr (w.heap.size + 1) 165 [0, 0] ∧ Below w.heap.size w wr) (fun _ _ i _ => ls.length - (intOf i).toNat)
  case atStart => exact ⟨0, by omega, rfl, rfl, rfl, i4, hB⟩
  case round =>
    clear i4 hB
    obtain ⟨k, hk, rfl, rfl, rfl, i4, hB⟩ := hrel
    by_cases hlt : k < ls.length
    · obtain ⟨x, b, off, hx, rfl, c0, c1⟩ := HC.out k hlt
      have c0 := cellb c0 hB
      have c1 := cellb c1 hB
      have HT := Lib.hid (susL_take ls h k x hx)
      clear hx
      obtain ⟨p, hp⟩ : ∃ p, p = susL (ls.take k) h := ⟨_, rfl⟩
      rw [← hp] at HT ⊢
      clear hp
      obtain ⟨p1, p2⟩ := p
      have TL := Lib.hid (fun W => leftB_any x h W)
      rw [susT] at HT
      generalize leftB x h = lf at TL HT
      obtain ⟨x1, x2⟩ := x
      simp only at TL c0 c1 HT ⊢
      have d1 : (k : Int) < ls.length := by omega
      go_upto_region 5 with fail
      obtain ⟨W3, hW3⟩ : ∃ v, v = World.alloc wr (Obj.cells #[.int .i64 x1, .int .i64 x2] 37) := ⟨_, rfl⟩
      have kW3 : Below wr.heap.size wr W3 := by rw [hW3]; exact below_new _ _
      have iW3 : Blk W3 (wr.heap.size) 37 [.int .i64 x1, .int .i64 x2] := by rw [hW3]; exact Blk.new _ _ _
      have sW3 : W3.heap.size = wr.heap.size + 1 := by rw [hW3]; simp
      rw [← hW3]
      clear hW3
      have b0 := iW3.cell (j := 0) (v := .int .i64 x1) rfl
      have b1 := iW3.cell (j := 1) (v := .int .i64 x2) rfl
      replace i4 := i4.carry kW3
      replace hB := bthen hB kW3
      clear c0 c1 kW3 iW3
      refine wp_region_E 15 (by kernel_rfl) ?_
      obtain ⟨wz, hwz⟩ : ∃ v, v = W3.drew := ⟨_, rfl⟩
      rw [← hwz]
      have hlz : Below W3.heap.size W3 wz := by rw [hwz]; exact (Below.refl _ _).drew
      have hbz := bthen hB hlz
      have b0 := cellb b0 hlz
      have b1 := cellb b1 hlz
      have i4 := i4.carry hlz
      clear hwz hlz
      refine wpAnyE_take (i := 0) (oi := { dst := some 18, op := Op.move (Operand.tmp 5), type := 3, pos := "filter.go:48", after := #[], guard := none }) (v := ?_) rfl (by kernel_rfl) (by kernel_rfl) (by kernel_rfl) (by kernel_rfl) (fun _ _ _ h => h) (Or.inl ⟨by rfl, ?_⟩) ?_
      rotate_left
      · (intro w hE; have b0 := cellb b0 hE; have b1 := cellb b1 hE; (try dsimp only); go_simp); (try with_reducible rfl)
      try simp only [Act.put, List.setIfInBounds_toArray, List.set_cons_zero, List.set_cons_succ]
      refine wpAnyE_take (i := 1) (oi := { dst := some 19, op := Op.load 37 (Operand.tmp 8), type := 37, pos := "filter.go:48", after := #[], guard := none }) (v := ?_) rfl (by kernel_rfl) (by kernel_rfl) (by kernel_rfl) (by kernel_rfl) (fun _ _ _ h => h) (Or.inl ⟨by rfl, ?_⟩) ?_
      rotate_left
      · (intro w hE; have b0 := cellb b0 hE; have b1 := cellb b1 hE; (try dsimp only); go_simp); (try with_reducible rfl)
      try simp only [Act.put, List.setIfInBounds_toArray, List.set_cons_zero, List.set_cons_succ]
      refine wpAnyE_take (i := 2) (oi := { dst := some 20, op := Op.move (Operand.tmp 1), type := 3, pos := "filter.go:48", after := #[], guard := none }) (v := ?_) rfl (by kernel_rfl) (by kernel_rfl) (by kernel_rfl) (by kernel_rfl) (fun _ _ _ h => h) (Or.inl ⟨by rfl, ?_⟩) ?_
      rotate_left
      · (intro w hE; have b0 := cellb b0 hE; have b1 := cellb b1 hE; (try dsimp only); go_simp); (try with_reducible rfl)
      try simp only [Act.put, List.setIfInBounds_toArray, List.set_cons_zero, List.set_cons_succ]
      refine wpAnyE_take (i := 5) (oi := { dst := some 23, op := Op.move (Operand.tmp 1), type := 3, pos := "filter.go:48", after := #[], guard := none }) (v := ?_) rfl (by kernel_rfl) (by kernel_rfl) (by kernel_rfl) (by kernel_rfl) (fun _ _ _ h => h) (Or.inl ⟨by rfl, ?_⟩) ?_
      rotate_left
      · (intro w hE; have b0 := cellb b0 hE; have b1 := cellb b1 hE; (try dsimp only); go_simp); (try with_reducible rfl)
      try simp only [Act.put, List.setIfInBounds_toArray, List.set_cons_zero, List.set_cons_succ]
      refine wpAnyE_take (i := 6) (oi := { dst := some 24, op := Op.move (Operand.tmp 6), type := 3, pos := "filter.go:48", after := #[], guard := none }) (v := ?_) rfl (by kernel_rfl) (by kernel_rfl) (by kernel_rfl) (by kernel_rfl) (fun _ _ _ h => h) (Or.inl ⟨by rfl, ?_⟩) ?_
      rotate_left
      · (intro w hE; have b0 := cellb b0 hE; have b1 := cellb b1 hE; (try dsimp only); go_simp); (try with_reducible rfl)
      try simp only [Act.put, List.setIfInBounds_toArray, List.set_cons_zero, List.set_cons_succ]
      refine wpAnyE_take (i := 7) (oi := { dst := some 25, op := Op.binOp BinOp.mul 3 (Operand.tmp 23) (Operand.tmp 24) 3, type := 3, pos := "filter.go:48", after := #[{ on := 5, ground := Ground.data }, { on := 6, ground := Ground.data }], guard := none }) (v := ?_) rfl (by kernel_rfl) (by kernel_rfl) (by kernel_rfl) (by kernel_rfl) (fun _ _ _ h => h) (Or.inl ⟨by rfl, ?_⟩) ?_
      rotate_left
      · (intro w hE; have b0 := cellb b0 hE; have b1 := cellb b1 hE; (try dsimp only); go_simp); (try with_reducible rfl)
      try simp only [Act.put, List.setIfInBounds_toArray, List.set_cons_zero, List.set_cons_succ]
      refine wpAnyE_take (i := 9) (oi := { dst := some 27, op := Op.move (Operand.tmp 6), type := 3, pos := "filter.go:48", after := #[{ on := 14, ground := Ground.gcOnly Departure.lateStores }], guard := none }) (v := ?_) rfl (by kernel_rfl) (by kernel_rfl) (by kernel_rfl) (by kernel_rfl) (fun _ _ _ h => h) (Or.inl ⟨by rfl, ?_⟩) ?_
      rotate_left
      · (intro w hE; have b0 := cellb b0 hE; have b1 := cellb b1 hE; (try dsimp only); go_simp); (try with_reducible rfl)
      try simp only [Act.put, List.setIfInBounds_toArray, List.set_cons_zero, List.set_cons_succ]
      refine wpAnyE_take (i := 10) (oi := { dst := some 28, op := Op.load 37 (Operand.tmp 8), type := 37, pos := "filter.go:48", after := #[], guard := none }) (v := ?_) rfl (by kernel_rfl) (by kernel_rfl) (by kernel_rfl) (by kernel_rfl) (fun _ _ _ h => h) (Or.inl ⟨by rfl, ?_⟩) ?_
      rotate_left
      · (intro w hE; have b0 := cellb b0 hE; have b1 := cellb b1 hE; (try dsimp only); go_simp); (try with_reducible rfl)
      try simp only [Act.put, List.setIfInBounds_toArray, List.set_cons_zero, List.set_cons_succ]
      refine wpAnyE_take (i := 11) (oi := { dst := some 29, op := Op.move (Operand.tmp 1), type := 3, pos := "filter.go:48", after := #[], guard := none }) (v := ?_) rfl (by kernel_rfl) (by kernel_rfl) (by kernel_rfl) (by kernel_rfl) (fun _ _ _ h => h) (Or.inl ⟨by rfl, ?_⟩) ?_
      rotate_left
      · (intro w hE; have b0 := cellb b0 hE; have b1 := cellb b1 hE; (try dsimp only); go_simp); (try with_reducible rfl)
      try simp only [Act.put, List.setIfInBounds_toArray, List.set_cons_zero, List.set_cons_succ]
      refine wpAnyE_call (i := 3) (oi := { dst := some 21, op := Op.call { callee := Callee.value (Operand.func 96), args := #[Operand.tmp 19, Operand.tmp 20], argTypes := #[37, 3] }, type := 3, pos := "filter.go:48", after := #[{ on := 1, ground := Ground.data }, { on := 2, ground := Ground.data }], guard := none }) (fun w hE => TL.out w) rfl (by kernel_rfl) (by kernel_rfl) (by kernel_rfl) (by kernel_rfl) (fun _ _ _ h => h) (by rfl) (fun w hE => by (try dsimp only); go_simp) ?_
      try simp only [Act.put, List.setIfInBounds_toArray, List.set_cons_zero, List.set_cons_succ]
      refine wpAnyE_take (i := 4) (oi := { dst := some 22, op := Op.binOp BinOp.mul 3 (Operand.tmp 18) (Operand.tmp 21) 3, type := 3, pos := "filter.go:48", after := #[{ on := 0, ground := Ground.data }, { on := 3, ground := Ground.data }], guard := none }) (v := ?_) rfl (by kernel_rfl) (by kernel_rfl) (by kernel_rfl) (by kernel_rfl) (fun _ _ _ h => h) (Or.inl ⟨by rfl, ?_⟩) ?_
      rotate_left
      · (intro w hE; have b0 := cellb b0 hE; have b1 := cellb b1 hE; (try dsimp only); go_simp); (try with_reducible rfl)
      try simp only [Act.put, List.setIfInBounds_toArray, List.set_cons_zero, List.set_cons_succ]
      refine wpAnyE_take (i := 8) (oi := { dst := some 26, op := Op.binOp BinOp.add 3 (Operand.tmp 22) (Operand.tmp 25) 3, type := 3, pos := "filter.go:48", after := #[{ on := 4, ground := Ground.data }, { on := 7, ground := Ground.data }], guard := none }) (v := ?_) rfl (by kernel_rfl) (by kernel_rfl) (by kernel_rfl) (by kernel_rfl) (fun _ _ _ h => h) (Or.inl ⟨by rfl, ?_⟩) ?_
      rotate_left
      · (intro w hE; have b0 := cellb b0 hE; have b1 := cellb b1 hE; (try dsimp only); go_simp); (try with_reducible rfl)
      try simp only [Act.put, List.setIfInBounds_toArray, List.set_cons_zero, List.set_cons_succ]
      refine wpAnyE_call (i := 12) (oi := { dst := some 30, op := Op.call { callee := Callee.value (Operand.func 96), args := #[Operand.tmp 28, Operand.tmp 29], argTypes := #[37, 3] }, type := 3, pos := "filter.go:48", after := #[{ on := 10, ground := Ground.data }, { on := 11, ground := Ground.data }, { on := 3, ground := Ground.chain }], guard := none }) (fun w hE => TL.out w) rfl (by kernel_rfl) (by kernel_rfl) (by kernel_rfl) (by kernel_rfl) (fun _ _ _ h => h) (by rfl) (fun w hE => by (try dsimp only); go_simp) ?_
      try simp only [Act.put, List.setIfInBounds_toArray, List.set_cons_zero, List.set_cons_succ]
      refine wpAnyE_take (i := 13) (oi := { dst := some 31, op := Op.binOp BinOp.mul 3 (Operand.tmp 27) (Operand.tmp 30) 3, type := 3, pos := "filter.go:48", after := #[{ on := 9, ground := Ground.data }, { on := 12, ground := Ground.data }, { on := 14, ground := Ground.gcOnly Departure.lateStores }], guard := none }) (v := ?_) rfl (by kernel_rfl) (by kernel_rfl) (by kernel_rfl) (by kernel_rfl) (fun _ _ _ h => h) (Or.inl ⟨by rfl, ?_⟩) ?_
      rotate_left
      · (intro w hE; have b0 := cellb b0 hE; have b1 := cellb b1 hE; (try dsimp only); go_simp); (try with_reducible rfl)
      try simp only [Act.put, List.setIfInBounds_toArray, List.set_cons_zero, List.set_cons_succ]
      refine wpAnyE_take (i := 14) (oi := { dst := some 5, op := Op.assign (Operand.tmp 26), type := 3, pos := "filter.go:48", after := #[{ on := 8, ground := Ground.data }, { on := 12, ground := Ground.chain }, { on := 0, ground := Ground.phase }, { on := 1, ground := Ground.phase }, { on := 2, ground := Ground.phase }, { on := 3, ground := Ground.phase }, { on := 4, ground := Ground.phase }, { on := 5, ground := Ground.phase }, { on := 6, ground := Ground.phase }, { on := 7, ground := Ground.phase }, { on := 8, ground := Ground.phase }, { on := 9, ground := Ground.textOnly Departure.lateStores }, { on := 10, ground := Ground.textOnly Departure.lateStores }, { on := 11, ground := Ground.textOnly Departure.lateStores }, { on := 12, ground := Ground.textOnly Departure.lateStoresUnsure }, { on := 13, ground := Ground.textOnly Departure.lateStores }], guard := none }) (v := ?_) rfl (by kernel_rfl) (by kernel_rfl) (by kernel_rfl) (by kernel_rfl) (fun _ _ _ h => h) (Or.inl ⟨by rfl, ?_⟩) ?_
      rotate_left
      · (intro w hE; have b0 := cellb b0 hE; have b1 := cellb b1 hE; (try dsimp only); go_simp); (try with_reducible rfl)
      try simp only [Act.put, List.setIfInBounds_toArray, List.set_cons_zero, List.set_cons_succ]
      refine wpAnyE_one (i := 15) (o := { dst := some 6, op := Op.assign (Operand.tmp 31), type := 3, pos := "filter.go:48", after := #[{ on := 13, ground := Ground.data }, { on := 14, ground := Ground.chain }, { on := 0, ground := Ground.phase }, { on := 1, ground := Ground.phase }, { on := 2, ground := Ground.phase }, { on := 3, ground := Ground.phase }, { on := 4, ground := Ground.phase }, { on := 5, ground := Ground.phase }, { on := 6, ground := Ground.phase }, { on := 7, ground := Ground.phase }, { on := 8, ground := Ground.phase }, { on := 9, ground := Ground.phase }, { on := 10, ground := Ground.phase }, { on := 11, ground := Ground.phase }, { on := 12, ground := Ground.phase }, { on := 13, ground := Ground.phase }, { on := 14, ground := Ground.phase }], guard := none }) (by kernel_rfl) rfl (fun wy1 hE K hK => ?_)
      have b0 := cellb b0 hE
      have b1 := cellb b1 hE
      have i4 := i4.carry hE
      have hbz1 := bthen hbz hE
      go_simp
      refine hK _ _ (fun _ => Below.refl _ _) ?_
      clear hK K hE
      try simp only [Act.put, List.setIfInBounds_toArray, List.set_cons_zero, List.set_cons_succ]
      refine wpAnyE_done (by kernel_rfl) (fun wy2 hE => ?_) _
      have hbz2 := bthen hbz1 hE
      have b0 := cellb b0 hE
      have b1 := cellb b1 hE
      have i4 := i4.carry hE
      clear hE
      have hB := hbz2
      obtain ⟨W4, hW4⟩ : ∃ v, v = wy2 := ⟨_, rfl⟩
      rw [← hW4] at hB i4 ⊢
      clear hW4 b0 b1
      go_wp2
      go_roundw
      case rel => exact ⟨k + 1, by omega, by go_num, by rw [HT.out]; simp only [wrapEq], by rw [HT.out]; simp only [wrapEq], i4, hB⟩
      case measure => simp [intOf]; omega
    · obtain rfl : k = ls.length := by omega
      rw [List.take_length]
      have hso := HSO.out
      unfold SusOk at hso
      have hr := HR0.out
      clear HSO HR0
      obtain ⟨n, hn⟩ : ∃ n, n = (susL ls h).1 := ⟨_, rfl⟩
      obtain ⟨d, hd⟩ : ∃ d, d = (susL ls h).2 := ⟨_, rfl⟩
      rw [← hn, ← hd] at hso hr ⊢
      clear hn hd
      obtain ⟨hn1, hd1, hd0⟩ := hso
      have HRR := Lib.hid hr
      clear hr
      go_wp2_with fail
      go_loopw [9, 10] (fun x y wr2 => ∃ p q : Int, x = .int .i64 p ∧ y = .int .i64 q ∧ Nat.gcd p.natAbs q.natAbs = Nat.gcd n.natAbs d.natAbs ∧ (-1000000000000000 ≤ p ∧ p ≤ 1000000000000000) ∧ (-1000000000000000 ≤ q ∧ q ≤ 1000000000000000) ∧ BlkI wr2 (w.heap.size + 1) 165 [0, 0] ∧ Below w.heap.size w wr2) (fun _ y _ => (intOf y).natAbs)
      case atStart => exact ⟨n, d, rfl, rfl, rfl, hn1, hd1, i4, hB⟩
      case round =>
        clear i4 hB
        obtain ⟨p, q, rfl, rfl, hg, hp1, hq1, i4, hB⟩ := hrel
        by_cases hq : q = 0
        · subst hq
          rw [Int.natAbs_zero, Nat.gcd_zero_right] at hg
          have hp0 : p ≠ 0 := fun h0 => by
            have : 0 < Nat.gcd n.natAbs d.natAbs := Nat.gcd_pos_of_pos_right _ (by omega)
            omega
          have LA := Lib.hid (lowA_of n d p hg hp0)
          have LN := Lib.hid (lowA_neg n d p hg hp0)
          have e9 : IntKind.i64.wrap (-p) = -p := IntWalk.i64_in _ (by omega)
          clear hg
          have fin : ∀ A : Int, A = lowA n d → r = (n.tdiv A, d.tdiv A) ∧ A ≠ 0 ∧ IntKind.i64.wrap (n.tdiv A) = n.tdiv A ∧ IntKind.i64.wrap (d.tdiv A) = d.tdiv A := fun A hA => by
            refine ⟨by rw [HRR.out, hA]; rfl, ?_, ?_, ?_⟩
            · rw [hA]; unfold lowA
              have : 0 < Nat.gcd n.natAbs d.natAbs := Nat.gcd_pos_of_pos_right _ (by omega)
              split <;> omega
            · have h2 : (n.tdiv A).natAbs ≤ n.natAbs := by rw [Int.natAbs_tdiv]; exact Nat.div_le_self _ _
              generalize n.tdiv A = z at h2 ⊢
              exact IntWalk.i64_in _ (by omega)
            · have h2 : (d.tdiv A).natAbs ≤ d.natAbs := by rw [Int.natAbs_tdiv]; exact Nat.div_le_self _ _
              generalize d.tdiv A = z at h2 ⊢
              exact IntWalk.i64_in _ (by omega)
          have FIN := Lib.hid fin
          clear fin
          have key : ∃ A : Int, A = lowA n d ∧ ((A = p ∧ (p < 0 ↔ d < 0)) ∨ (A = -p ∧ ¬ (p < 0 ↔ d < 0))) := by
            by_cases hc : (p < 0 ↔ d < 0)
            · exact ⟨p, LA.out hc, .inl ⟨rfl, hc⟩⟩
            · exact ⟨-p, LN.out hc, .inr ⟨rfl, hc⟩⟩
          obtain ⟨A, hA, hAp⟩ := key
          obtain ⟨hr, hA0, hq1, hq2⟩ := FIN.out A hA
          clear LA LN HRR FIN hA
          have HR := Lib.hid hr
          clear hr
          generalize hq3 : n.tdiv A = Q1 at hq1 HR
          generalize hq4 : d.tdiv A = Q2 at hq2 HR
          by_cases c1 : p < 0 <;> by_cases c2 : d < 0 <;> (simp only [c1, c2, iff_true, iff_false, true_iff, false_iff, not_true, not_false_iff, and_true, and_false, or_false, false_or] at hAp)
          all_goals
            subst hAp
            go_upto_region 12 with fail
            refine wp_region_E 7 (by kernel_rfl) ?_
            obtain ⟨wz, hwz⟩ : ∃ v, v = wr.drew := ⟨_, rfl⟩
            rw [← hwz]
            have hlz : Below wr.heap.size wr wz := by rw [hwz]; exact (Below.refl _ _).drew
            have hbz := bthen hB hlz
            have i4 := i4.carry hlz
            clear hwz hlz
            refine wpAnyE_take (i := 0) (oi := { dst := some 48, op := Op.move (Operand.tmp 5), type := 3, pos := "filter.go:57", after := #[], guard := none }) (v := ?_) rfl (by kernel_rfl) (by kernel_rfl) (by kernel_rfl) (by kernel_rfl) (fun _ _ _ h => h) (Or.inl ⟨by rfl, ?_⟩) ?_
            rotate_left
            · (intro w hE; (try dsimp only); go_simp); (try with_reducible rfl)
            try simp only [Act.put, List.setIfInBounds_toArray, List.set_cons_zero, List.set_cons_succ]
            refine wpAnyE_take (i := 1) (oi := { dst := some 49, op := Op.move (Operand.tmp 9), type := 3, pos := "filter.go:57", after := #[], guard := none }) (v := ?_) rfl (by kernel_rfl) (by kernel_rfl) (by kernel_rfl) (by kernel_rfl) (fun _ _ _ h => h) (Or.inl ⟨by rfl, ?_⟩) ?_
            rotate_left
            · (intro w hE; (try dsimp only); go_simp); (try with_reducible rfl)
            try simp only [Act.put, List.setIfInBounds_toArray, List.set_cons_zero, List.set_cons_succ]
            refine wpAnyE_take (i := 2) (oi := { dst := some 50, op := Op.binOp BinOp.quo 3 (Operand.tmp 48) (Operand.tmp 49) 3, type := 3, pos := "filter.go:57", after := #[{ on := 0, ground := Ground.data }, { on := 1, ground := Ground.data }], guard := none }) (v := ?_) rfl (by kernel_rfl) (by kernel_rfl) (by kernel_rfl) (by kernel_rfl) (fun _ _ _ h => h) (Or.inl ⟨by rfl, ?_⟩) ?_
            rotate_left
            · (intro w hE; (try dsimp only); go_simp); (try with_reducible rfl)
            try simp only [Act.put, List.setIfInBounds_toArray, List.set_cons_zero, List.set_cons_succ]
            refine wpAnyE_take (i := 3) (oi := { dst := some 51, op := Op.move (Operand.tmp 6), type := 3, pos := "filter.go:57", after := #[], guard := none }) (v := ?_) rfl (by kernel_rfl) (by kernel_rfl) (by kernel_rfl) (by kernel_rfl) (fun _ _ _ h => h) (Or.inl ⟨by rfl, ?_⟩) ?_
            rotate_left
            · (intro w hE; (try dsimp only); go_simp); (try with_reducible rfl)
            try simp only [Act.put, List.setIfInBounds_toArray, List.set_cons_zero, List.set_cons_succ]
            refine wpAnyE_take (i := 4) (oi := { dst := some 52, op := Op.move (Operand.tmp 9), type := 3, pos := "filter.go:57", after := #[], guard := none }) (v := ?_) rfl (by kernel_rfl) (by kernel_rfl) (by kernel_rfl) (by kernel_rfl) (fun _ _ _ h => h) (Or.inl ⟨by rfl, ?_⟩) ?_
            rotate_left
            · (intro w hE; (try dsimp only); go_simp); (try with_reducible rfl)
            try simp only [Act.put, List.setIfInBounds_toArray, List.set_cons_zero, List.set_cons_succ]
            refine wpAnyE_take (i := 5) (oi := { dst := some 53, op := Op.binOp BinOp.quo 3 (Operand.tmp 51) (Operand.tmp 52) 3, type := 3, pos := "filter.go:57", after := #[{ on := 3, ground := Ground.data }, { on := 4, ground := Ground.data }], guard := none }) (v := ?_) rfl (by kernel_rfl) (by kernel_rfl) (by kernel_rfl) (by kernel_rfl) (fun _ _ _ h => h) (Or.inl ⟨by rfl, ?_⟩) ?_
            rotate_left
            · (intro w hE; (try dsimp only); go_simp); (try with_reducible rfl)
            try simp only [Act.put, List.setIfInBounds_toArray, List.set_cons_zero, List.set_cons_succ]
            refine wpAnyE_take (i := 6) (oi := { dst := some 54, op := Op.build 165 #[(0, Operand.tmp 50), (1, Operand.tmp 53)], type := 165, pos := "filter.go:57", after := #[{ on := 2, ground := Ground.data }, { on := 5, ground := Ground.data }], guard := none }) (v := ?_) rfl (by kernel_rfl) (by kernel_rfl) (by kernel_rfl) (by kernel_rfl) (fun _ _ _ h => h) (Or.inl ⟨by rfl, ?_⟩) ?_
            rotate_left
            · (intro w hE; (try dsimp only); go_simp); (try with_reducible rfl)
            try simp only [Act.put, List.setIfInBounds_toArray, List.set_cons_zero, List.set_cons_succ]
            refine wpAnyE_one (i := 7) (o := { dst := none, op := Op.store 165 (Operand.tmp 4) (Operand.tmp 54), type := 0, pos := "filter.go:57", after := #[{ on := 6, ground := Ground.data }, { on := 0, ground := Ground.phase }, { on := 1, ground := Ground.phase }, { on := 2, ground := Ground.phase }, { on := 3, ground := Ground.phase }, { on := 4, ground := Ground.phase }, { on := 5, ground := Ground.phase }, { on := 6, ground := Ground.phase }], guard := none }) (by kernel_rfl) rfl (fun wy1 hE K hK => ?_)
            have i4 := i4.carry hE
            have hbz1 := bthen hbz hE
            clear hE
            rw [if_pos (by rfl)]
            refine wp_storeA _ _ _ rfl (w.heap.size + 1) [Q1, Q2] [0, 0] rfl rfl i4 rfl Tryz.infoRatio ?_
            obtain ⟨wx1, hwz⟩ : ∃ v, v = World.setRow wy1 (w.heap.size + 1) (ia [Q1, Q2]) := ⟨_, rfl⟩
            rw [← hwz]
            have hcz1 : Below w.heap.size w wx1 := by rw [hwz]; exact below_rowA hbz1 (by omega) _
            replace i4 := BlkI.setRowA i4 [Q1, Q2]
            rw [← hwz] at i4
            clear hwz
            refine hK _ _ (fun h => absurd rfl h) ?_
            clear hK K
            try simp only [Act.put, List.setIfInBounds_toArray, List.set_cons_zero, List.set_cons_succ]
            refine wpAnyE_done (by kernel_rfl) (fun wy2 hE => ?_) _
            have hbz2 := bthen hcz1 hE
            have i4 := i4.carry hE
            clear hE
            have hB := hbz2
            obtain ⟨W4, hW4⟩ : ∃ v, v = wy2 := ⟨_, rfl⟩
            rw [← hW4] at hB i4 ⊢
            clear hW4
            go_wp2_with fail
            have z0 : W4.cell? ⟨w.heap.size + 1, 0, none⟩ = some (.int .i64 Q1) := BlkI.cell i4 (j := 0) (by simp)
            have z1 : W4.cell? ⟨w.heap.size + 1, 1, none⟩ = some (.int .i64 Q2) := BlkI.cell i4 (j := 1) (by simp)
            exact bodyPost_ret (v := .agg #[.int .i64 Q1, .int .i64 Q2]) (by simp [results, Tryz.f97, go_sem, z0, z1]) rfl ⟨by rw [HR.out], hB⟩
        · have HG := Lib.hid (gcd_step p q _ hg)
          have hm : (p.tmod q).natAbs < q.natAbs := by rw [Int.natAbs_tmod]; exact Nat.mod_lt _ (by omega)
          have HMB := Lib.hid hm
          clear hg hm
          go_upto_region 9 with fail
          refine wp_region_E 5 (by kernel_rfl) ?_
          obtain ⟨wz, hwz⟩ : ∃ v, v = wr.drew := ⟨_, rfl⟩
          rw [← hwz]
          have hlz : Below wr.heap.size wr wz := by rw [hwz]; exact (Below.refl _ _).drew
          have hbz := bthen hB hlz
          have i4 := i4.carry hlz
          clear hwz hlz
          refine wpAnyE_take (i := 0) (oi := { dst := some 37, op := Op.move (Operand.tmp 10), type := 3, pos := "filter.go:52", after := #[], guard := none }) (v := ?_) rfl (by kernel_rfl) (by kernel_rfl) (by kernel_rfl) (by kernel_rfl) (fun _ _ _ h => h) (Or.inl ⟨by rfl, ?_⟩) ?_
          rotate_left
          · (intro w hE; (try dsimp only); go_simp); (try with_reducible rfl)
          try simp only [Act.put, List.setIfInBounds_toArray, List.set_cons_zero, List.set_cons_succ]
          refine wpAnyE_take (i := 1) (oi := { dst := some 38, op := Op.move (Operand.tmp 9), type := 3, pos := "filter.go:52", after := #[], guard := none }) (v := ?_) rfl (by kernel_rfl) (by kernel_rfl) (by kernel_rfl) (by kernel_rfl) (fun _ _ _ h => h) (Or.inl ⟨by rfl, ?_⟩) ?_
          rotate_left
          · (intro w hE; (try dsimp only); go_simp); (try with_reducible rfl)
          try simp only [Act.put, List.setIfInBounds_toArray, List.set_cons_zero, List.set_cons_succ]
          refine wpAnyE_take (i := 2) (oi := { dst := some 39, op := Op.move (Operand.tmp 10), type := 3, pos := "filter.go:52", after := #[], guard := none }) (v := ?_) rfl (by kernel_rfl) (by kernel_rfl) (by kernel_rfl) (by kernel_rfl) (fun _ _ _ h => h) (Or.inl ⟨by rfl, ?_⟩) ?_
          rotate_left
          · (intro w hE; (try dsimp only); go_simp); (try with_reducible rfl)
          try simp only [Act.put, List.setIfInBounds_toArray, List.set_cons_zero, List.set_cons_succ]
          refine wpAnyE_take (i := 3) (oi := { dst := some 40, op := Op.binOp BinOp.rem 3 (Operand.tmp 38) (Operand.tmp 39) 3, type := 3, pos := "filter.go:52", after := #[{ on := 1, ground := Ground.data }, { on := 2, ground := Ground.data }], guard := none }) (v := ?_) rfl (by kernel_rfl) (by kernel_rfl) (by kernel_rfl) (by kernel_rfl) (fun _ _ _ h => h) (Or.inl ⟨by rfl, ?_⟩) ?_
          rotate_left
          · (intro w hE; (try dsimp only); go_simp); (try with_reducible rfl)
          try simp only [Act.put, List.setIfInBounds_toArray, List.set_cons_zero, List.set_cons_succ]
          refine wpAnyE_take (i := 4) (oi := { dst := some 9, op := Op.assign (Operand.tmp 37), type := 3, pos := "filter.go:52", after := #[{ on := 0, ground := Ground.data }, { on := 0, ground := Ground.phase }, { on := 1, ground := Ground.phase }, { on := 2, ground := Ground.textOnly Departure.lateStores }, { on := 3, ground := Ground.textOnly Departure.lateStoresUnsure }], guard := none }) (v := ?_) rfl (by kernel_rfl) (by kernel_rfl) (by kernel_rfl) (by kernel_rfl) (fun _ _ _ h => h) (Or.inl ⟨by rfl, ?_⟩) ?_
          rotate_left
          · (intro w hE; (try dsimp only); go_simp); (try with_reducible rfl)
          try simp only [Act.put, List.setIfInBounds_toArray, List.set_cons_zero, List.set_cons_succ]
          refine wpAnyE_one (i := 5) (o := { dst := some 10, op := Op.assign (Operand.tmp 40), type := 3, pos := "filter.go:52", after := #[{ on := 3, ground := Ground.data }, { on := 4, ground := Ground.chain }, { on := 0, ground := Ground.phase }, { on := 1, ground := Ground.phase }, { on := 2, ground := Ground.phase }, { on := 3, ground := Ground.phase }, { on := 4, ground := Ground.phase }], guard := none }) (by kernel_rfl) rfl (fun wy1 hE K hK => ?_)
          have i4 := i4.carry hE
          have hbz1 := bthen hbz hE
          go_simp
          refine hK _ _ (fun _ => Below.refl _ _) ?_
          clear hK K hE
          try simp only [Act.put, List.setIfInBounds_toArray, List.set_cons_zero, List.set_cons_succ]
          refine wpAnyE_done (by kernel_rfl) (fun wy2 hE => ?_) _
          have hbz2 := bthen hbz1 hE
          have i4 := i4.carry hE
          clear hE
          have hB := hbz2
          obtain ⟨W4, hW4⟩ : ∃ v, v = wy2 := ⟨_, rfl⟩
          rw [← hW4] at hB i4 ⊢
          clear hW4
          go_wp2
          go_roundw
          case rel => exact ⟨q, p.tmod q, rfl, rfl, HG.out, hq1, by have := HMB.out; omega, i4, hB⟩
          case measure => have := HMB.out; simp only [intOf]; exact this
end Go.Proofs.YtpkaoechbmbolaaGreatDoor

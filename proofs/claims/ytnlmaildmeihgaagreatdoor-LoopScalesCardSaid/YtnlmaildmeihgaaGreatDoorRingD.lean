/- Rings: Made. -/
import Derived.Test.YtnlmaildmeihgaaGreatDoorRingB
import Derived.ChangeKeysEq
namespace Go.Proofs.YtnlmaildmeihgaaGreatDoor
open Go.RowKit

def made1E (n phase most : Int) : Int := firstE [withinE n 1 64, phaseE phase n, withinE most 1 64]
theorem made1E_ok {n phase most : Int} (h : made1E n phase most = 0) : 1 ≤ n ∧ n ≤ 64 ∧ 0 ≤ phase ∧ phase < n ∧ 1 ≤ most ∧ most ≤ 64 := by
  obtain ⟨h1, h2⟩ := firstE_cons_ok h
  obtain ⟨h2, h3⟩ := firstE_cons_ok h2
  obtain ⟨h3, _⟩ := firstE_cons_ok h3
  have := withinE_ok h1
  have := phaseE_ok h2
  have := withinE_ok h3
  omega
/-- the next phase of a phase. -/
def madeAt (n phase most x : Int) : Int :=
  if (phase - x + n) % n = 0 ∧ (x - phase + n) % n = 0 then x
  else if (phase - x + n) % n ≤ (x - phase + n) % n then (x + min most ((phase - x + n) % n)) % n
  else (x - min most ((x - phase + n) % n) + n) % n
def madeL (n phase most : Int) : List Int := upto (fun k => madeAt n phase most k) n.toNat
def madeR (n phase most : Int) : List Int := if made1E n phase most ≠ 0 then [] else madeL n phase most
def madeRow (n phase most : Int) (k : Nat) : List Int := upto (fun k => madeAt n phase most k) k ++ List.replicate (n.toNat - k) 0
theorem madeRow_set (n phase most : Int) (k : Nat) (h : k < n.toNat) : (madeRow n phase most k).set k (madeAt n phase most k) = madeRow n phase most (k + 1) := by
  unfold madeRow
  rw [List.set_append_right _ _ (by rw [upto_length]; exact Nat.le_refl _), upto_length, Nat.sub_self, show n.toNat - k = (n.toNat - (k + 1)) + 1 from by omega, List.replicate_succ, List.set_cons_zero, upto_succ]
  simp
theorem madeRow_length (n phase most : Int) (k : Nat) (h : k ≤ n.toNat) : (madeRow n phase most k).length = n.toNat := by simp [madeRow, upto_length]; omega

/-- two integers in an array against the zero array. -/
theorem eqWays (a b : Int) (w : World) : Sem.run Tryz.prog (binOp .eql 79 (.agg #[.int .i64 a, .int .i64 b]) (.agg #[.int .i64 0, .int .i64 0])) w = .ok (.bool (decide (a = 0 ∧ b = 0))) w := by
  obtain ⟨i0, hi, hz0, hz1, hz2⟩ := info_parts Tryz.infoInt
  have hu : Tryz.prog.underlying 3 = some (.int .i64) := by kernel_rfl
  have hc : Tryz.prog.cellsOf 3 = 1 := by kernel_rfl
  rw [run_eql_struct, run_equalIn_array w 9999 (t := 79) (e := 3) (n := 2) _ _ (by kernel_rfl) hi, hc]
  have he : ∀ x, (Op.equalIn 9999 3 (.int .i64 x) (.int .i64 0)).run Tryz.prog w = .ok (x == 0) w := fun x => run_equalIn_int w 9998 _ _ _ x 0 hu
  have hp : ∀ (xs : Array Value) (i : Nat) (x : Int), xs[i]? = some (.int .i64 x) → (part 3 xs i).run Tryz.prog w = .ok (.int .i64 x) w := fun xs i x hx => by
    exact run_part_plain w (by kernel_rfl) hx
  show Result.andThen (Sem.run _ (Op.eqItems 9999 _ 1 _ _ [0, 1]) w) _ = _
  simp only [Op.eqItems, Sem.run_bind]
  rw [hp _ _ a (by rfl)]
  simp only [Result.andThen_ok]
  rw [hp _ _ 0 (by rfl)]
  simp only [Result.andThen_ok, he]
  by_cases ha : a = 0
  · subst ha
    simp only [beq_self_eq_true, Bool.not_true, Bool.false_eq_true, if_false, Sem.run_bind]
    rw [hp _ _ b (by rfl)]
    simp only [Result.andThen_ok]
    rw [hp _ _ 0 (by rfl)]
    simp only [Result.andThen_ok, he]
    by_cases hb : b = 0
    · subst hb
      simp [Result.andThen]
    · simp [hb, Result.andThen]
  · simp [ha, Result.andThen]

set_option maxRecDepth 100000 in
set_option maxHeartbeats 4000000 in
theorem Made_any (n phase most : Int) (w : World) :
    Calls Tryz.prog 55 #[.int .i64 n, .int .i64 phase, .int .i64 most] w (GivesPoly w (madeR n phase most) (made1E n phase most)) := by
  go_enter Tryz.func55, Tryz.ntmps55
  go_wp2_with fail
  refine (within_any _ _ _ _).mono ?_
  rintro e w' ⟨rfl, rfl⟩
  go_wp2_with fail
  refine (checkPhase_any _ _ _).mono ?_
  rintro e w' ⟨rfl, rfl⟩
  go_wp2_with fail
  refine (within_any _ _ _ _).mono ?_
  rintro e w' ⟨rfl, rfl⟩
  go_wp2_with fail
  refine (first3 _ _ _ _ _).mono ?_
  rintro e w' ⟨rfl, rfl⟩
  have hV := below_new w (.cells #[.int .i64 (withinE n 1 64), .int .i64 (phaseE phase n), .int .i64 (withinE most 1 64)] 27)
  generalize w.alloc _ = V at hV ⊢
  have hE : firstE [withinE n 1 64, phaseE phase n, withinE most 1 64] = made1E n phase most := rfl
  rw [hE]
  clear hE
  by_cases he : made1E n phase most = 0
  · obtain ⟨n1, n64, p0, pn, m1, m64⟩ := made1E_ok he
    have HR := Lib.hid (show madeR n phase most = madeL n phase most by rw [madeR, if_neg (by rw [he]; simp)])
    have HE := Lib.hid he
    rw [he]
    clear he
    obtain ⟨N, rfl⟩ : ∃ N : Nat, n = N := ⟨n.toNat, by omega⟩
    have hmk := run_make_row' (P := Tryz.prog) 81 3 (.int .i64 0) 8 Tryz.underlying81 Tryz.infoInt rfl .i64 .i64 N (by omega) (by omega)
    rw [ia_made] at hmk
    go_wp2_with fail
    clear hmk
    have hB0 := below_new V (.cells (ia (List.replicate N 0)) 3)
    have hC0 := BlkI.new V 3 (List.replicate N 0)
    obtain ⟨W, hW⟩ : ∃ W, W = V.alloc (.cells (ia (List.replicate N 0)) 3) := ⟨_, rfl⟩
    rw [← hW] at hB0 hC0 ⊢
    clear hW
    go_loopw [27] (fun vi wr => ∃ k : Nat, k ≤ N ∧ vi = .int .i64 k ∧ Below V.heap.size V wr ∧ BlkI wr V.heap.size 3 (madeRow N phase most k)) (fun vi _ => N - (intOf vi).toNat)
    case atStart => exact ⟨0, by omega, rfl, hB0, by simpa [madeRow, upto] using hC0⟩
    case round =>
      obtain ⟨k, hk, rfl, hbr, hcr⟩ := hrel
      by_cases hlt : k < N
      · have hset := madeRow_set N phase most k (by simpa using hlt)
        have hlen := madeRow_length N phase most k (by simp; omega)
        rw [Int.toNat_natCast] at hlen
        obtain ⟨up, hup⟩ : ∃ u, u = (phase - k + N) % (N : Int) := ⟨_, rfl⟩
        obtain ⟨dn, hdn⟩ : ∃ u, u = ((k : Int) - phase + N) % (N : Int) := ⟨_, rfl⟩
        have hat : madeAt N phase most k = if up = 0 ∧ dn = 0 then (k : Int) else if up ≤ dn then (k + min most up) % (N : Int) else (k - min most dn + N) % (N : Int) := by rw [hup, hdn]; rfl
        rw [hat] at hset
        have hu1 : 0 ≤ up ∧ up < N := by rw [hup]; exact ⟨Int.emod_nonneg _ (by omega), Int.emod_lt_of_pos _ (by omega)⟩
        have hd1 : 0 ≤ dn ∧ dn < N := by rw [hdn]; exact ⟨Int.emod_nonneg _ (by omega), Int.emod_lt_of_pos _ (by omega)⟩
        have e1 : IntKind.i64.wrap (phase - (k : Int)) = phase - k := IntWalk.i64_in _ (by omega)
        have e2 : IntKind.i64.wrap (phase - (k : Int) + N) = phase - k + N := IntWalk.i64_in _ (by omega)
        have e3 : IntKind.i64.wrap ((k : Int) - phase) = k - phase := IntWalk.i64_in _ (by omega)
        have e4 : IntKind.i64.wrap ((k : Int) - phase + N) = k - phase + N := IntWalk.i64_in _ (by omega)
        have t1 : (phase - (k : Int) + N).tmod N = up := by rw [hup, Int.tmod_eq_emod_of_nonneg (by omega)]
        have t2 : ((k : Int) - phase + N).tmod N = dn := by rw [hdn, Int.tmod_eq_emod_of_nonneg (by omega)]
        have z1 : ¬ N = 0 := by omega
        have HSet := Lib.hid hset
        have HLen := Lib.hid hlen
        have hfo := Blk.frozen hcr k
        have hco := BlkI.cell hcr (j := k) (by omega)
        clear hup hdn hat hset hlen
        go_wp2_with fail
        refine wp_region_held_drew (S := (fun _ => True)) (by kernel_rfl) ?_ (fun hHeld0 => ?_)
        · (try dsimp only); (first | done | trivial)
        refine wpAnyH_take (i := 0) (oi := { dst := some 30, op := Op.move (Operand.tmp 1), type := 3, pos := "ring.go:82", after := #[], guard := none }) (v := ?_) rfl (by kernel_rfl) (by kernel_rfl) (by kernel_rfl) (fun _ _ _ h => h) (Or.inl ⟨by rfl, ?_⟩) (by assumption) ?_
        rotate_left
        · (intro w hSw; (try dsimp only at hSw); go_simp); (try with_reducible rfl)
        try simp only [Act.put, List.setIfInBounds_toArray, List.set_cons_zero, List.set_cons_succ]
        refine wpAnyH_take (i := 1) (oi := { dst := some 31, op := Op.move (Operand.tmp 10), type := 3, pos := "ring.go:82", after := #[], guard := none }) (v := ?_) rfl (by kernel_rfl) (by kernel_rfl) (by kernel_rfl) (fun _ _ _ h => h) (Or.inl ⟨by rfl, ?_⟩) (by assumption) ?_
        rotate_left
        · (intro w hSw; (try dsimp only at hSw); go_simp); (try with_reducible rfl)
        try simp only [Act.put, List.setIfInBounds_toArray, List.set_cons_zero, List.set_cons_succ]
        refine wpAnyH_take (i := 2) (oi := { dst := some 32, op := Op.binOp BinOp.sub 3 (Operand.tmp 30) (Operand.tmp 31) 3, type := 3, pos := "ring.go:82", after := #[{ on := 0, ground := Ground.data }, { on := 1, ground := Ground.data }], guard := none }) (v := ?_) rfl (by kernel_rfl) (by kernel_rfl) (by kernel_rfl) (fun _ _ _ h => h) (Or.inl ⟨by rfl, ?_⟩) (by assumption) ?_
        rotate_left
        · (intro w hSw; (try dsimp only at hSw); go_simp); (try with_reducible rfl)
        try simp only [Act.put, List.setIfInBounds_toArray, List.set_cons_zero, List.set_cons_succ]
        refine wpAnyH_take (i := 3) (oi := { dst := some 33, op := Op.move (Operand.tmp 0), type := 3, pos := "ring.go:82", after := #[], guard := none }) (v := ?_) rfl (by kernel_rfl) (by kernel_rfl) (by kernel_rfl) (fun _ _ _ h => h) (Or.inl ⟨by rfl, ?_⟩) (by assumption) ?_
        rotate_left
        · (intro w hSw; (try dsimp only at hSw); go_simp); (try with_reducible rfl)
        try simp only [Act.put, List.setIfInBounds_toArray, List.set_cons_zero, List.set_cons_succ]
        refine wpAnyH_take (i := 4) (oi := { dst := some 34, op := Op.binOp BinOp.add 3 (Operand.tmp 32) (Operand.tmp 33) 3, type := 3, pos := "ring.go:82", after := #[{ on := 2, ground := Ground.data }, { on := 3, ground := Ground.data }], guard := none }) (v := ?_) rfl (by kernel_rfl) (by kernel_rfl) (by kernel_rfl) (fun _ _ _ h => h) (Or.inl ⟨by rfl, ?_⟩) (by assumption) ?_
        rotate_left
        · (intro w hSw; (try dsimp only at hSw); go_simp); (try with_reducible rfl)
        try simp only [Act.put, List.setIfInBounds_toArray, List.set_cons_zero, List.set_cons_succ]
        refine wpAnyH_take (i := 5) (oi := { dst := some 35, op := Op.move (Operand.tmp 0), type := 3, pos := "ring.go:82", after := #[], guard := none }) (v := ?_) rfl (by kernel_rfl) (by kernel_rfl) (by kernel_rfl) (fun _ _ _ h => h) (Or.inl ⟨by rfl, ?_⟩) (by assumption) ?_
        rotate_left
        · (intro w hSw; (try dsimp only at hSw); go_simp); (try with_reducible rfl)
        try simp only [Act.put, List.setIfInBounds_toArray, List.set_cons_zero, List.set_cons_succ]
        refine wpAnyH_take (i := 6) (oi := { dst := some 36, op := Op.binOp BinOp.rem 3 (Operand.tmp 34) (Operand.tmp 35) 3, type := 3, pos := "ring.go:82", after := #[{ on := 4, ground := Ground.data }, { on := 5, ground := Ground.data }], guard := none }) (v := ?_) rfl (by kernel_rfl) (by kernel_rfl) (by kernel_rfl) (fun _ _ _ h => h) (Or.inl ⟨by rfl, ?_⟩) (by assumption) ?_
        rotate_left
        · (intro w hSw; (try dsimp only at hSw); go_simp); (try with_reducible rfl)
        try simp only [Act.put, List.setIfInBounds_toArray, List.set_cons_zero, List.set_cons_succ]
        refine wpAnyH_take (i := 7) (oi := { dst := some 37, op := Op.move (Operand.tmp 10), type := 3, pos := "ring.go:82", after := #[], guard := none }) (v := ?_) rfl (by kernel_rfl) (by kernel_rfl) (by kernel_rfl) (fun _ _ _ h => h) (Or.inl ⟨by rfl, ?_⟩) (by assumption) ?_
        rotate_left
        · (intro w hSw; (try dsimp only at hSw); go_simp); (try with_reducible rfl)
        try simp only [Act.put, List.setIfInBounds_toArray, List.set_cons_zero, List.set_cons_succ]
        refine wpAnyH_take (i := 8) (oi := { dst := some 38, op := Op.move (Operand.tmp 1), type := 3, pos := "ring.go:82", after := #[], guard := none }) (v := ?_) rfl (by kernel_rfl) (by kernel_rfl) (by kernel_rfl) (fun _ _ _ h => h) (Or.inl ⟨by rfl, ?_⟩) (by assumption) ?_
        rotate_left
        · (intro w hSw; (try dsimp only at hSw); go_simp); (try with_reducible rfl)
        try simp only [Act.put, List.setIfInBounds_toArray, List.set_cons_zero, List.set_cons_succ]
        refine wpAnyH_take (i := 9) (oi := { dst := some 39, op := Op.binOp BinOp.sub 3 (Operand.tmp 37) (Operand.tmp 38) 3, type := 3, pos := "ring.go:82", after := #[{ on := 7, ground := Ground.data }, { on := 8, ground := Ground.data }], guard := none }) (v := ?_) rfl (by kernel_rfl) (by kernel_rfl) (by kernel_rfl) (fun _ _ _ h => h) (Or.inl ⟨by rfl, ?_⟩) (by assumption) ?_
        rotate_left
        · (intro w hSw; (try dsimp only at hSw); go_simp); (try with_reducible rfl)
        try simp only [Act.put, List.setIfInBounds_toArray, List.set_cons_zero, List.set_cons_succ]
        refine wpAnyH_take (i := 10) (oi := { dst := some 40, op := Op.move (Operand.tmp 0), type := 3, pos := "ring.go:82", after := #[], guard := none }) (v := ?_) rfl (by kernel_rfl) (by kernel_rfl) (by kernel_rfl) (fun _ _ _ h => h) (Or.inl ⟨by rfl, ?_⟩) (by assumption) ?_
        rotate_left
        · (intro w hSw; (try dsimp only at hSw); go_simp); (try with_reducible rfl)
        try simp only [Act.put, List.setIfInBounds_toArray, List.set_cons_zero, List.set_cons_succ]
        refine wpAnyH_take (i := 11) (oi := { dst := some 41, op := Op.binOp BinOp.add 3 (Operand.tmp 39) (Operand.tmp 40) 3, type := 3, pos := "ring.go:82", after := #[{ on := 9, ground := Ground.data }, { on := 10, ground := Ground.data }], guard := none }) (v := ?_) rfl (by kernel_rfl) (by kernel_rfl) (by kernel_rfl) (fun _ _ _ h => h) (Or.inl ⟨by rfl, ?_⟩) (by assumption) ?_
        rotate_left
        · (intro w hSw; (try dsimp only at hSw); go_simp); (try with_reducible rfl)
        try simp only [Act.put, List.setIfInBounds_toArray, List.set_cons_zero, List.set_cons_succ]
        refine wpAnyH_take (i := 12) (oi := { dst := some 42, op := Op.move (Operand.tmp 0), type := 3, pos := "ring.go:82", after := #[], guard := none }) (v := ?_) rfl (by kernel_rfl) (by kernel_rfl) (by kernel_rfl) (fun _ _ _ h => h) (Or.inl ⟨by rfl, ?_⟩) (by assumption) ?_
        rotate_left
        · (intro w hSw; (try dsimp only at hSw); go_simp); (try with_reducible rfl)
        try simp only [Act.put, List.setIfInBounds_toArray, List.set_cons_zero, List.set_cons_succ]
        refine wpAnyH_take (i := 13) (oi := { dst := some 43, op := Op.binOp BinOp.rem 3 (Operand.tmp 41) (Operand.tmp 42) 3, type := 3, pos := "ring.go:82", after := #[{ on := 11, ground := Ground.data }, { on := 12, ground := Ground.data }], guard := none }) (v := ?_) rfl (by kernel_rfl) (by kernel_rfl) (by kernel_rfl) (fun _ _ _ h => h) (Or.inl ⟨by rfl, ?_⟩) (by assumption) ?_
        rotate_left
        · (intro w hSw; (try dsimp only at hSw); go_simp); (try with_reducible rfl)
        try simp only [Act.put, List.setIfInBounds_toArray, List.set_cons_zero, List.set_cons_succ]
        refine wpAnyH_take (i := 14) (oi := { dst := some 44, op := Op.build 79 #[(0, Operand.tmp 36), (1, Operand.tmp 43)], type := 79, pos := "ring.go:82", after := #[{ on := 6, ground := Ground.data }, { on := 13, ground := Ground.data }], guard := none }) (v := ?_) rfl (by kernel_rfl) (by kernel_rfl) (by kernel_rfl) (fun _ _ _ h => h) (Or.inl ⟨by rfl, ?_⟩) (by assumption) ?_
        rotate_left
        · (intro w hSw; (try dsimp only at hSw); go_simp); (try with_reducible rfl)
        try simp only [Act.put, List.setIfInBounds_toArray, List.set_cons_zero, List.set_cons_succ]
        refine wpAnyH_ready (rs := [15]) (by kernel_rfl) (by simp) ?_
        refine (AllReadyH.cons (o := { dst := some 11, op := Op.alloc 79, type := 0, pos := "ring.go:82", after := #[], guard := none }) rfl (fun K hK => ?_) AllReadyH.nil)
        go_simp
        refine hK.out _ _ ?_ (fun hHeld1 => ?_)
        · (try dsimp only); (first | done | trivial)
        clear hK K hHeld0
        try simp only [Act.put, List.setIfInBounds_toArray, List.set_cons_zero, List.set_cons_succ]
        refine wpAnyH_ready (rs := [16]) (by kernel_rfl) (by simp) ?_
        refine (AllReadyH.cons (o := { dst := none, op := Op.store 79 (Operand.tmp 11) (Operand.tmp 44), type := 0, pos := "ring.go:82", after := #[{ on := 15, ground := Ground.data }, { on := 14, ground := Ground.data }, { on := 0, ground := Ground.phase }, { on := 1, ground := Ground.phase }, { on := 2, ground := Ground.phase }, { on := 3, ground := Ground.phase }, { on := 4, ground := Ground.phase }, { on := 5, ground := Ground.phase }, { on := 6, ground := Ground.phase }, { on := 7, ground := Ground.phase }, { on := 8, ground := Ground.phase }, { on := 9, ground := Ground.phase }, { on := 10, ground := Ground.phase }, { on := 11, ground := Ground.phase }, { on := 12, ground := Ground.phase }, { on := 13, ground := Ground.phase }, { on := 14, ground := Ground.phase }, { on := 15, ground := Ground.phase }], guard := none }) rfl (fun K hK => ?_) AllReadyH.nil)
        go_simp
        refine hK.out _ _ ?_ (fun hHeld2 => ?_)
        · (try dsimp only); (first | done | trivial)
        clear hK K hHeld1
        try simp only [Act.put, List.setIfInBounds_toArray, List.set_cons_zero, List.set_cons_succ]
        refine wpAnyH_done (by kernel_rfl) ?_ _
        clear hHeld2
        obtain ⟨Z, hZ⟩ : ∃ v, v = World.alloc wr (Obj.cells #[.int .i64 up, .int .i64 dn] 79) := ⟨_, rfl⟩
        have kZ : Below wr.heap.size wr Z := by rw [hZ]; exact below_new _ _
        have iZ : Blk Z (wr.heap.size) 79 [.int .i64 up, .int .i64 dn] := by rw [hZ]; exact Blk.new _ _ _
        have sZ : Z.heap.size = wr.heap.size + 1 := by rw [hZ]; simp
        rw [← hZ]
        clear hZ
        clear sZ
        have hx0 := Blk.cell iZ (j := 0) (v := .int .i64 up) rfl
        have hx1 := Blk.cell iZ (j := 1) (v := .int .i64 dn) rfl
        have hcz := hcr.carry kZ
        have hfz := Blk.frozen hcz k
        have hcoz := BlkI.cell hcz (j := k) (by rw [HLen.out]; omega)
        clear hfo hco
        have hq := fun W => eqWays up dn W
        by_cases h0 : up = 0 ∧ dn = 0
        · have hst : (if up = 0 ∧ dn = 0 then (k : Int) else if up ≤ dn then (k + min most up) % (N : Int) else (k - min most dn + N) % (N : Int)) = k := if_pos h0
          have HSet := Lib.hid (HSet.out.symm.trans (by rw [hst])).symm
          have hd0 : decide (up = 0 ∧ dn = 0) = true := by simp [h0]
          rw [hd0] at hq
          clear hst hd0 h0
          go_wp2_with fail
          have hx := BlkI.set hcz k (k : Int)
          rw [HSet.out] at hx
          exact ⟨⟨k + 1, by omega, by simp, ((bthen hbr kZ).setCell (Nat.le_refl _) _).drew, hx⟩, by show N - ((k : Int) + 1).toNat < N - (k : Int).toNat; omega⟩
        · have hd0 : decide (up = 0 ∧ dn = 0) = false := by simp [h0]
          rw [hd0] at hq
          by_cases hle : up ≤ dn
          · have hst : (if up = 0 ∧ dn = 0 then (k : Int) else if up ≤ dn then (k + min most up) % (N : Int) else (k - min most dn + N) % (N : Int)) = (k + min most up) % (N : Int) := by rw [if_neg h0, if_pos hle]
            have HSet := Lib.hid (HSet.out.symm.trans (by rw [hst])).symm
            clear hst hd0 h0
            go_wp2_with fail
            have hmin : (if up < most then up else most) = min most up := by rw [Int.min_def]; split <;> split <;> omega
            have hx := BlkI.set hcz k ((k + (if up < most then up else most)) % (N : Int))
            rw [show (madeRow N phase most k).set k ((k + (if up < most then up else most)) % (N : Int)) = madeRow N phase most (k + 1) from by rw [hmin]; exact HSet.out] at hx
            exact ⟨⟨k + 1, by omega, by simp, ((bthen hbr kZ).setCell (Nat.le_refl _) _).drew, hx⟩, by show N - ((k : Int) + 1).toNat < N - (k : Int).toNat; omega⟩
          · have hst : (if up = 0 ∧ dn = 0 then (k : Int) else if up ≤ dn then (k + min most up) % (N : Int) else (k - min most dn + N) % (N : Int)) = (k - min most dn + N) % (N : Int) := by rw [if_neg h0, if_neg hle]
            have HSet := Lib.hid (HSet.out.symm.trans (by rw [hst])).symm
            clear hst hd0 h0
            go_wp2_with fail
            have hmin : (if dn < most then dn else most) = min most dn := by rw [Int.min_def]; split <;> split <;> omega
            have hx := BlkI.set hcz k ((k - (if dn < most then dn else most)) % (N : Int))
            rw [show (madeRow N phase most k).set k ((k - (if dn < most then dn else most)) % (N : Int)) = madeRow N phase most (k + 1) from by rw [hmin, ← Int.add_emod_right]; exact HSet.out] at hx
            exact ⟨⟨k + 1, by omega, by simp, ((bthen hbr kZ).setCell (Nat.le_refl _) _).drew, hx⟩, by show N - ((k : Int) + 1).toNat < N - (k : Int).toNat; omega⟩
      · obtain rfl : k = N := by omega
        have hfin : madeRow k phase most k = madeL k phase most := by simp [madeRow, madeL]
        rw [hfin] at hcr
        have hl := Lib.hid (BlkI.ints hcr (n := k) (by rw [madeL, upto_length]; simp))
        clear hfin hcr
        go_wp2
        go_ret2
        exact ⟨⟨_, by rw [HE.out]; rfl, by rw [HR.out]; exact hl.out⟩, bthen hV hbr⟩
  · have HR := Lib.hid (show madeR n phase most = [] by rw [madeR, if_pos he])
    go_wp2
    go_ret2
    exact ⟨⟨_, rfl, by rw [HR.out]; exact Ints.nil _⟩, hV⟩

end Go.Proofs.YtnlmaildmeihgaaGreatDoor

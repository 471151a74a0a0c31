/- The package harmonic: the design. -/
import Derived.Test.YtfeajpkjjlddlaaGreatDoorHarM
namespace Go.Proofs.YtfeajpkjjlddlaaGreatDoor
set_option linter.unusedSimpArgs false
set_option linter.unusedVariables false
open Go.RowKit

theorem Tryz.undA3 : Tryz.prog.underlying 65 = some (.array 3 3) := by kernel_rfl
theorem Tryz.infoA3 : (Tryz.prog.info? 65).map (·.size) = some 3 := by kernel_rfl
theorem Tryz.infoRoot : (Tryz.prog.info? 51).map (·.size) = some 2 := by kernel_rfl
theorem load3 {l : List Int} (hl : l.length = 3) {w : World} {B : Nat} (h : BlkI w B 65 l) : Sem.run Tryz.prog (Instr.loadAt 65 (.pointer (some ⟨B, 0, none⟩))) w = .ok (.agg (ia l)) w := loadRow Tryz.undA3 (by rw [Tryz.infoA3, hl]) h
theorem Tryz.loadVar3 {l : List Int} (hl : l.length = 3) {w : World} {B : Nat} (h : BlkI w B 65 l) : Sem.run Tryz.prog (loadVar 65 ⟨B, 0, none⟩) w = .ok (.agg (ia l)) w :=
  run_loadVar_row w B 65 65 (ia l) (0, 0) _ h Tryz.undA3 rfl (by rw [Tryz.infoA3, ia_size, hl])
theorem wp_storeA {o : Oper} {a : Act} {w : World} {K : Act → World → Prop} {Q : Exit → Act → World → Prop} (T : TypeId) (x y : Operand) (hop : o.op = .store T x y) (B : Nat) (l old : List Int)
    (hx : a.eval x = .pointer (some ⟨B, 0, none⟩)) (hy : a.eval y = .agg (ia l)) (hB : BlkI w B T old) (hlo : old.length = l.length) (hi : (Tryz.prog.info? T).map (·.size) = some l.length)
    (h : K (a.put o.dst undef) (w.setRow B (ia l))) : o.wp Tryz.prog a w K Q :=
  wp_store_row T x y hop B (ia l) hx hy T (ia old) hB (by rw [hi, ia_size]) (by rw [ia_size, ia_size, hlo]) (ia_one l) h
/-- zeros laid next, and a row stored there. -/
theorem zrow_below (w : World) (T : TypeId) (c c' : Array Value) : Below w.heap.size w ((w.alloc (.cells c T)).setRow w.heap.size c') := below_rowA (below_new w _) (Nat.le_refl _) c'
theorem zrow_blk (w : World) (T : TypeId) (z l : List Int) : BlkI ((w.alloc (.cells (ia z) T)).setRow w.heap.size (ia l)) w.heap.size T l := BlkI.setRowA (BlkI.new w T z) l
theorem BlkI.setRowO {w : World} {B B' : Nat} {T : TypeId} {l : List Int} (h : BlkI w B T l) (hne : B ≠ B') (cs : Array Value) : BlkI (w.setRow B' cs) B T l := Blk.setRow h hne cs
/-- a guarded load that is wanted. -/
theorem wpList_loadG {P : Program} {w : World} {ops : Array Oper} {rest : List Oper} {o : Oper} {a : Act} {Q : Exit → Act → World → Prop} (hg : Region.wanted o (yielded ops a.tmps) = true) (t : TypeId) (x : Operand) (hop : o.op = Op.load t x) {v : Value}
    (h : (Instr.loadAt t (a.eval x)).run P w = .ok v w) (hK : wpList P ops Q rest (a.put o.dst v) w) : wpList P ops Q (o :: rest) a w := by
  refine wpList_step fun K hK' => ?_
  rw [if_pos hg]
  unfold Oper.wp
  rw [exec_load hop h]
  exact hK' _ _ hK

theorem tri0_eq (t : Int × Int × Int) : (triL t == [0, 0, 0]) = tri0 t := by
  simp [triL, tri0, Bool.and_assoc]
theorem desS_succ (m : Nat) (lim : List Int) (n : Nat) : desS m lim (n + 1) = bif desB lim (desS m lim n).2 (triN m n) then (triN m n, stC (orderC (triQ (triN m n)) 1)) else desS m lim n := by
  rw [desS]; cases desB lim (desS m lim n).2 (triN m n) <;> rfl
/-- the numbers of a round. -/
theorem quoN (M k : Nat) : (k : Int).tdiv ((M : Int) + 1) = ((k / (M + 1) : Nat) : Int) := rfl
theorem remN (M k : Nat) : (k : Int).tmod ((M : Int) + 1) = ((k % (M + 1) : Nat) : Int) := rfl

set_option maxRecDepth 100000 in
set_option maxHeartbeats 8000000 in
theorem Design_any (m : Int) (lim : List Int) (w : World) (hlim : lim.length = 7) (hw : Powers w) (hS : desE m lim = 0 → DesSmall m.toNat lim) :
    Calls Tryz.prog 26 #[.int .i64 m, .agg (ia lim)] w fun e w' => e = .returned (.tuple #[.agg (ia (triL (desR m lim).1)), .int .i64 (desR m lim).2]) ∧ Below w.heap.size w w' := by
  have TW := Lib.hid (fun W => withinH_any m 0 12 W)
  have TL := Lib.hid (fun W => checkLimits_any lim W hlim)
  have hmr : desE m lim = 0 → 0 ≤ m ∧ m ≤ 12 := fun h => by
    unfold desE firstE at h
    by_cases h1 : 0 ≤ m ∧ m ≤ 12
    · exact h1
    · exfalso
      have : withinE m 0 12 ≠ 0 := by simp [withinE]; omega
      simp [this] at h
  obtain ⟨r, hr⟩ : ∃ r, r = desR m lim := ⟨_, rfl⟩
  rw [← hr]
  have hr1 : desE m lim ≠ 0 → r = ((0, 0, 0), desE m lim) := fun h => by rw [hr, desR, if_pos h]
  have hr2 : desE m lim = 0 → tri0 (desS m.toNat lim ((m.toNat + 1) * (m.toNat + 1) * (m.toNat + 1))).1 = true → r = ((0, 0, 0), 18) := fun h h2 => by rw [hr, desR, if_neg (by omega), if_pos h2]
  have hr3 : desE m lim = 0 → tri0 (desS m.toNat lim ((m.toNat + 1) * (m.toNat + 1) * (m.toNat + 1))).1 = false → r = ((desS m.toNat lim ((m.toNat + 1) * (m.toNat + 1) * (m.toNat + 1))).1, 0) := fun h h2 => by rw [hr, desR, if_neg (by omega), if_neg (by rw [h2]; simp)]
  clear hr
  rw [desE] at hmr hS hr1 hr2 hr3
  generalize withinE m 0 12 = ew at TW hmr hS hr1 hr2 hr3
  generalize limE lim = el at TL hmr hS hr1 hr2 hr3
  obtain ⟨E, hE⟩ : ∃ E, E = firstE [ew, el] := ⟨_, rfl⟩
  rw [← hE] at hmr hS hr1 hr2 hr3
  have TF := Lib.hid (fun (u : Value) (W : World) (h : Ints W u [ew, el]) => firstH_any u [ew, el] W (by simp [maxLen]) h)
  rw [← hE] at TF
  clear hE
  have HS := Lib.hid hS
  have HR1 := Lib.hid hr1
  have HR2 := Lib.hid hr2
  have HR3 := Lib.hid hr3
  have HM := Lib.hid hmr
  clear hS hr1 hr2 hr3 hmr
  go_enter Tryz.func26, Tryz.ntmps26
  go_upto_region 1 with fail
  obtain ⟨W1, hW1⟩ : ∃ v, v = World.alloc w (Obj.cells (ia lim) 63) := ⟨_, rfl⟩
  have kW1 : Below w.heap.size w W1 := by rw [hW1]; exact below_new _ _
  have iW1 : BlkI W1 (w.heap.size) 63 lim := by rw [hW1]; exact BlkI.new _ _ _
  have sW1 : W1.heap.size = w.heap.size + 1 := by rw [hW1]; simp
  rw [← hW1]
  clear hW1
  obtain ⟨W2, hW2⟩ : ∃ v, v = World.alloc W1 (Obj.cells #[.int .i64 0, .int .i64 0, .int .i64 0] 65) := ⟨_, rfl⟩
  have kW2 : Below W1.heap.size W1 W2 := by rw [hW2]; exact below_new _ _
  have iW2 : BlkI W2 (w.heap.size + 1) 65 (List.replicate 3 0) := by rw [hW2, ← sW1]; exact BlkI.new W1 65 (List.replicate 3 0)
  have sW2 : W2.heap.size = w.heap.size + 1 + 1 := by rw [hW2]; simp [sW1]
  rw [← hW2]
  clear hW2
  have i3 := iW1.carry kW2
  have i4 := iW2
  have hB := bthen kW1 kW2
  have hz : W2.heap.size = w.heap.size + 2 := by omega
  clear kW1 kW2 sW1 sW2 iW1 iW2
  refine wp_region_E 6 (by kernel_rfl) ?_
  obtain ⟨wz, hwz⟩ : ∃ v, v = W2.drew := ⟨_, rfl⟩
  rw [← hwz]
  have hlz : Below W2.heap.size W2 wz := by rw [hwz]; exact (Below.refl _ _).drew
  have hbz := bthen hB hlz
  have i3 := i3.carry hlz
  have i4 := i4.carry hlz
  clear hwz hlz
  refine wpAnyE_take (i := 0) (oi := { dst := some 13, op := Op.move (Operand.tmp 0), type := 3, pos := "harmonic.go:312", after := #[], guard := none }) (v := ?_) rfl (by kernel_rfl) (by kernel_rfl) (by kernel_rfl) (by kernel_rfl) (fun _ _ _ h => h) (Or.inl ⟨by rfl, ?_⟩) ?_
  rotate_left
  · (intro w hE; (try dsimp only); go_simp); (try with_reducible rfl)
  try simp only [Act.put, List.setIfInBounds_toArray, List.set_cons_zero, List.set_cons_succ]
  refine wpAnyE_take (i := 2) (oi := { dst := some 15, op := Op.load 63 (Operand.tmp 3), type := 63, pos := "harmonic.go:312", after := #[], guard := none }) (v := ?_) rfl (by kernel_rfl) (by kernel_rfl) (by kernel_rfl) (by kernel_rfl) (fun _ _ _ h => h) (Or.inl ⟨by rfl, ?_⟩) ?_
  rotate_left
  · (intro w hE; (try dsimp only); refine (exec_load rfl (load7 hlim (i3.carry hE))).trans ?_); (try with_reducible rfl)
  try simp only [Act.put, List.setIfInBounds_toArray, List.set_cons_zero, List.set_cons_succ]
  refine wpAnyE_call (i := 1) (oi := { dst := some 14, op := Op.call { callee := Callee.value (Operand.func 54), args := #[Operand.tmp 13, Operand.const (Value.int IntKind.i64 0), Operand.const (Value.int IntKind.i64 12)], argTypes := #[3, 3, 3] }, type := 31, pos := "harmonic.go:312", after := #[{ on := 0, ground := Ground.data }], guard := none }) (fun w hE => ofPure (TW.out w)) rfl (by kernel_rfl) (by kernel_rfl) (by kernel_rfl) (by kernel_rfl) (fun _ _ _ h => h) (by rfl) (fun w hE => by (try dsimp only); go_simp) ?_
  try simp only [Act.put, List.setIfInBounds_toArray, List.set_cons_zero, List.set_cons_succ]
  refine wpAnyE_call (i := 3) (oi := { dst := some 16, op := Op.call { callee := Callee.value (Operand.func 65), args := #[Operand.tmp 15], argTypes := #[63] }, type := 31, pos := "harmonic.go:312", after := #[{ on := 2, ground := Ground.data }, { on := 1, ground := Ground.chain }], guard := none }) (fun w hE => TL.out w) rfl (by kernel_rfl) (by kernel_rfl) (by kernel_rfl) (by kernel_rfl) (fun _ _ _ h => h) (by rfl) (fun w hE => by (try dsimp only); go_simp) ?_
  try simp only [Act.put, List.setIfInBounds_toArray, List.set_cons_zero, List.set_cons_succ]
  refine wpAnyE_one (i := 4) (o := { dst := some 17, op := Op.buildSlice 90 2 #[(0, Operand.tmp 14), (1, Operand.tmp 16)], type := 90, pos := "harmonic.go:312", after := #[{ on := 1, ground := Ground.data }, { on := 3, ground := Ground.data }], guard := none }) (by kernel_rfl) rfl (fun wy1 hE K hK => ?_)
  have i3 := i3.carry hE
  have i4 := i4.carry hE
  have hbz1 := bthen hbz hE
  clear hE
  go_simp
  obtain ⟨wx1, hwz⟩ : ∃ v, v = wy1.alloc (Obj.cells #[.int .i64 ew, .int .i64 el] 31) := ⟨_, rfl⟩
  rw [← hwz]
  have hl : Below wy1.heap.size wy1 wx1 := by rw [hwz]; exact below_new _ _
  have hcz1 := bthen hbz1 hl
  have iN : BlkI wx1 wy1.heap.size 31 [ew, el] := by rw [hwz]; exact Blk.new _ _ _
  generalize wy1.heap.size = G at iN ⊢
  have i3 := i3.carry hl
  have i4 := i4.carry hl
  clear hwz
  refine hK _ _ (fun _ => hl) ?_
  clear hK K hl
  try simp only [Act.put, List.setIfInBounds_toArray, List.set_cons_zero, List.set_cons_succ]
  refine wpAnyE_call (i := 5) (oi := { dst := some 18, op := Op.call { callee := Callee.value (Operand.func 37), args := #[Operand.tmp 17], argTypes := #[90] }, type := 31, pos := "harmonic.go:312", after := #[{ on := 4, ground := Ground.data }, { on := 3, ground := Ground.chain }], guard := none }) (fun w hE => ofPure (TF.out _ w ((BlkI.ints iN rfl).carry hE))) rfl (by kernel_rfl) (by kernel_rfl) (by kernel_rfl) (by kernel_rfl) (fun _ _ _ h => h) (by rfl) (fun w hE => by (try dsimp only); go_simp) ?_
  try simp only [Act.put, List.setIfInBounds_toArray, List.set_cons_zero, List.set_cons_succ]
  refine wpAnyE_one (i := 6) (o := { dst := some 6, op := Op.assign (Operand.tmp 18), type := 31, pos := "harmonic.go:312", after := #[{ on := 5, ground := Ground.data }, { on := 5, ground := Ground.chain }, { on := 0, ground := Ground.phase }, { on := 1, ground := Ground.phase }, { on := 2, ground := Ground.phase }, { on := 3, ground := Ground.phase }, { on := 4, ground := Ground.phase }, { on := 5, ground := Ground.phase }], guard := none }) (by kernel_rfl) rfl (fun wy2 hE K hK => ?_)
  have i3 := i3.carry hE
  have i4 := i4.carry hE
  have hbz2 := bthen hcz1 hE
  go_simp
  refine hK _ _ (fun _ => Below.refl _ _) ?_
  clear hK K hE
  try simp only [Act.put, List.setIfInBounds_toArray, List.set_cons_zero, List.set_cons_succ]
  refine wpAnyE_done (by kernel_rfl) (fun wy3 hE => ?_) _
  have hbz3 := bthen hbz2 hE
  have i3 := i3.carry hE
  have i4 := i4.carry hE
  clear hE
  have hB := hbz3
  obtain ⟨W5, hW5⟩ : ∃ v, v = wy3 := ⟨_, rfl⟩
  rw [← hW5] at hB i3 i4 ⊢
  clear hW5
  by_cases he : E = 0
  · subst he
    obtain ⟨hm0, hm1⟩ := HM.out rfl
    obtain ⟨M, rfl⟩ : ∃ M : Nat, (M : Int) = m := ⟨m.toNat, by omega⟩
    have hSm := HS.out rfl
    have hR2 := HR2.out rfl
    have hR3 := HR3.out rfl
    clear HR1 HR2 HR3 HS HM TF TW TL hm0
    rw [Int.toNat_natCast] at hSm hR2 hR3
    unfold DesSmall at hSm
    have hNb : (M + 1) * (M + 1) ≤ 169 := Nat.mul_le_mul (show M + 1 ≤ 13 by omega) (show M + 1 ≤ 13 by omega)
    have hNc : (M + 1) * (M + 1) * (M + 1) ≤ 2197 := Nat.mul_le_mul hNb (show M + 1 ≤ 13 by omega)
    obtain ⟨D2, hD2⟩ : ∃ D2 : Int, D2 = ((M : Int) + 1) * ((M : Int) + 1) := ⟨_, rfl⟩
    have hD2' : D2 = (((M + 1) * (M + 1) : Nat) : Int) := by rw [hD2]; push_cast; rfl
    obtain ⟨N, hN⟩ : ∃ N : Nat, N = (M + 1) * (M + 1) * (M + 1) := ⟨_, rfl⟩
    have hNN : D2 * ((M : Int) + 1) = (N : Int) := by rw [hN, hD2]; push_cast; rfl
    rw [← hN] at hSm hR2 hR3 hNc
    have hQ : ∀ k : Nat, k < N → IntKind.i64.wrap ((k : Int).tdiv ((M : Int) + 1)) = ((k / (M + 1) : Nat) : Int) ∧ IntKind.i64.wrap (((k / (M + 1) : Nat) : Int).tdiv ((M : Int) + 1)) = ((k / (M + 1) / (M + 1) : Nat) : Int) := fun k hk => by
      rw [quoN, quoN]
      have h1 := Nat.div_le_self k (M + 1)
      have h2 := Nat.div_le_self (k / (M + 1)) (M + 1)
      generalize k / (M + 1) / (M + 1) = q2 at h1 h2 ⊢
      generalize k / (M + 1) = q1 at h1 h2 ⊢
      exact ⟨IntWalk.i64_in _ (by omega), IntWalk.i64_in _ (by omega)⟩
    obtain ⟨D, hD⟩ : ∃ D : Int, D = (M : Int) + 1 := ⟨_, rfl⟩
    have b0 : IntKind.i64.wrap ((M : Int) + 1) = D := by rw [hD]; exact IntWalk.i64_in _ (by omega)
    have b1 : IntKind.i64.wrap (D * D) = D2 := by rw [hD, ← hD2]; exact IntWalk.i64_in _ (by omega)
    have b2 : IntKind.i64.wrap (D2 * D) = (N : Int) := by rw [hD, hNN]; exact IntWalk.i64_in _ (by omega)
    have hDz : D ≠ 0 := by omega
    have HQ := Lib.hid hQ
    have HSm := Lib.hid hSm
    have HR2 := Lib.hid hR2
    have HR3 := Lib.hid hR3
    have HD := Lib.hid hD
    clear hQ hSm hR2 hR3 hD2 hD2' hNN hNb hD hN
    have hs5 : w.heap.size + 1 < W5.heap.size := Array.getElem?_eq_some_iff.1 i4 |>.1
    go_upto_region 6 with fail
    obtain ⟨W6, hW6⟩ : ∃ v, v = World.alloc W5 (Obj.cells #[.int .i64 0, .int .i64 0, .int .i64 0] 65) := ⟨_, rfl⟩
    have kW6 : Below W5.heap.size W5 W6 := by rw [hW6]; exact below_new _ _
    have iW6 : BlkI W6 (W5.heap.size) 65 (List.replicate 3 0) := by rw [hW6]; exact BlkI.new W5 65 (List.replicate 3 0)
    have sW6 : W6.heap.size = W5.heap.size + 1 := by rw [hW6]; simp
    rw [← hW6]
    clear hW6
    obtain ⟨W7, hW7⟩ : ∃ v, v = World.alloc W6 (Obj.cells #[.int .i64 0, .int .i64 0] 51) := ⟨_, rfl⟩
    have kW7 : Below W6.heap.size W6 W7 := by rw [hW7]; exact below_new _ _
    have iW7 : BlkI W7 (W5.heap.size + 1) 51 (List.replicate 2 0) := by rw [hW7, ← sW6]; exact BlkI.new W6 51 (List.replicate 2 0)
    have sW7 : W7.heap.size = W5.heap.size + 1 + 1 := by rw [hW7]; simp [sW6]
    rw [← hW7]
    clear hW7
    replace i3 := (i3.carry kW6).carry kW7
    replace i4 := (i4.carry kW6).carry kW7
    replace hB := (bthen (bthen hB kW6) kW7)
    have i7 : BlkI W7 W5.heap.size 65 (triL (desS M lim 0).1) := iW6.carry kW7
    have i8 : BlkI W7 (W5.heap.size + 1) 51 [(desS M lim 0).2.1, (desS M lim 0).2.2] := iW7
    have hs7 : W5.heap.size + 2 ≤ W7.heap.size := by omega
    obtain ⟨B7, hB7⟩ : ∃ B, B = W5.heap.size := ⟨_, rfl⟩
    rw [← hB7] at i7 i8 hs7 ⊢
    clear iW6 iW7 kW6 kW7 sW6 sW7
    have hb7 : w.heap.size + 2 ≤ B7 := by omega
    clear hs5 hB7
    go_wp2_with fail
    go_loopw [31] (fun i wr => ∃ k : Nat, k ≤ N ∧ i = .int .i64 k ∧ BlkI wr B7 65 (triL (desS M lim k).1) ∧ BlkI wr (B7 + 1) 51 [(desS M lim k).2.1, (desS M lim k).2.2] ∧ BlkI wr w.heap.size 63 lim ∧ BlkI wr (w.heap.size + 1) 65 (List.replicate 3 0) ∧ Below w.heap.size w wr ∧ B7 + 2 ≤ wr.heap.size) (fun i _ => N - (intOf i).toNat)
    case atStart => exact ⟨0, by omega, rfl, i7, i8, i3, i4, hB, hs7⟩
    case round =>
      clear i7 i8 i3 i4 hB hs7
      obtain ⟨k, hk, rfl, i7, i8, i3, i4, hB, hsr⟩ := hrel
      by_cases hlt : k < N
      · have d1 : (k : Int) < (N : Int) := by omega
        obtain ⟨q1, q2⟩ := HQ.out k hlt
        have q0 : IntKind.i64.wrap ((k : Int) / ((M : Int) + 1)) = ((k / (M + 1) : Nat) : Int) := q1
        rw [← HD.out] at q0 q1 q2
        have q3 : ((k / (M + 1) : Nat) : Int).tmod D = ((k / (M + 1) % (M + 1) : Nat) : Int) := by rw [HD.out]; exact remN M _
        have q4 : (k : Int).tmod D = ((k % (M + 1) : Nat) : Int) := by rw [HD.out]; exact remN M k
        have hT : triN M k = (((k / (M + 1) / (M + 1) : Nat) : Int), ((k / (M + 1) % (M + 1) : Nat) : Int), ((k % (M + 1) : Nat) : Int)) := rfl
        have hsm := HSm.out k hlt
        have hsu := desS_succ M lim k
        have hQl : (triQ (triN M k)).length = 12 := rfl
        generalize triN M k = T at hT hsm hsu hQl
        obtain ⟨A, B, C⟩ := T
        obtain ⟨rfl, hT2⟩ := Prod.mk.inj hT
        obtain ⟨rfl, rfl⟩ := Prod.mk.inj hT2
        clear hT hT2
        generalize ((k / (M + 1) / (M + 1) : Nat) : Int) = A at q2 hsm hsu hQl
        generalize ((k / (M + 1) % (M + 1) : Nat) : Int) = B at q3 hsm hsu hQl
        generalize ((k % (M + 1) : Nat) : Int) = C at q4 hsm hsu hQl
        generalize ((k / (M + 1) : Nat) : Int) = Q at q0 q1 q2 q3
        generalize desS M lim k = st at i7 i8 hsm hsu
        obtain ⟨bt, g0, g1⟩ := st
        have TQ := Lib.hid (fun W => quarterOf_any A B C W)
        have TO := Lib.hid (fun W hW => order_any (qOf A B C) 1 W rfl (by omega) hW)
        have TX := Lib.hid (fun W hW => excess_any (qOf A B C) lim W rfl hlim hW hsm.1)
        have hsg := hsm.2
        rw [desB, desG] at hsu
        simp only [triQ] at hsu hsg
        clear hsm hQl
        generalize orderC (qOf A B C) 1 = o at TO hsu hsg
        obtain ⟨o0, o1, o2, o3⟩ := o
        have TS := Lib.hid (fun W => strengthC_any o0 o1 o2 o3 W)
        simp only [stC, scR, cyV] at TO TS hsu hsg
        generalize st0 o0 o1 o2 o3 = s0 at TS hsu hsg
        generalize st1 o0 o1 o2 o3 = s1 at TS hsu hsg
        have TD := Lib.hid (fun W => scaledR_any s0 s1 1 g0 g1 1 W)
        have TG := Lib.hid (fun W => signR_any (wrap64 (wrap64 (1 * s0) - wrap64 (1 * g0))) (wrap64 (wrap64 (1 * s1) - wrap64 (1 * g1))) W hsg.1 hsg.2)
        clear hsg
        generalize wrap64 (wrap64 (1 * s0) - wrap64 (1 * g0)) = r0 at TD TG hsu
        generalize wrap64 (wrap64 (1 * s1) - wrap64 (1 * g1)) = r1 at TD TG hsu
        generalize sgnR r0 r1 = sg at TG hsu
        generalize excL (qOf A B C) lim = L at TX hsu
        obtain ⟨R, hR⟩ : ∃ R, R = desS M lim (k + 1) := ⟨_, rfl⟩
        rw [← hR] at hsu
        have HSU := Lib.hid hsu
        have HRE := Lib.hid hR
        clear hsu hR
        go_upto_region 9 with fail
        refine wp_region_E 20 (by kernel_rfl) ?_
        obtain ⟨wz, hwz⟩ : ∃ v, v = wr.drew := ⟨_, rfl⟩
        rw [← hwz]
        have hlz : Below wr.heap.size wr wz := by rw [hwz]; exact (Below.refl _ _).drew
        have hbz := bthen hB hlz
        have i7 := i7.carry hlz
        have i8 := i8.carry hlz
        have i3 := i3.carry hlz
        have i4 := i4.carry hlz
        clear hwz hlz
        refine wpAnyE_take (i := 0) (oi := { dst := some 34, op := Op.move (Operand.tmp 9), type := 3, pos := "harmonic.go:318", after := #[], guard := none }) (v := ?_) rfl (by kernel_rfl) (by kernel_rfl) (by kernel_rfl) (by kernel_rfl) (fun _ _ _ h => h) (Or.inl ⟨by rfl, ?_⟩) ?_
        rotate_left
        · (intro w hE; (try dsimp only); go_simp); (try with_reducible rfl)
        try simp only [Act.put, List.setIfInBounds_toArray, List.set_cons_zero, List.set_cons_succ]
        refine wpAnyE_take (i := 1) (oi := { dst := some 35, op := Op.move (Operand.tmp 0), type := 3, pos := "harmonic.go:318", after := #[], guard := none }) (v := ?_) rfl (by kernel_rfl) (by kernel_rfl) (by kernel_rfl) (by kernel_rfl) (fun _ _ _ h => h) (Or.inl ⟨by rfl, ?_⟩) ?_
        rotate_left
        · (intro w hE; (try dsimp only); go_simp); (try with_reducible rfl)
        try simp only [Act.put, List.setIfInBounds_toArray, List.set_cons_zero, List.set_cons_succ]
        refine wpAnyE_take (i := 2) (oi := { dst := some 36, op := Op.binOp BinOp.add 3 (Operand.tmp 35) (Operand.const (Value.int IntKind.i64 1)) 3, type := 3, pos := "harmonic.go:318", after := #[{ on := 1, ground := Ground.data }], guard := none }) (v := ?_) rfl (by kernel_rfl) (by kernel_rfl) (by kernel_rfl) (by kernel_rfl) (fun _ _ _ h => h) (Or.inl ⟨by rfl, ?_⟩) ?_
        rotate_left
        · (intro w hE; (try dsimp only); go_simp); (try with_reducible rfl)
        try simp only [Act.put, List.setIfInBounds_toArray, List.set_cons_zero, List.set_cons_succ]
        refine wpAnyE_take (i := 3) (oi := { dst := some 37, op := Op.binOp BinOp.quo 3 (Operand.tmp 34) (Operand.tmp 36) 3, type := 3, pos := "harmonic.go:318", after := #[{ on := 0, ground := Ground.data }, { on := 2, ground := Ground.data }], guard := none }) (v := ?_) rfl (by kernel_rfl) (by kernel_rfl) (by kernel_rfl) (by kernel_rfl) (fun _ _ _ h => h) (Or.inl ⟨by rfl, ?_⟩) ?_
        rotate_left
        · (intro w hE; (try dsimp only); go_simp); (try with_reducible rfl)
        try simp only [Act.put, List.setIfInBounds_toArray, List.set_cons_zero, List.set_cons_succ]
        refine wpAnyE_take (i := 4) (oi := { dst := some 38, op := Op.move (Operand.tmp 0), type := 3, pos := "harmonic.go:318", after := #[], guard := none }) (v := ?_) rfl (by kernel_rfl) (by kernel_rfl) (by kernel_rfl) (by kernel_rfl) (fun _ _ _ h => h) (Or.inl ⟨by rfl, ?_⟩) ?_
        rotate_left
        · (intro w hE; (try dsimp only); go_simp); (try with_reducible rfl)
        try simp only [Act.put, List.setIfInBounds_toArray, List.set_cons_zero, List.set_cons_succ]
        refine wpAnyE_take (i := 5) (oi := { dst := some 39, op := Op.binOp BinOp.add 3 (Operand.tmp 38) (Operand.const (Value.int IntKind.i64 1)) 3, type := 3, pos := "harmonic.go:318", after := #[{ on := 4, ground := Ground.data }], guard := none }) (v := ?_) rfl (by kernel_rfl) (by kernel_rfl) (by kernel_rfl) (by kernel_rfl) (fun _ _ _ h => h) (Or.inl ⟨by rfl, ?_⟩) ?_
        rotate_left
        · (intro w hE; (try dsimp only); go_simp); (try with_reducible rfl)
        try simp only [Act.put, List.setIfInBounds_toArray, List.set_cons_zero, List.set_cons_succ]
        refine wpAnyE_take (i := 6) (oi := { dst := some 40, op := Op.binOp BinOp.quo 3 (Operand.tmp 37) (Operand.tmp 39) 3, type := 3, pos := "harmonic.go:318", after := #[{ on := 3, ground := Ground.data }, { on := 5, ground := Ground.data }], guard := none }) (v := ?_) rfl (by kernel_rfl) (by kernel_rfl) (by kernel_rfl) (by kernel_rfl) (fun _ _ _ h => h) (Or.inl ⟨by rfl, ?_⟩) ?_
        rotate_left
        · (intro w hE; (try dsimp only); go_simp); (try with_reducible rfl)
        try simp only [Act.put, List.setIfInBounds_toArray, List.set_cons_zero, List.set_cons_succ]
        refine wpAnyE_take (i := 7) (oi := { dst := some 41, op := Op.move (Operand.tmp 9), type := 3, pos := "harmonic.go:318", after := #[], guard := none }) (v := ?_) rfl (by kernel_rfl) (by kernel_rfl) (by kernel_rfl) (by kernel_rfl) (fun _ _ _ h => h) (Or.inl ⟨by rfl, ?_⟩) ?_
        rotate_left
        · (intro w hE; (try dsimp only); go_simp); (try with_reducible rfl)
        try simp only [Act.put, List.setIfInBounds_toArray, List.set_cons_zero, List.set_cons_succ]
        refine wpAnyE_take (i := 8) (oi := { dst := some 42, op := Op.move (Operand.tmp 0), type := 3, pos := "harmonic.go:318", after := #[], guard := none }) (v := ?_) rfl (by kernel_rfl) (by kernel_rfl) (by kernel_rfl) (by kernel_rfl) (fun _ _ _ h => h) (Or.inl ⟨by rfl, ?_⟩) ?_
        rotate_left
        · (intro w hE; (try dsimp only); go_simp); (try with_reducible rfl)
        try simp only [Act.put, List.setIfInBounds_toArray, List.set_cons_zero, List.set_cons_succ]
        refine wpAnyE_take (i := 9) (oi := { dst := some 43, op := Op.binOp BinOp.add 3 (Operand.tmp 42) (Operand.const (Value.int IntKind.i64 1)) 3, type := 3, pos := "harmonic.go:318", after := #[{ on := 8, ground := Ground.data }], guard := none }) (v := ?_) rfl (by kernel_rfl) (by kernel_rfl) (by kernel_rfl) (by kernel_rfl) (fun _ _ _ h => h) (Or.inl ⟨by rfl, ?_⟩) ?_
        rotate_left
        · (intro w hE; (try dsimp only); go_simp); (try with_reducible rfl)
        try simp only [Act.put, List.setIfInBounds_toArray, List.set_cons_zero, List.set_cons_succ]
        refine wpAnyE_take (i := 10) (oi := { dst := some 44, op := Op.binOp BinOp.quo 3 (Operand.tmp 41) (Operand.tmp 43) 3, type := 3, pos := "harmonic.go:318", after := #[{ on := 7, ground := Ground.data }, { on := 9, ground := Ground.data }], guard := none }) (v := ?_) rfl (by kernel_rfl) (by kernel_rfl) (by kernel_rfl) (by kernel_rfl) (fun _ _ _ h => h) (Or.inl ⟨by rfl, ?_⟩) ?_
        rotate_left
        · (intro w hE; (try dsimp only); go_simp); (try with_reducible rfl)
        try simp only [Act.put, List.setIfInBounds_toArray, List.set_cons_zero, List.set_cons_succ]
        refine wpAnyE_take (i := 11) (oi := { dst := some 45, op := Op.move (Operand.tmp 0), type := 3, pos := "harmonic.go:318", after := #[], guard := none }) (v := ?_) rfl (by kernel_rfl) (by kernel_rfl) (by kernel_rfl) (by kernel_rfl) (fun _ _ _ h => h) (Or.inl ⟨by rfl, ?_⟩) ?_
        rotate_left
        · (intro w hE; (try dsimp only); go_simp); (try with_reducible rfl)
        try simp only [Act.put, List.setIfInBounds_toArray, List.set_cons_zero, List.set_cons_succ]
        refine wpAnyE_take (i := 12) (oi := { dst := some 46, op := Op.binOp BinOp.add 3 (Operand.tmp 45) (Operand.const (Value.int IntKind.i64 1)) 3, type := 3, pos := "harmonic.go:318", after := #[{ on := 11, ground := Ground.data }], guard := none }) (v := ?_) rfl (by kernel_rfl) (by kernel_rfl) (by kernel_rfl) (by kernel_rfl) (fun _ _ _ h => h) (Or.inl ⟨by rfl, ?_⟩) ?_
        rotate_left
        · (intro w hE; (try dsimp only); go_simp); (try with_reducible rfl)
        try simp only [Act.put, List.setIfInBounds_toArray, List.set_cons_zero, List.set_cons_succ]
        refine wpAnyE_take (i := 13) (oi := { dst := some 47, op := Op.binOp BinOp.rem 3 (Operand.tmp 44) (Operand.tmp 46) 3, type := 3, pos := "harmonic.go:318", after := #[{ on := 10, ground := Ground.data }, { on := 12, ground := Ground.data }], guard := none }) (v := ?_) rfl (by kernel_rfl) (by kernel_rfl) (by kernel_rfl) (by kernel_rfl) (fun _ _ _ h => h) (Or.inl ⟨by rfl, ?_⟩) ?_
        rotate_left
        · (intro w hE; (try dsimp only); go_simp); (try with_reducible rfl)
        try simp only [Act.put, List.setIfInBounds_toArray, List.set_cons_zero, List.set_cons_succ]
        refine wpAnyE_take (i := 14) (oi := { dst := some 48, op := Op.move (Operand.tmp 9), type := 3, pos := "harmonic.go:318", after := #[], guard := none }) (v := ?_) rfl (by kernel_rfl) (by kernel_rfl) (by kernel_rfl) (by kernel_rfl) (fun _ _ _ h => h) (Or.inl ⟨by rfl, ?_⟩) ?_
        rotate_left
        · (intro w hE; (try dsimp only); go_simp); (try with_reducible rfl)
        try simp only [Act.put, List.setIfInBounds_toArray, List.set_cons_zero, List.set_cons_succ]
        refine wpAnyE_take (i := 15) (oi := { dst := some 49, op := Op.move (Operand.tmp 0), type := 3, pos := "harmonic.go:318", after := #[], guard := none }) (v := ?_) rfl (by kernel_rfl) (by kernel_rfl) (by kernel_rfl) (by kernel_rfl) (fun _ _ _ h => h) (Or.inl ⟨by rfl, ?_⟩) ?_
        rotate_left
        · (intro w hE; (try dsimp only); go_simp); (try with_reducible rfl)
        try simp only [Act.put, List.setIfInBounds_toArray, List.set_cons_zero, List.set_cons_succ]
        refine wpAnyE_take (i := 16) (oi := { dst := some 50, op := Op.binOp BinOp.add 3 (Operand.tmp 49) (Operand.const (Value.int IntKind.i64 1)) 3, type := 3, pos := "harmonic.go:318", after := #[{ on := 15, ground := Ground.data }], guard := none }) (v := ?_) rfl (by kernel_rfl) (by kernel_rfl) (by kernel_rfl) (by kernel_rfl) (fun _ _ _ h => h) (Or.inl ⟨by rfl, ?_⟩) ?_
        rotate_left
        · (intro w hE; (try dsimp only); go_simp); (try with_reducible rfl)
        try simp only [Act.put, List.setIfInBounds_toArray, List.set_cons_zero, List.set_cons_succ]
        refine wpAnyE_take (i := 17) (oi := { dst := some 51, op := Op.binOp BinOp.rem 3 (Operand.tmp 48) (Operand.tmp 50) 3, type := 3, pos := "harmonic.go:318", after := #[{ on := 14, ground := Ground.data }, { on := 16, ground := Ground.data }], guard := none }) (v := ?_) rfl (by kernel_rfl) (by kernel_rfl) (by kernel_rfl) (by kernel_rfl) (fun _ _ _ h => h) (Or.inl ⟨by rfl, ?_⟩) ?_
        rotate_left
        · (intro w hE; (try dsimp only); go_simp); (try with_reducible rfl)
        try simp only [Act.put, List.setIfInBounds_toArray, List.set_cons_zero, List.set_cons_succ]
        refine wpAnyE_take (i := 18) (oi := { dst := some 52, op := Op.build 65 #[(0, Operand.tmp 40), (1, Operand.tmp 47), (2, Operand.tmp 51)], type := 65, pos := "harmonic.go:318", after := #[{ on := 6, ground := Ground.data }, { on := 13, ground := Ground.data }, { on := 17, ground := Ground.data }], guard := none }) (v := ?_) rfl (by kernel_rfl) (by kernel_rfl) (by kernel_rfl) (by kernel_rfl) (fun _ _ _ h => h) (Or.inl ⟨by rfl, ?_⟩) ?_
        rotate_left
        · (intro w hE; (try dsimp only); go_simp); (try with_reducible rfl)
        try simp only [Act.put, List.setIfInBounds_toArray, List.set_cons_zero, List.set_cons_succ]
        refine wpAnyE_one (i := 19) (o := { dst := some 10, op := Op.alloc 65, type := 0, pos := "harmonic.go:318", after := #[], guard := none }) (by kernel_rfl) rfl (fun wy1 hE K hK => ?_)
        have i7 := i7.carry hE
        have i8 := i8.carry hE
        have i3 := i3.carry hE
        have i4 := i4.carry hE
        have hbz1 := bthen hbz hE
        clear hE
        go_simp
        obtain ⟨wx1, hwz⟩ : ∃ v, v = wy1.alloc (Obj.cells #[.int .i64 0, .int .i64 0, .int .i64 0] 65) := ⟨_, rfl⟩
        rw [← hwz]
        have hl : Below wy1.heap.size wy1 wx1 := by rw [hwz]; exact below_new _ _
        have hcz1 := bthen hbz1 hl
        have iN : BlkI wx1 wy1.heap.size 65 [0, 0, 0] := by rw [hwz]; exact Blk.new _ _ _
        have hbN : B7 + 2 ≤ wy1.heap.size := Blk.lt i8
        generalize wy1.heap.size = G at iN hbN ⊢
        have i7 := i7.carry hl
        have i8 := i8.carry hl
        have i3 := i3.carry hl
        have i4 := i4.carry hl
        clear hwz
        refine hK _ _ (fun _ => hl) ?_
        clear hK K hl
        try simp only [Act.put, List.setIfInBounds_toArray, List.set_cons_zero, List.set_cons_succ]
        refine wpAnyE_one (i := 20) (o := { dst := none, op := Op.store 65 (Operand.tmp 10) (Operand.tmp 52), type := 0, pos := "harmonic.go:318", after := #[{ on := 19, ground := Ground.data }, { on := 18, ground := Ground.data }, { on := 0, ground := Ground.phase }, { on := 1, ground := Ground.phase }, { on := 2, ground := Ground.phase }, { on := 3, ground := Ground.phase }, { on := 4, ground := Ground.phase }, { on := 5, ground := Ground.phase }, { on := 6, ground := Ground.phase }, { on := 7, ground := Ground.phase }, { on := 8, ground := Ground.phase }, { on := 9, ground := Ground.phase }, { on := 10, ground := Ground.phase }, { on := 11, ground := Ground.phase }, { on := 12, ground := Ground.phase }, { on := 13, ground := Ground.phase }, { on := 14, ground := Ground.phase }, { on := 15, ground := Ground.phase }, { on := 16, ground := Ground.phase }, { on := 17, ground := Ground.phase }, { on := 18, ground := Ground.phase }, { on := 19, ground := Ground.phase }], guard := none }) (by kernel_rfl) rfl (fun wy2 hE K hK => ?_)
        have i7 := i7.carry hE
        have i8 := i8.carry hE
        have i3 := i3.carry hE
        have i4 := i4.carry hE
        have iN := iN.carry hE
        have hbz2 := bthen hcz1 hE
        clear hE
        rw [if_pos (by rfl)]
        refine wp_storeA _ _ _ rfl G [A, B, C] [0, 0, 0] rfl rfl iN rfl Tryz.infoA3 ?_
        obtain ⟨wx2, hwz⟩ : ∃ v, v = World.setRow wy2 G (ia [A, B, C]) := ⟨_, rfl⟩
        rw [← hwz]
        have hcz2 : Below w.heap.size w wx2 := by rw [hwz]; exact below_rowA hbz2 (by omega) _
        replace iN := BlkI.setRowA iN [A, B, C]
        rw [← hwz] at iN
        replace i7 := BlkI.setRowO i7 (B' := G) (by omega) (ia [A, B, C])
        rw [← hwz] at i7
        replace i8 := BlkI.setRowO i8 (B' := G) (by omega) (ia [A, B, C])
        rw [← hwz] at i8
        replace i3 := BlkI.setRowO i3 (B' := G) (by omega) (ia [A, B, C])
        rw [← hwz] at i3
        replace i4 := BlkI.setRowO i4 (B' := G) (by omega) (ia [A, B, C])
        rw [← hwz] at i4
        clear hwz
        refine hK _ _ (fun h => absurd rfl h) ?_
        clear hK K
        try simp only [Act.put, List.setIfInBounds_toArray, List.set_cons_zero, List.set_cons_succ]
        refine wpAnyE_done (by kernel_rfl) (fun wy3 hE => ?_) _
        have hbz3 := bthen hcz2 hE
        have i7 := i7.carry hE
        have i8 := i8.carry hE
        have i3 := i3.carry hE
        have i4 := i4.carry hE
        have iN := iN.carry hE
        clear hE
        have hB := hbz3
        obtain ⟨W9, hW9⟩ : ∃ v, v = wy3 := ⟨_, rfl⟩
        rw [← hW9] at hB i7 i8 i3 i4 iN ⊢
        clear hW9
        have iL := iN
        clear iN
        have hsG : B7 + 2 ≤ G ∧ G < W9.heap.size := ⟨hbN, Array.getElem?_eq_some_iff.1 iL |>.1⟩
        have hld := load3 (l := [A, B, C]) rfl iL
        go_wp2_with (refine wpList_load rfl _ _ rfl hld ?_)
        clear hld
        refine (TQ.out W9).mono ?_
        rintro e Wa ⟨rfl, hb⟩
        replace i7 := i7.carry hb
        replace i8 := i8.carry hb
        replace i3 := i3.carry hb
        replace i4 := i4.carry hb
        replace iL := iL.carry hb
        replace hB := bthen hB hb
        have hsa := hb.size
        clear hb
        clear hsa
        go_upto_region 11 with (refine wpList_storeA rfl _ _ _ rfl Wa.heap.size (qOf A B C) (List.replicate 12 0) rfl rfl (BlkI.new Wa 30 (List.replicate 12 0)) rfl Tryz.infoA12 ?_)
        obtain ⟨Wc, hWc⟩ : ∃ v, v = World.setRow (World.alloc Wa (Obj.cells #[.int .i64 0, .int .i64 0, .int .i64 0, .int .i64 0, .int .i64 0, .int .i64 0, .int .i64 0, .int .i64 0, .int .i64 0, .int .i64 0, .int .i64 0, .int .i64 0] 30)) Wa.heap.size (ia (qOf A B C)) := ⟨_, rfl⟩
        have kWc : Below Wa.heap.size Wa Wc := by rw [hWc]; exact zrow_below _ _ _ _
        have iWc : BlkI Wc Wa.heap.size 30 (qOf A B C) := by rw [hWc]; exact zrow_blk Wa _ (List.replicate 12 0) _
        rw [← hWc]
        clear hWc
        replace i7 := i7.carry kWc
        replace i8 := i8.carry kWc
        replace i3 := i3.carry kWc
        replace i4 := i4.carry kWc
        replace iL := iL.carry kWc
        have iP := iWc
        replace hB := bthen hB kWc
        generalize Wa.heap.size = P at iP ⊢
        clear kWc iWc
        have hld := load12 (l := qOf A B C) rfl iP
        go_wp2_with (refine wpList_load rfl _ _ rfl hld ?_)
        clear hld
        refine (TO.out Wc (hw.carry hB)).mono ?_
        rintro e Wd ⟨rfl, hb⟩
        have hbo := hb
        go_wp2_with fail
        refine (TS.out Wd).mono ?_
        rintro e We ⟨rfl, hb2⟩
        replace hbo := bthen hbo hb2
        clear hb hb2
        go_upto_region 12 with (refine wpList_storeA rfl _ _ _ rfl We.heap.size [s0, s1] (List.replicate 2 0) rfl rfl (BlkI.new We 51 (List.replicate 2 0)) rfl Tryz.infoRoot ?_)
        have hGX : G < We.heap.size := Nat.lt_of_lt_of_le (Blk.lt iL) hbo.size
        obtain ⟨Wg, hWg⟩ : ∃ v, v = World.setRow (World.alloc We (Obj.cells #[.int .i64 0, .int .i64 0] 51)) We.heap.size (ia ([s0, s1])) := ⟨_, rfl⟩
        have kWg : Below We.heap.size We Wg := by rw [hWg]; exact zrow_below _ _ _ _
        have iWg : BlkI Wg We.heap.size 51 ([s0, s1]) := by rw [hWg]; exact zrow_blk We _ (List.replicate 2 0) _
        rw [← hWg]
        clear hWg
        replace hbo := bthen hbo kWg
        replace i7 := i7.carry hbo
        replace i8 := i8.carry hbo
        replace i3 := i3.carry hbo
        replace i4 := i4.carry hbo
        replace iL := iL.carry hbo
        replace iP := iP.carry hbo
        have iX := iWg
        replace hB := bthen hB hbo
        generalize We.heap.size = X at iX hGX ⊢
        clear kWg hbo iWg
        have e0 : Wg.cell? ⟨X, 0, none⟩ = some (.int .i64 s0) := BlkI.cell iX (j := 0) (by simp)
        have e1 : Wg.cell? ⟨X, 1, none⟩ = some (.int .i64 s1) := BlkI.cell iX (j := 1) (by simp)
        have e2 : Wg.cell? ⟨B7 + 1, 0, none⟩ = some (.int .i64 g0) := BlkI.cell i8 (j := 0) (by simp)
        have e3 : Wg.cell? ⟨B7 + 1, 1, none⟩ = some (.int .i64 g1) := BlkI.cell i8 (j := 1) (by simp)
        go_wp2_with fail
        clear e0 e1 e2 e3
        refine (TD.out Wg).mono ?_
        rintro e Wh ⟨rfl, hb⟩
        have hbo := hb
        go_wp2_with fail
        refine (TG.out Wh).mono ?_
        rintro e Wi ⟨rfl, hb2⟩
        replace hbo := bthen hbo hb2
        clear hb hb2
        replace i7 := i7.carry hbo
        replace i8 := i8.carry hbo
        replace i3 := i3.carry hbo
        replace i4 := i4.carry hbo
        replace iL := iL.carry hbo
        replace iP := iP.carry hbo
        replace iX := iX.carry hbo
        replace hB := bthen hB hbo
        clear hbo
        have hSz : X < Wi.heap.size := Blk.lt iX
        by_cases hp : 0 < sg
        · have hld := load12 (l := qOf A B C) rfl iP
          have hld2 := load7 hlim i3
          go_wp2_with (first | refine wpList_loadG (by rfl) _ _ rfl hld ?_ | refine wpList_loadG (by rfl) _ _ rfl hld2 ?_)
          clear hld hld2
          refine (TX.out Wi (hw.carry hB)).mono ?_
          rintro e Wj ⟨⟨u, rfl, hu⟩, hb⟩
          replace i7 := i7.carry hb
          replace i8 := i8.carry hb
          replace i3 := i3.carry hb
          replace i4 := i4.carry hb
          replace iL := iL.carry hb
          replace iX := iX.carry hb
          replace hB := bthen hB hb
          have hSj : X < Wj.heap.size := Blk.lt iX
          clear hb iP
          obtain ⟨ua, uc, rfl, _⟩ := hu
          have hyp : posB sg = true := by simpa [posB] using hp
          by_cases hL : L.length = 0
          · have hsn : R = ((A, B, C), (s0, s1)) := by rw [HSU.out, hyp, hL]; rfl
            have HSN := Lib.hid hsn
            clear hsn
            have hL0 : ((L.length : Nat) : Int) = 0 := by omega
            go_upto_region 13 with fail
            have hlG : G < Wj.heap.size := Blk.lt iL
            refine wp_region_held_drew (S := (fun W => BlkI W G 65 [A, B, C] ∧ BlkI W X 51 [s0, s1])) (by kernel_rfl) ⟨iL, iX⟩ (fun hHeld0 => ?_)
            obtain ⟨wzd, hwz⟩ : ∃ v, v = Wj.drew := ⟨_, rfl⟩
            rw [← hwz] at hHeld0 ⊢
            have hbzd : Below w.heap.size w wzd := by rw [hwz]; exact hB.drew
            have hlzd : Below Wj.heap.size Wj wzd := by rw [hwz]; exact (Below.refl _ _).drew
            have i7 := i7.carry hlzd
            have i8 := i8.carry hlzd
            have i3 := i3.carry hlzd
            have i4 := i4.carry hlzd
            have iL := iL.carry hlzd
            have iX := iX.carry hlzd
            clear hwz hlzd
            refine wpAnyH_take (i := 0) (oi := { dst := some 70, op := Op.load 65 (Operand.tmp 10), type := 65, pos := "harmonic.go:322", after := #[], guard := none }) (v := ?_) rfl (by kernel_rfl) (by kernel_rfl) (by kernel_rfl) (fun _ _ _ h => h) (Or.inl ⟨by rfl, ?_⟩) (by assumption) ?_
            rotate_left
            · (intro w hSw; (try dsimp only at hSw); refine (exec_load rfl (load3 (l := [A, B, C]) rfl hSw.1)).trans ?_; rfl); (try with_reducible rfl)
            try simp only [Act.put, List.setIfInBounds_toArray, List.set_cons_zero, List.set_cons_succ]
            refine wpAnyH_take (i := 1) (oi := { dst := some 71, op := Op.load 51 (Operand.tmp 12), type := 51, pos := "harmonic.go:322", after := #[{ on := 2, ground := Ground.gcOnly Departure.lateStores }], guard := none }) (v := ?_) rfl (by kernel_rfl) (by kernel_rfl) (by kernel_rfl) (fun _ _ _ h => h) (Or.inl ⟨by rfl, ?_⟩) (by assumption) ?_
            rotate_left
            · (intro w hSw; (try dsimp only at hSw); have x0 : w.cell? ⟨X, 0, none⟩ = some (.int .i64 s0) := BlkI.cell hSw.2 (j := 0) (by simp); have x1 : w.cell? ⟨X, 1, none⟩ = some (.int .i64 s1) := BlkI.cell hSw.2 (j := 1) (by simp); clear hSw; go_simp); (try with_reducible rfl)
            try simp only [Act.put, List.setIfInBounds_toArray, List.set_cons_zero, List.set_cons_succ]
            refine wpAnyH_ready (rs := [2]) (by kernel_rfl) (by simp) ?_
            refine (AllReadyH.cons (o := { dst := none, op := Op.store 65 (Operand.tmp 7) (Operand.tmp 70), type := 0, pos := "harmonic.go:322", after := #[{ on := 0, ground := Ground.data }, { on := 0, ground := Ground.phase }, { on := 1, ground := Ground.textOnly Departure.lateStores }], guard := none }) rfl (fun K hK => ?_) AllReadyH.nil)
            refine wp_storeA _ _ _ rfl B7 [A, B, C] (triL bt) rfl rfl i7 rfl Tryz.infoA3 ?_
            obtain ⟨wz2, hwz⟩ : ∃ v, v = World.setRow wzd B7 (ia [A, B, C]) := ⟨_, rfl⟩
            rw [← hwz]
            have hbz2 : Below w.heap.size w wz2 := by rw [hwz]; exact below_rowA hbzd (by omega) _
            replace i7 := BlkI.setRowA i7 [A, B, C]
            rw [← hwz] at i7
            replace i8 := BlkI.setRowO i8 (B' := B7) (by omega) (ia [A, B, C])
            rw [← hwz] at i8
            replace i3 := BlkI.setRowO i3 (B' := B7) (by omega) (ia [A, B, C])
            rw [← hwz] at i3
            replace i4 := BlkI.setRowO i4 (B' := B7) (by omega) (ia [A, B, C])
            rw [← hwz] at i4
            replace iL := BlkI.setRowO iL (B' := B7) (by omega) (ia [A, B, C])
            rw [← hwz] at iL
            replace iX := BlkI.setRowO iX (B' := B7) (by omega) (ia [A, B, C])
            rw [← hwz] at iX
            clear hwz
            refine hK.out _ _ ⟨iL, iX⟩ (fun hHeld1 => ?_)
            clear hK K hHeld0
            try simp only [Act.put, List.setIfInBounds_toArray, List.set_cons_zero, List.set_cons_succ]
            refine wpAnyH_ready (rs := [3]) (by kernel_rfl) (by simp) ?_
            refine (AllReadyH.cons (o := { dst := none, op := Op.store 51 (Operand.tmp 8) (Operand.tmp 71), type := 0, pos := "harmonic.go:322", after := #[{ on := 1, ground := Ground.data }, { on := 2, ground := Ground.chain }, { on := 0, ground := Ground.phase }, { on := 1, ground := Ground.phase }, { on := 2, ground := Ground.phase }], guard := none }) rfl (fun K hK => ?_) AllReadyH.nil)
            refine wp_storeA _ _ _ rfl (B7 + 1) [s0, s1] [g0, g1] rfl rfl i8 rfl Tryz.infoRoot ?_
            obtain ⟨wz3, hwz⟩ : ∃ v, v = World.setRow wz2 (B7 + 1) (ia [s0, s1]) := ⟨_, rfl⟩
            rw [← hwz]
            have hbz3 : Below w.heap.size w wz3 := by rw [hwz]; exact below_rowA hbz2 (by omega) _
            replace i8 := BlkI.setRowA i8 [s0, s1]
            rw [← hwz] at i8
            replace i7 := BlkI.setRowO i7 (B' := (B7 + 1)) (by omega) (ia [s0, s1])
            rw [← hwz] at i7
            replace i3 := BlkI.setRowO i3 (B' := (B7 + 1)) (by omega) (ia [s0, s1])
            rw [← hwz] at i3
            replace i4 := BlkI.setRowO i4 (B' := (B7 + 1)) (by omega) (ia [s0, s1])
            rw [← hwz] at i4
            replace iL := BlkI.setRowO iL (B' := (B7 + 1)) (by omega) (ia [s0, s1])
            rw [← hwz] at iL
            replace iX := BlkI.setRowO iX (B' := (B7 + 1)) (by omega) (ia [s0, s1])
            rw [← hwz] at iX
            clear hwz
            refine hK.out _ _ ⟨iL, iX⟩ (fun hHeld2 => ?_)
            clear hK K hHeld1
            try simp only [Act.put, List.setIfInBounds_toArray, List.set_cons_zero, List.set_cons_succ]
            refine wpAnyH_done (by kernel_rfl) ?_ _
            clear hHeld2
            have hB := hbz3
            obtain ⟨Wk, hWk⟩ : ∃ v, v = wz3 := ⟨_, rfl⟩
            rw [← hWk] at hB i7 i8 i3 i4 iL iX ⊢
            clear hWk
            go_wp2
            go_roundw
            case rel =>
              refine ⟨k + 1, by omega, by go_num, ?_, ?_, i3, i4, hB, by have := Blk.lt iL; omega⟩
              · rw [← HRE.out, HSN.out]; exact i7
              · rw [← HRE.out, HSN.out]; exact i8
            case measure => simp [intOf]; omega
          · have hsn : R = (bt, g0, g1) := by
              rw [HSU.out, hyp]
              have : (L.length == 0) = false := by simpa using hL
              rw [this]; rfl
            have HSN := Lib.hid hsn
            clear hsn
            have hL0 : ¬ ((L.length : Nat) : Int) = 0 := by omega
            go_wp2
            go_roundw
            case rel =>
              refine ⟨k + 1, by omega, by go_num, ?_, ?_, i3, i4, hB, by have := Blk.lt iL; omega⟩
              · rw [← HRE.out, HSN.out]; exact i7
              · rw [← HRE.out, HSN.out]; exact i8
            case measure => simp [intOf]; omega
        · have hnp : posB sg = false := by simpa [posB] using hp
          have hsn : R = (bt, g0, g1) := by rw [HSU.out, hnp]; rfl
          have HSN := Lib.hid hsn
          clear hsn
          go_wp2
          go_roundw
          case rel =>
            refine ⟨k + 1, by omega, by go_num, ?_, ?_, i3, i4, hB, by have := Blk.lt iL; omega⟩
            · rw [← HRE.out, HSN.out]; exact i7
            · rw [← HRE.out, HSN.out]; exact i8
          case measure => simp [intOf]; omega
      · obtain rfl : k = N := by omega
        have hR2 := HR2.out
        have hR3 := HR3.out
        have hq : ∀ W, Sem.run Tryz.prog (binOp .eql 65 (.agg (ia (triL (desS M lim k).1))) (.agg #[.int .i64 0, .int .i64 0, .int .i64 0])) W = .ok (.bool (tri0 (desS M lim k).1)) W := fun W => by
          rw [← tri0_eq]; exact eqInts 65 3 Tryz.undA3 _ [0, 0, 0] rfl rfl W
        generalize desS M lim k = st at i7 i8 hR2 hR3 hq
        obtain ⟨bt, g0, g1⟩ := st
        simp only at hR2 hR3 hq i7
        have hld := load3 (l := triL bt) rfl i7
        clear HR2 HR3 HQ HSm HD
        by_cases hb : tri0 bt = true
        · have hre := hR2 hb
          rw [hb] at hq
          clear hR2 hR3 hb
          go_upto_region 16 with (refine wpList_load rfl _ _ rfl hld ?_)
          go_wp2_with (refine wpList_storeA rfl _ _ _ rfl (w.heap.size + 1) [0, 0, 0] (List.replicate 3 0) rfl rfl i4 rfl Tryz.infoA3 ?_)
          have i9 := BlkI.setRowA i4 [0, 0, 0]
          have hld := Tryz.loadVar3 (l := [0, 0, 0]) rfl i9
          exact bodyPost_ret (v := .tuple #[.agg (ia [0, 0, 0]), .int .i64 18]) (results_cell_tmp (p := 4) (q := 5) rfl _ _ (w.heap.size + 1) _ rfl _ rfl hld) rfl ⟨rfl, below_rowA hB (by omega) _⟩
        · have hb' : tri0 bt = false := by simpa using hb
          have hre := hR3 hb'
          rw [hb'] at hq
          clear hR2 hR3 hb hb'
          go_upto_region 17 with (refine wpList_load rfl _ _ rfl hld ?_)
          go_wp2_with (first | refine wpList_load rfl _ _ rfl hld ?_ | refine wpList_storeA rfl _ _ _ rfl (w.heap.size + 1) (triL bt) (List.replicate 3 0) rfl rfl i4 rfl Tryz.infoA3 ?_)
          have i9 := BlkI.setRowA i4 (triL bt)
          have hld := Tryz.loadVar3 (l := triL bt) rfl i9
          exact bodyPost_ret (v := .tuple #[.agg (ia (triL bt)), .int .i64 0]) (results_cell_tmp (p := 4) (q := 5) rfl _ _ (w.heap.size + 1) _ rfl _ rfl hld) rfl ⟨rfl, below_rowA hB (by omega) _⟩
  · have z : (E == 0) = false := by rw [beq_eq_false_iff_ne]; exact he
    have hre := HR1.out he
    have HNE := Lib.hid he
    have hs4 : w.heap.size + 1 < W5.heap.size := Blk.lt i4
    clear HR1 HR2 HR3 HS HM TF TW TL
    go_upto_region 3 with fail
    go_wp2_with (refine wpList_storeA rfl _ _ _ rfl (w.heap.size + 1) [0, 0, 0] (List.replicate 3 0) rfl rfl i4 rfl Tryz.infoA3 ?_)
    have i9 := BlkI.setRowA i4 [0, 0, 0]
    have hld := Tryz.loadVar3 (l := [0, 0, 0]) rfl i9
    exact bodyPost_ret (v := .tuple #[.agg (ia [0, 0, 0]), .int .i64 E]) (results_cell_tmp (p := 4) (q := 5) rfl _ _ (w.heap.size + 1) _ rfl _ rfl hld) rfl ⟨by rw [hre]; rfl, below_rowA hB (by omega) _⟩
end Go.Proofs.YtfeajpkjjlddlaaGreatDoor

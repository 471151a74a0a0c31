/- The package harmonic: eliminated orders, orders in excess. -/
import Derived.Test.YtfeajpkjjlddlaaGreatDoorHarH
namespace Go.Proofs.YtfeajpkjjlddlaaGreatDoor
set_option linter.unusedSimpArgs false
set_option linter.unusedVariables false
open Go.RowKit

theorem Tryz.enterEliminated1 (args : Array Value) (w : World) : Sem.run Tryz.prog (callFunc 64 args) w = .ok (.enter 64 args) w :=
  MuLone.run_callFunc_enter Tryz.func64 (by kernel_rfl) rfl args w
def cyIs0 (x : Int × Int × Int × Int) : Bool := x.1 == 0 && x.2.1 == 0 && x.2.2.1 == 0 && x.2.2.2 == 0
set_option maxRecDepth 100000 in
set_option maxHeartbeats 1000000 in
theorem eliminated1_any (l : List Int) (h : Int) (B : Nat) (w : World) (hl : l.length = 12) (hh : 0 ≤ h ∧ h ≤ 1000) (hw : Powers w) (hp : BlkI w B 30 l) :
    Calls Tryz.prog 64 #[.int .i64 h, .pointer (some ⟨B, 0, none⟩)] w fun e w' => e = .returned (.bool (cyIs0 (orderC l h))) ∧ Below w.heap.size w w' := by
  have TO := Lib.hid (order_any l h w hl (by omega) hw)
  obtain ⟨⟨o0, o1, o2, o3⟩, hO⟩ : ∃ O, O = orderC l h := ⟨_, rfl⟩
  rw [← hO] at TO ⊢
  simp only [cyV] at TO
  clear hO
  have hld := load12 hl hp
  go_enter Tryz.func64, Tryz.ntmps64
  go_wp2_with (refine wpList_load rfl _ _ rfl hld ?_)
  refine TO.out.mono ?_
  rintro e w2 ⟨rfl, hb2⟩
  clear hld
  go_wp2_with fail
  all_goals
    go_ret
    exact ⟨by simp_all [cyIs0], hb2⟩

theorem exec_load {P : Program} {ρ : Operand → Value} {o : Oper} {t : TypeId} {x : Operand} {v : Value} {w : World} (hop : o.op = Op.load t x) (h : (Instr.loadAt t (ρ x)).run P w = .ok v w) : (execOp ρ o).run P w = .ok (.value v) w := by
  unfold execOp
  simp only [hop, h, Sem.run_bind, Sem.run_pure, Result.andThen_ok]

/-- a list, or none if there is an error. -/
def lsOr (e : Int) (l : List Int) : List Int := if e = 0 then l else []
set_option maxRecDepth 100000 in
set_option maxHeartbeats 1000000 in
theorem EliminatedH_any (l : List Int) (w : World) (hl : l.length = 12) (hw : Powers w) :
    Calls Tryz.prog 22 #[.agg (ia l)] w fun e w' => (∃ u, e = .returned (.tuple #[u, .int .i64 (patE l)]) ∧ Ints w' u (lsOr (patE l) (chosenL (fun h => cyIs0 (orderC l h)) 1 6))) ∧ Below w.heap.size w w' := by
  have TP := Lib.hid (fun W => checkPattern_any l W hl)
  obtain ⟨E, hE⟩ : ∃ E, E = patE l := ⟨_, rfl⟩
  rw [← hE] at TP ⊢
  clear hE
  go_enter Tryz.func22, Tryz.ntmps22
  go_upto_region 1 with fail
  obtain ⟨W1, hW1⟩ : ∃ W, W = w.alloc (.cells (ia l) 30) := ⟨_, rfl⟩
  have kW1 : Below w.heap.size w W1 := by rw [hW1]; exact below_new _ _
  have iW1 : BlkI W1 w.heap.size 30 l := by rw [hW1]; exact BlkI.new _ _ _
  rw [← hW1]
  clear hW1
  have hld := load12 hl iW1
  go_wp2_with (refine wpList_load rfl _ _ rfl hld ?_)
  refine (TP.out W1).mono ?_
  rintro e w2 ⟨rfl, hb2⟩
  clear hld
  replace iW1 := iW1.carry hb2
  replace kW1 := bthen kW1 hb2
  clear hb2
  by_cases he : E = 0
  · subst he
    have TC := Lib.hid (chosen_any 64 #[.pointer (some ⟨w.heap.size, 0, none⟩)] Tryz.enterEliminated1 (fun h => cyIs0 (orderC l h)) 1 6 6 w2 (by omega) (by omega) (by omega) (fun x h1 h2 W hb => eliminated1_any l x _ W hl (by omega) (hw.carry (bthen kW1 hb)) (iW1.carry hb)))
    go_wp2_with fail
    refine TC.out.mono ?_
    rintro e w3 ⟨⟨u, rfl, hu⟩, hb3⟩
    go_wp2_with fail
    go_ret2
    exact ⟨⟨_, rfl, by rw [lsOr, if_pos rfl]; exact hu⟩, bthen kW1 hb3⟩
  · have z : (E == 0) = false := by rw [beq_eq_false_iff_ne]; exact he
    have HNE := Lib.hid he
    go_wp2_with fail
    go_ret2
    exact ⟨⟨_, rfl, by rw [lsOr, if_neg HNE.out]; exact Ints.nil _⟩, kW1⟩

def stC (x : Int × Int × Int × Int) : Int × Int := (st0 x.1 x.2.1 x.2.2.1 x.2.2.2, st1 x.1 x.2.1 x.2.2.1 x.2.2.2)
def scR (n : Int) (x : Int × Int) (m : Int) (y : Int × Int) : Int × Int := (wrap64 (wrap64 (n * x.1) - wrap64 (m * y.1)), wrap64 (wrap64 (n * x.2) - wrap64 (m * y.2)))
def Small (x : Int × Int) : Prop := (-1073741824 ≤ x.1 ∧ x.1 ≤ 1073741824) ∧ (-1073741824 ≤ x.2 ∧ x.2 ≤ 1073741824)
instance (x : Int × Int) : Decidable (Small x) := by unfold Small; infer_instance
def posB (x : Int) : Bool := decide (0 < x)
def excB (l lim : List Int) (h : Nat) : Bool := posB (sgnR (scR 256 (stC (orderC l h)) (lim[h]?.getD 0) (stC (orderC l 1))).1 (scR 256 (stC (orderC l h)) (lim[h]?.getD 0) (stC (orderC l 1))).2)

theorem Tryz.enterExcess1 (args : Array Value) (w : World) : Sem.run Tryz.prog (callFunc 112 args) w = .ok (.enter 112 args) w :=
  MuLone.run_callFunc_enter Tryz.func112 (by kernel_rfl) rfl args w
set_option maxRecDepth 100000 in
set_option maxHeartbeats 2000000 in
theorem excess1_any (l lim : List Int) (h : Nat) (Bp Bb Bl : Nat) (w : World) (hl : l.length = 12) (hlim : lim.length = 7) (hh : h < 7) (hw : Powers w) (hp : BlkI w Bp 30 l) (hb : Blk w Bb 51 [.int .i64 (stC (orderC l 1)).1, .int .i64 (stC (orderC l 1)).2]) (hm : BlkI w Bl 63 lim)
    (hS : Small (scR 256 (stC (orderC l h)) (lim[h]?.getD 0) (stC (orderC l 1)))) :
    Calls Tryz.prog 112 #[.int .i64 h, .pointer (some ⟨Bp, 0, none⟩), .pointer (some ⟨Bb, 0, none⟩), .pointer (some ⟨Bl, 0, none⟩)] w fun e w' => e = .returned (.bool (excB l lim h)) ∧ Below w.heap.size w w' := by
  rw [excB]
  have TO := Lib.hid (fun W hW => order_any l h W hl (by omega) hW)
  have TS := Lib.hid (fun W => strengthC_any (orderC l h).1 (orderC l h).2.1 (orderC l h).2.2.1 (orderC l h).2.2.2 W)
  have TG := Lib.hid (fun W => signR_any (scR 256 (stC (orderC l h)) (lim[h]?.getD 0) (stC (orderC l 1))).1 (scR 256 (stC (orderC l h)) (lim[h]?.getD 0) (stC (orderC l 1))).2 W hS.1 hS.2)
  have hmc := hm.cell (j := h) (by omega)
  generalize lim[h]?.getD 0 = m at hmc TG ⊢
  clear hS
  generalize (stC (orderC l 1)) = b at hb TG ⊢
  obtain ⟨b0, b1⟩ := b
  have TD := Lib.hid (fun W => scaledR_any (stC (orderC l h)).1 (stC (orderC l h)).2 256 b0 b1 m W)
  simp only [stC, scR, cyV] at TO TS TD TG hb ⊢
  generalize orderC l h = o at TO TS TD TG ⊢
  obtain ⟨o0, o1, o2, o3⟩ := o
  simp only at TO TS TD TG hb ⊢
  generalize st0 o0 o1 o2 o3 = s0 at TS TD TG ⊢
  generalize st1 o0 o1 o2 o3 = s1 at TS TD TG ⊢
  generalize wrap64 (wrap64 (256 * s0) - wrap64 (m * b0)) = r0 at TD TG ⊢
  generalize wrap64 (wrap64 (256 * s1) - wrap64 (m * b1)) = r1 at TD TG ⊢
  generalize sgnR r0 r1 = g at TG ⊢
  have a0 := hb.cell (j := 0) (v := .int .i64 b0) rfl
  have a1 := hb.cell (j := 1) (v := .int .i64 b1) rfl
  have d1 : (h : Int) < 7 := by omega
  go_enter Tryz.func112, Tryz.ntmps112
  go_upto_region 1 with fail
  refine wp_region_E 11 (by kernel_rfl) ?_
  obtain ⟨wz, hwz⟩ : ∃ v, v = w.drew := ⟨_, rfl⟩
  rw [← hwz]
  have hlz : Below w.heap.size w wz := by rw [hwz]; exact (Below.refl _ _).drew
  have hbz := bthen (Below.refl _ _) hlz
  have a0 := cellb a0 hlz
  have a1 := cellb a1 hlz
  have hmc := cellb hmc hlz
  have hp := hp.carry hlz
  have hw := hw.carry hlz
  clear hwz hlz
  refine wpAnyE_take (i := 0) (oi := { dst := some 6, op := Op.load 30 (Operand.tmp 1), type := 30, pos := "harmonic.go:273", after := #[], guard := none }) (v := ?_) rfl (by kernel_rfl) (by kernel_rfl) (by kernel_rfl) (by kernel_rfl) (fun _ _ _ h => h) (Or.inl ⟨by rfl, ?_⟩) ?_
  rotate_left
  · (intro w hE; have a0 := cellb a0 hE; have a1 := cellb a1 hE; have hmc := cellb hmc hE; (try dsimp only); refine (exec_load rfl (load12 hl (hp.carry hE))).trans ?_); (try with_reducible rfl)
  try simp only [Act.put, List.setIfInBounds_toArray, List.set_cons_zero, List.set_cons_succ]
  refine wpAnyE_take (i := 1) (oi := { dst := some 7, op := Op.move (Operand.tmp 0), type := 3, pos := "harmonic.go:273", after := #[], guard := none }) (v := ?_) rfl (by kernel_rfl) (by kernel_rfl) (by kernel_rfl) (by kernel_rfl) (fun _ _ _ h => h) (Or.inl ⟨by rfl, ?_⟩) ?_
  rotate_left
  · (intro w hE; have a0 := cellb a0 hE; have a1 := cellb a1 hE; have hmc := cellb hmc hE; (try dsimp only); go_simp); (try with_reducible rfl)
  try simp only [Act.put, List.setIfInBounds_toArray, List.set_cons_zero, List.set_cons_succ]
  refine wpAnyE_take (i := 4) (oi := { dst := some 10, op := Op.load 51 (Operand.tmp 2), type := 51, pos := "harmonic.go:273", after := #[], guard := none }) (v := ?_) rfl (by kernel_rfl) (by kernel_rfl) (by kernel_rfl) (by kernel_rfl) (fun _ _ _ h => h) (Or.inl ⟨by rfl, ?_⟩) ?_
  rotate_left
  · (intro w hE; have a0 := cellb a0 hE; have a1 := cellb a1 hE; have hmc := cellb hmc hE; (try dsimp only); go_simp); (try with_reducible rfl)
  try simp only [Act.put, List.setIfInBounds_toArray, List.set_cons_zero, List.set_cons_succ]
  refine wpAnyE_take (i := 5) (oi := { dst := some 11, op := Op.move (Operand.tmp 0), type := 3, pos := "harmonic.go:273", after := #[], guard := none }) (v := ?_) rfl (by kernel_rfl) (by kernel_rfl) (by kernel_rfl) (by kernel_rfl) (fun _ _ _ h => h) (Or.inl ⟨by rfl, ?_⟩) ?_
  rotate_left
  · (intro w hE; have a0 := cellb a0 hE; have a1 := cellb a1 hE; have hmc := cellb hmc hE; (try dsimp only); go_simp); (try with_reducible rfl)
  try simp only [Act.put, List.setIfInBounds_toArray, List.set_cons_zero, List.set_cons_succ]
  refine wpAnyE_take (i := 6) (oi := { dst := some 12, op := Op.indexAddr 63 (Operand.tmp 3) (Operand.tmp 11), type := 0, pos := "harmonic.go:273", after := #[{ on := 5, ground := Ground.data }], guard := none }) (v := ?_) rfl (by kernel_rfl) (by kernel_rfl) (by kernel_rfl) (by kernel_rfl) (fun _ _ _ h => h) (Or.inl ⟨by rfl, ?_⟩) ?_
  rotate_left
  · (intro w hE; have a0 := cellb a0 hE; have a1 := cellb a1 hE; have hmc := cellb hmc hE; (try dsimp only); go_simp); (try with_reducible rfl)
  try simp only [Act.put, List.setIfInBounds_toArray, List.set_cons_zero, List.set_cons_succ]
  refine wpAnyE_take (i := 7) (oi := { dst := some 13, op := Op.load 3 (Operand.tmp 12), type := 3, pos := "harmonic.go:273", after := #[{ on := 6, ground := Ground.data }], guard := none }) (v := ?_) rfl (by kernel_rfl) (by kernel_rfl) (by kernel_rfl) (by kernel_rfl) (fun _ _ _ h => h) (Or.inl ⟨by rfl, ?_⟩) ?_
  rotate_left
  · (intro w hE; have a0 := cellb a0 hE; have a1 := cellb a1 hE; have hmc := cellb hmc hE; (try dsimp only); go_simp); (try with_reducible rfl)
  try simp only [Act.put, List.setIfInBounds_toArray, List.set_cons_zero, List.set_cons_succ]
  refine wpAnyE_call (i := 2) (oi := { dst := some 8, op := Op.call { callee := Callee.value (Operand.func 62), args := #[Operand.tmp 6, Operand.tmp 7], argTypes := #[30, 3] }, type := 34, pos := "harmonic.go:273", after := #[{ on := 0, ground := Ground.data }, { on := 1, ground := Ground.data }], guard := none }) (fun w hE => TO.out w (hw.carry hE)) rfl (by kernel_rfl) (by kernel_rfl) (by kernel_rfl) (by kernel_rfl) (fun _ _ _ h => h) (by rfl) (fun w hE => by (try dsimp only); go_simp) ?_
  try simp only [Act.put, List.setIfInBounds_toArray, List.set_cons_zero, List.set_cons_succ]
  refine wpAnyE_call (i := 3) (oi := { dst := some 9, op := Op.call { callee := Callee.value (Operand.func 59), args := #[Operand.tmp 8], argTypes := #[34] }, type := 51, pos := "harmonic.go:273", after := #[{ on := 2, ground := Ground.data }, { on := 2, ground := Ground.chain }], guard := none }) (fun w hE => TS.out w) rfl (by kernel_rfl) (by kernel_rfl) (by kernel_rfl) (by kernel_rfl) (fun _ _ _ h => h) (by rfl) (fun w hE => by (try dsimp only); go_simp) ?_
  try simp only [Act.put, List.setIfInBounds_toArray, List.set_cons_zero, List.set_cons_succ]
  refine wpAnyE_call (i := 8) (oi := { dst := some 14, op := Op.call { callee := Callee.value (Operand.func 68), args := #[Operand.tmp 9, Operand.const (Value.int IntKind.i64 256), Operand.tmp 10, Operand.tmp 13], argTypes := #[51, 3, 51, 3] }, type := 51, pos := "harmonic.go:273", after := #[{ on := 3, ground := Ground.data }, { on := 4, ground := Ground.data }, { on := 7, ground := Ground.data }, { on := 3, ground := Ground.chain }], guard := none }) (fun w hE => TD.out w) rfl (by kernel_rfl) (by kernel_rfl) (by kernel_rfl) (by kernel_rfl) (fun _ _ _ h => h) (by rfl) (fun w hE => by (try dsimp only); go_simp) ?_
  try simp only [Act.put, List.setIfInBounds_toArray, List.set_cons_zero, List.set_cons_succ]
  refine wpAnyE_call (i := 9) (oi := { dst := some 15, op := Op.call { callee := Callee.value (Operand.func 61), args := #[Operand.tmp 14], argTypes := #[51] }, type := 3, pos := "harmonic.go:273", after := #[{ on := 8, ground := Ground.data }, { on := 8, ground := Ground.chain }], guard := none }) (fun w hE => TG.out w) rfl (by kernel_rfl) (by kernel_rfl) (by kernel_rfl) (by kernel_rfl) (fun _ _ _ h => h) (by rfl) (fun w hE => by (try dsimp only); go_simp) ?_
  try simp only [Act.put, List.setIfInBounds_toArray, List.set_cons_zero, List.set_cons_succ]
  refine wpAnyE_take (i := 10) (oi := { dst := some 16, op := Op.binOp BinOp.gtr 3 (Operand.tmp 15) (Operand.const (Value.int IntKind.i64 0)) 3, type := 4, pos := "harmonic.go:273", after := #[{ on := 9, ground := Ground.data }], guard := none }) (v := ?_) rfl (by kernel_rfl) (by kernel_rfl) (by kernel_rfl) (by kernel_rfl) (fun _ _ _ h => h) (Or.inl ⟨by rfl, ?_⟩) ?_
  rotate_left
  · (intro w hE; have a0 := cellb a0 hE; have a1 := cellb a1 hE; have hmc := cellb hmc hE; (try dsimp only); go_simp); (try with_reducible rfl)
  try simp only [Act.put, List.setIfInBounds_toArray, List.set_cons_zero, List.set_cons_succ]
  refine wpAnyE_one (i := 11) (o := { dst := some 5, op := Op.assign (Operand.tmp 16), type := 4, pos := "harmonic.go:273", after := #[{ on := 10, ground := Ground.data }, { on := 9, ground := Ground.chain }, { on := 0, ground := Ground.phase }, { on := 1, ground := Ground.phase }, { on := 2, ground := Ground.phase }, { on := 3, ground := Ground.phase }, { on := 4, ground := Ground.phase }, { on := 5, ground := Ground.phase }, { on := 6, ground := Ground.phase }, { on := 7, ground := Ground.phase }, { on := 8, ground := Ground.phase }, { on := 9, ground := Ground.phase }, { on := 10, ground := Ground.phase }], guard := none }) (by kernel_rfl) rfl (fun wy1 hE K hK => ?_)
  have a0 := cellb a0 hE
  have a1 := cellb a1 hE
  have hmc := cellb hmc hE
  have hp := hp.carry hE
  have hw := hw.carry hE
  have hbz1 := bthen hbz hE
  go_simp
  refine hK _ _ (fun _ => Below.refl _ _) ?_
  clear hK K hE
  try simp only [Act.put, List.setIfInBounds_toArray, List.set_cons_zero, List.set_cons_succ]
  refine wpAnyE_done (by kernel_rfl) (fun wy2 hE => ?_) _
  have hbz2 := bthen hbz1 hE
  have a0 := cellb a0 hE
  have a1 := cellb a1 hE
  have hmc := cellb hmc hE
  have hp := hp.carry hE
  have hw := hw.carry hE
  clear hE
  have hB := hbz2
  go_wp2_with fail
  go_ret
  exact ⟨rfl, hB⟩
end Go.Proofs.YtfeajpkjjlddlaaGreatDoor

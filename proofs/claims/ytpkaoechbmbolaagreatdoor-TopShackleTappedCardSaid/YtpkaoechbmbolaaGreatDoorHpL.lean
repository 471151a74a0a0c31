/- The package harmonic: Avoid. -/
import Derived.Test.YtpkaoechbmbolaaGreatDoorHpK
import Derived.WalkMore
namespace Go.Proofs.YtpkaoechbmbolaaGreatDoor
set_option linter.unusedSimpArgs false
set_option linter.unusedVariables false
open Go.RowKit

theorem ordC_zero {last : Int} {l : List Int} (h : ordC last l = 0) : ∀ x ∈ l, 1 ≤ x ∧ x ≤ 12 := by
  induction l generalizing last with
  | nil => simp
  | cons a l ih =>
    rw [ordC, orE] at h
    by_cases hs : ordS last a = 0
    · rw [if_pos hs] at h
      intro x hx
      rcases List.mem_cons.1 hx with rfl | hx
      · unfold ordS at hs
        exact withinE_zero (firstE_cons_ok hs).1
      · exact ih h x hx
    · rw [if_neg hs] at h; exact absurd h hs
theorem ordE_zero {l : List Int} (h : ordE l = 0) : ∀ x ∈ l, 1 ≤ x ∧ x ≤ 12 := by
  unfold ordE orE at h
  by_cases hs : ordN l = 0
  · rw [if_pos hs] at h; exact ordC_zero h
  · rw [if_neg hs] at h; exact absurd h hs

def avoE (ls : List (Int × Int)) (b : Int) (l : List (Int × Int)) (os : List Int) : Int := firstE [braE ls b, polE l, ordE os]
/-- a tap avoids the polygon at the orders. -/
def okT (ls : List (Int × Int)) (b : Nat) (l : List (Int × Int)) (os : List Int) (t : Int) : Bool := bif fltE (tapL ls b t) == 0 then !(os.any (meetB (tapL ls b t) l)) else false
def avoT (ls : List (Int × Int)) (b : Nat) (l : List (Int × Int)) (os : List Int) : Int × Int := match tapsS.find? (okT ls b l os) with | some t => (t, 0) | none => (0, 18)
def avoR (ls : List (Int × Int)) (b : Int) (l : List (Int × Int)) (os : List Int) : Int × Int := bif avoE ls b l os == 0 then avoT ls b.toNat l os else (0, avoE ls b l os)
theorem find_some {α : Type} {g : α → Bool} {l : List α} {k : Nat} {x : α} (hk : l[k]? = some x) (h : ∀ y ∈ l.take k, g y = false) (hx : g x = true) : l.find? g = some x := by
  have hlt : k < l.length := (List.getElem?_eq_some_iff.1 hk).1
  have e : l = l.take k ++ x :: l.drop (k + 1) := by
    have := List.drop_eq_getElem_cons hlt
    rw [(List.getElem?_eq_some_iff.1 hk).2] at this
    rw [← this, List.take_append_drop]
  rw [e, List.find?_append]
  have : (l.take k).find? g = none := List.find?_eq_none.2 (fun y hy => by rw [h y hy]; simp)
  rw [this, List.find?_cons_of_pos (by exact hx)]; rfl
theorem mem_take_succ {α : Type} {g : α → Bool} {l : List α} {k : Nat} {x : α} (hk : l[k]? = some x) (h : ∀ y ∈ l.take k, g y = false) (hx : g x = false) : ∀ y ∈ l.take (k + 1), g y = false := by
  rw [List.take_add_one, hk]
  intro y hy
  rcases List.mem_append.1 hy with hy | hy
  · exact h y hy
  · simp at hy; rw [hy]; exact hx
theorem Tryz.infoTap : (Tryz.prog.info? 87).map (fun i => (i.zero, i.size, i.bytes)) = some (some (.int .i64 0), 1, 8) := by kernel_rfl
theorem Tryz.und46 : Tryz.prog.underlying 86 = some (.slice 87) := by kernel_rfl

set_option maxRecDepth 100000 in
set_option maxHeartbeats 4000000 in
theorem Avoid_any (v u z : Value) (ls : List (Int × Int)) (b : Int) (l : List (Int × Int)) (os : List Int) (w : World) (hv : Pairs w v ls) (hl : ls.length ≤ 1000000) (hu : Pairs w u l) (hlu : l.length ≤ 1000000) (hz : Ints w z os) (hlz : os.length ≤ 1000000) :
    Calls Tryz.prog 10 #[.agg #[v], .int .i64 b, u, z] w fun e w' => e = .returned (.tuple #[.int .i64 (avoR ls b l os).1, .int .i64 (avoR ls b l os).2]) ∧ Below w.heap.size w w' := by
  obtain ⟨i0, hi, hz0, hz1, hz2⟩ := info_parts Tryz.infoTap
  obtain ⟨r, hr⟩ : ∃ r, r = avoR ls b l os := ⟨_, rfl⟩
  rw [← hr]
  rw [avoR] at hr
  have hfacts : avoE ls b l os = 0 → (0 ≤ b ∧ b < ls.length) ∧ (∀ x ∈ os, 1 ≤ x ∧ x ≤ 12) := fun h => by
    unfold avoE at h
    obtain ⟨h1, h⟩ := firstE_cons_ok h
    obtain ⟨_, h⟩ := firstE_cons_ok h
    obtain ⟨h3, _⟩ := firstE_cons_ok h
    exact ⟨(braE_zero h1).2, ordE_zero h3⟩
  have T1 := Lib.hid (fun W hP => checkBranch_any v ls b W hP hl)
  have T2 := Lib.hid (fun W hP => CheckPolygon_any u l W hP hlu)
  have T3 := Lib.hid (fun W hP => checkOrders_any z os W hP hlz)
  rw [avoE] at hr hfacts
  generalize braE ls b = e1 at T1 hr hfacts
  generalize polE l = e2 at T2 hr hfacts
  generalize ordE os = e3 at T3 hr hfacts
  have TF := Lib.hid (fun (u : Value) (W : World) (h : Ints W u [e1, e2, e3]) => firstH_any u [e1, e2, e3] W (by simp [maxLen]) h)
  generalize firstE [e1, e2, e3] = E at TF hr hfacts
  have HR := Lib.hid hr
  have HFA := Lib.hid hfacts
  have HV := Lib.hid hv
  have HU := Lib.hid hu
  have HZ := Lib.hid hz
  obtain ⟨a, cp, rfl, _, _⟩ := id hv
  obtain ⟨a2, cp2, rfl, _, _⟩ := id hu
  obtain ⟨a3, cp3, rfl, _, _⟩ := id hz
  clear hv hu hz hr hfacts
  go_enter Tryz.func10, Tryz.ntmps10
  go_wp2_with fail
  go_step3
  go_upto_region 1 with fail
  obtain ⟨W1, hW1⟩ : ∃ v, v = World.alloc w (Obj.cells #[.slice a ls.length cp] 34) := ⟨_, rfl⟩
  have kW1 : Below w.heap.size w W1 := by rw [hW1]; exact below_new _ _
  have iW1 : Blk W1 (w.heap.size) 34 [.slice a ls.length cp] := by rw [hW1]; exact Blk.new _ _ _
  have sW1 : W1.heap.size = w.heap.size + 1 := by rw [hW1]; simp
  rw [← hW1]
  clear hW1
  obtain ⟨W2, hW2⟩ : ∃ v, v = World.alloc W1 (Obj.cells #[.slice a2 l.length cp2] 25) := ⟨_, rfl⟩
  have kW2 : Below W1.heap.size W1 W2 := by rw [hW2]; exact below_new _ _
  have iW2 : Blk W2 (w.heap.size + 1) 25 [.slice a2 l.length cp2] := by rw [hW2, ← sW1]; exact Blk.new _ _ _
  have sW2 : W2.heap.size = w.heap.size + 1 + 1 := by rw [hW2]; simp [sW1]
  rw [← hW2]
  clear hW2
  have i4 := iW1.carry kW2
  have i6 := iW2
  have hB := bthen kW1 kW2
  have a0 := i4.cell (j := 0) (v := .slice a ls.length cp) rfl
  have a6 := i6.cell (j := 0) (v := .slice a2 l.length cp2) rfl
  have hP := HV.out.carry hB
  have hQ := HU.out.carry hB
  have hO := HZ.out.carry hB
  have hs2 : w.heap.size + 2 = W2.heap.size := by omega
  have A0 := Lib.hid a0
  have A6 := Lib.hid a6
  have HP := Lib.hid hP
  have HQ := Lib.hid hQ
  have HO := Lib.hid hO
  clear iW1 iW2 kW1 kW2 sW1 sW2
  have hB2 : Below W2.heap.size W2 W2 := Below.refl _ _
  refine wp_region_E 9 (by kernel_rfl) ?_
  obtain ⟨wz, hwz⟩ : ∃ v, v = W2.drew := ⟨_, rfl⟩
  rw [← hwz]
  have hlz : Below W2.heap.size W2 wz := by rw [hwz]; exact (Below.refl _ _).drew
  have hbz := bthen hB2 hlz
  have a0 := cellb a0 hlz
  have a6 := cellb a6 hlz
  have hP := hP.carry hlz
  have hQ := hQ.carry hlz
  have hO := hO.carry hlz
  clear hwz hlz
  refine wpAnyE_take (i := 0) (oi := { dst := some 18, op := Op.load 34 (Operand.tmp 4), type := 34, pos := "filter.go:259", after := #[], guard := none }) (v := ?_) rfl (by kernel_rfl) (by kernel_rfl) (by kernel_rfl) (by kernel_rfl) (fun _ _ _ h => h) (Or.inl ⟨by rfl, ?_⟩) ?_
  rotate_left
  · (intro w hE; have a0 := cellb a0 hE; have a6 := cellb a6 hE; (try dsimp only); go_simp); (try with_reducible rfl)
  try simp only [Act.put, List.setIfInBounds_toArray, List.set_cons_zero, List.set_cons_succ]
  refine wpAnyE_take (i := 1) (oi := { dst := some 19, op := Op.move (Operand.tmp 1), type := 3, pos := "filter.go:259", after := #[], guard := none }) (v := ?_) rfl (by kernel_rfl) (by kernel_rfl) (by kernel_rfl) (by kernel_rfl) (fun _ _ _ h => h) (Or.inl ⟨by rfl, ?_⟩) ?_
  rotate_left
  · (intro w hE; have a0 := cellb a0 hE; have a6 := cellb a6 hE; (try dsimp only); go_simp); (try with_reducible rfl)
  try simp only [Act.put, List.setIfInBounds_toArray, List.set_cons_zero, List.set_cons_succ]
  refine wpAnyE_take (i := 3) (oi := { dst := some 21, op := Op.load 25 (Operand.tmp 6), type := 25, pos := "filter.go:259", after := #[], guard := none }) (v := ?_) rfl (by kernel_rfl) (by kernel_rfl) (by kernel_rfl) (by kernel_rfl) (fun _ _ _ h => h) (Or.inl ⟨by rfl, ?_⟩) ?_
  rotate_left
  · (intro w hE; have a0 := cellb a0 hE; have a6 := cellb a6 hE; (try dsimp only); go_simp); (try with_reducible rfl)
  try simp only [Act.put, List.setIfInBounds_toArray, List.set_cons_zero, List.set_cons_succ]
  refine wpAnyE_take (i := 5) (oi := { dst := some 23, op := Op.move (Operand.tmp 3), type := 42, pos := "filter.go:259", after := #[], guard := none }) (v := ?_) rfl (by kernel_rfl) (by kernel_rfl) (by kernel_rfl) (by kernel_rfl) (fun _ _ _ h => h) (Or.inl ⟨by rfl, ?_⟩) ?_
  rotate_left
  · (intro w hE; have a0 := cellb a0 hE; have a6 := cellb a6 hE; (try dsimp only); go_simp); (try with_reducible rfl)
  try simp only [Act.put, List.setIfInBounds_toArray, List.set_cons_zero, List.set_cons_succ]
  refine wpAnyE_call (i := 2) (oi := { dst := some 20, op := Op.call { callee := Callee.value (Operand.func 25), args := #[Operand.tmp 18, Operand.tmp 19], argTypes := #[34, 3] }, type := 39, pos := "filter.go:259", after := #[{ on := 0, ground := Ground.data }, { on := 1, ground := Ground.data }], guard := none }) (fun w hE => T1.out w (hP.carry hE)) rfl (by kernel_rfl) (by kernel_rfl) (by kernel_rfl) (by kernel_rfl) (fun _ _ _ h => h) (by rfl) (fun w hE => by (try dsimp only); go_simp) ?_
  try simp only [Act.put, List.setIfInBounds_toArray, List.set_cons_zero, List.set_cons_succ]
  refine wpAnyE_call (i := 4) (oi := { dst := some 22, op := Op.call { callee := Callee.value (Operand.func 26), args := #[Operand.tmp 21], argTypes := #[25] }, type := 39, pos := "filter.go:259", after := #[{ on := 3, ground := Ground.data }, { on := 2, ground := Ground.chain }], guard := none }) (fun w hE => T2.out w (hQ.carry hE)) rfl (by kernel_rfl) (by kernel_rfl) (by kernel_rfl) (by kernel_rfl) (fun _ _ _ h => h) (by rfl) (fun w hE => by (try dsimp only); go_simp) ?_
  try simp only [Act.put, List.setIfInBounds_toArray, List.set_cons_zero, List.set_cons_succ]
  refine wpAnyE_call (i := 6) (oi := { dst := some 24, op := Op.call { callee := Callee.value (Operand.func 27), args := #[Operand.tmp 23], argTypes := #[42] }, type := 39, pos := "filter.go:259", after := #[{ on := 5, ground := Ground.data }, { on := 4, ground := Ground.chain }], guard := none }) (fun w hE => T3.out w (hO.carry hE)) rfl (by kernel_rfl) (by kernel_rfl) (by kernel_rfl) (by kernel_rfl) (fun _ _ _ h => h) (by rfl) (fun w hE => by (try dsimp only); go_simp) ?_
  try simp only [Act.put, List.setIfInBounds_toArray, List.set_cons_zero, List.set_cons_succ]
  refine wpAnyE_one (i := 7) (o := { dst := some 25, op := Op.buildSlice 101 3 #[(0, Operand.tmp 20), (1, Operand.tmp 22), (2, Operand.tmp 24)], type := 101, pos := "filter.go:259", after := #[{ on := 2, ground := Ground.data }, { on := 4, ground := Ground.data }, { on := 6, ground := Ground.data }], guard := none }) (by kernel_rfl) rfl (fun wy1 hE K hK => ?_)
  have a0 := cellb a0 hE
  have a6 := cellb a6 hE
  have hP := hP.carry hE
  have hQ := hQ.carry hE
  have hO := hO.carry hE
  have hbz1 := bthen hbz hE
  clear hE
  go_simp
  obtain ⟨wx1, hwz⟩ : ∃ v, v = wy1.alloc (Obj.cells #[.int .i64 e1, .int .i64 e2, .int .i64 e3] 39) := ⟨_, rfl⟩
  rw [← hwz]
  have hl : Below wy1.heap.size wy1 wx1 := by rw [hwz]; exact below_new _ _
  have hcz1 := bthen hbz1 hl
  have iN : BlkI wx1 wy1.heap.size 39 [e1, e2, e3] := by rw [hwz]; exact Blk.new _ _ _
  generalize wy1.heap.size = G at iN ⊢
  have a0 := cellb a0 hl
  have a6 := cellb a6 hl
  have hP := hP.carry hl
  have hQ := hQ.carry hl
  have hO := hO.carry hl
  clear hwz
  refine hK _ _ (fun _ => hl) ?_
  clear hK K hl
  try simp only [Act.put, List.setIfInBounds_toArray, List.set_cons_zero, List.set_cons_succ]
  refine wpAnyE_call (i := 8) (oi := { dst := some 26, op := Op.call { callee := Callee.value (Operand.func 24), args := #[Operand.tmp 25], argTypes := #[101] }, type := 39, pos := "filter.go:259", after := #[{ on := 7, ground := Ground.data }, { on := 6, ground := Ground.chain }], guard := none }) (fun w hE => ofPure (TF.out _ w ((BlkI.ints iN rfl).carry hE))) rfl (by kernel_rfl) (by kernel_rfl) (by kernel_rfl) (by kernel_rfl) (fun _ _ _ h => h) (by rfl) (fun w hE => by (try dsimp only); go_simp) ?_
  try simp only [Act.put, List.setIfInBounds_toArray, List.set_cons_zero, List.set_cons_succ]
  refine wpAnyE_one (i := 9) (o := { dst := some 10, op := Op.assign (Operand.tmp 26), type := 39, pos := "filter.go:259", after := #[{ on := 8, ground := Ground.data }, { on := 8, ground := Ground.chain }, { on := 0, ground := Ground.phase }, { on := 1, ground := Ground.phase }, { on := 2, ground := Ground.phase }, { on := 3, ground := Ground.phase }, { on := 4, ground := Ground.phase }, { on := 5, ground := Ground.phase }, { on := 6, ground := Ground.phase }, { on := 7, ground := Ground.phase }, { on := 8, ground := Ground.phase }], guard := none }) (by kernel_rfl) rfl (fun wy2 hE K hK => ?_)
  have a0 := cellb a0 hE
  have a6 := cellb a6 hE
  have hP := hP.carry hE
  have hQ := hQ.carry hE
  have hO := hO.carry hE
  have hbz2 := bthen hcz1 hE
  go_simp
  refine hK _ _ (fun _ => Below.refl _ _) ?_
  clear hK K hE
  try simp only [Act.put, List.setIfInBounds_toArray, List.set_cons_zero, List.set_cons_succ]
  refine wpAnyE_done (by kernel_rfl) (fun wy3 hE => ?_) _
  have hbz3 := bthen hbz2 hE
  have a0 := cellb a0 hE
  have a6 := cellb a6 hE
  have hP := hP.carry hE
  have hQ := hQ.carry hE
  have hO := hO.carry hE
  clear hE
  have hB2 := hbz3
  obtain ⟨W5, hW5⟩ : ∃ v, v = wy3 := ⟨_, rfl⟩
  rw [← hW5] at hB2 a0 a6 hP hQ hO ⊢
  clear hW5
  by_cases he : E = 0
  · subst he
    obtain ⟨⟨hb0, hb1⟩, hos⟩ := HFA.out (by trivial)
    obtain ⟨bn, rfl⟩ : ∃ n : Nat, (n : Int) = b := ⟨b.toNat, by omega⟩
    have hbn : bn < ls.length := by omega
    have hr2 : r = avoT ls bn l os := HR.out
    have HR2 := Lib.hid hr2
    have HOS := Lib.hid hos
    clear hr2 hos HFA HR TF T1 T2 T3 hb0 hb1
    have hsz := hB2.size
    clear a0 a6 hP hQ hO
    go_wp2_with fail
    go_loopw [11, 30] (fun v i wr => ∃ k : Nat, k ≤ 17 ∧ i = .int .i64 k ∧ wr.ownsRow W2.heap.size 87 1 v k ((upto (fun k => (k : Int) - 8) k).map (Value.int .i64)) ∧ Below W2.heap.size W2 wr) (fun _ i _ => 17 - (intOf i).toNat)
    case atStart => exact ⟨0, by omega, rfl, World.ownsRow_nil _ _ _ _, hB2⟩
    case round =>
      clear hB2 hsz
      obtain ⟨k, hk, rfl, hown, hB2⟩ := hrel
      by_cases hlt : k < 17
      · have d1 : (k : Int) < 17 := by omega
        have r1 : IntKind.i64.wrap ((k : Int) - 8) = (k : Int) - 8 := IntWalk.i64_in _ (by omega)
        have hsu := upto_succ (fun k : Nat => (k : Int) - 8) k
        have HSU := Lib.hid hsu
        clear hsu
        go_wp2_with (at_builtin; refine wpList_append_own _ rfl _ _ 86 rfl W2.heap.size 87 i0 (.int .i64 0) 1 8 Tryz.und46 hi hz0 hz1 hz2 rfl (by decide) _ _ _ rfl (hown.alloc _) ⟨wr.heap.size, 0, none⟩ 1 1 [.int .i64 ((k : Int) - 8)] rfl rfl (cell_one_new _ _ _) (by simp [Value.oneCell']) (by unfold maxLen; omega) (by omega) (by have := hB2.size; simp; omega) ?_; intro v' w3 hown' hgrow _)
        have hbel' := below_own hB2 hown hgrow
        have hown2 : w3.ownsRow W2.heap.size 87 1 v' (k + 1) ((upto (fun k => (k : Int) - 8) (k + 1)).map (Value.int .i64)) := by
          rw [HSU.out, List.map_append]; exact hown'
        clear hown hB2 hown' hgrow
        go_wp2
        go_roundw
        case rel => exact ⟨k + 1, by omega, by go_num, hown2, hbel'⟩
        case measure => simp [intOf]; omega
      · obtain rfl : k = 17 := by omega
        have TS := Lib.hid (sortTaps_any W2.heap.size u11 wr hown hB2.size)
        clear hown
        go_wp2_with fail
        refine TS.out.mono ?_
        rintro e w7 ⟨rfl, hts, hbs⟩
        replace hB2 := hB2.trans hbs
        clear hbs TS
        obtain ⟨at7, ct7, rfl, _, hcs7⟩ := hts
        have hcs : ∀ k : Nat, k < 17 → ∃ b off t, at7 = some ⟨b, off, none⟩ ∧ tapsS[k]? = some t ∧ w7.cell? ⟨b, off + k, none⟩ = some (.int .i64 t) := fun k hk => by
          obtain ⟨b, off, rfl, hc⟩ := hcs7 (by decide)
          have hk' : k < tapsS.length := hk
          have := hc k hk'
          rw [List.getElem?_eq_getElem hk'] at this
          exact ⟨b, off, _, rfl, List.getElem?_eq_getElem hk', this⟩
        have HC := Lib.hid hcs
        have hl7 : tapsS.length = 17 := rfl
        rw [hl7]
        clear hcs hcs7 hl7
        go_wp2_with fail
        go_step3
        go_wp2_with fail
        go_loopw [13, 14, 43] (fun o13 o14 i wr => ∃ k : Nat, k ≤ 17 ∧ o13 = .int .i64 0 ∧ o14 = .bool false ∧ i = .int .i64 k ∧ (∀ y ∈ tapsS.take k, okT ls bn l os y = false) ∧ Below w7.heap.size w7 wr) (fun _ _ i _ => 17 - (intOf i).toNat)
        case atStart => exact ⟨0, by omega, rfl, rfl, rfl, by simp, Below.refl _ _⟩
        case round =>
          obtain ⟨k, hk, rfl, rfl, rfl, hno, hb7⟩ := hrel
          have HNO := Lib.hid hno
          have hbr : Below W2.heap.size W2 wr := hB2.trans (hb7.mono hB2.size)
          clear hno
          by_cases hlt : k < 17
          · obtain ⟨bt, ot, t, rfl, hx, c0⟩ := HC.out k hlt
            have c0 := cellb c0 hb7
            have HX := Lib.hid hx
            have a0 := cellb A0.out hbr
            have a6 := cellb A6.out hbr
            have d1 : (k : Int) < 17 := by omega
            have TT := Lib.hid (tapped_any _ ls bn t wr (HP.out.carry hbr) hl hbn)
            have htl : (tapL ls bn t).length = ls.length := by rw [tapL, List.length_set]
            have hok : okT ls bn l os t = (bif fltE (tapL ls bn t) == 0 then !(os.any (meetB (tapL ls bn t) l)) else false) := rfl
            clear hx
            generalize tapL ls bn t = lt at TT htl hok
            have HTL := Lib.hid htl
            clear htl
            go_upto_region 15 with fail
            go_wp2_with fail
            refine TT.out.mono ?_
            rintro e w8 ⟨⟨u8, rfl, hu8⟩, hb8⟩
            have TC := Lib.hid (fun (W : World) (hb : Below w8.heap.size w8 W) => CheckFilter_any u8 lt W (hu8.carry hb) (by rw [HTL.out]; exact hl))
            have HU8 := Lib.hid hu8
            obtain ⟨a8, c8, rfl, _, _⟩ := hu8
            replace hb7 := bthen hb7 hb8
            have a6 := cellb a6 hb8
            clear c0 a0 hb8 TT
            go_upto_region 16 with fail
            obtain ⟨W9, hW9⟩ : ∃ v, v = World.alloc w8 (Obj.cells #[.slice a8 lt.length c8] 34) := ⟨_, rfl⟩
            have kW9 : Below w8.heap.size w8 W9 := by rw [hW9]; exact below_new _ _
            have iW9 : Blk W9 (w8.heap.size) 34 [.slice a8 lt.length c8] := by rw [hW9]; exact Blk.new _ _ _
            have sW9 : W9.heap.size = w8.heap.size + 1 := by rw [hW9]; simp
            rw [← hW9]
            clear hW9
            have b0 := iW9.cell (j := 0) (v := .slice a8 lt.length c8) rfl
            have hP9 := HU8.out.carry kW9
            obtain ⟨B9, hB9⟩ : ∃ B, B = w8.heap.size := ⟨_, rfl⟩
            rw [← hB9] at b0 ⊢
            have a6 := cellb a6 kW9
            replace hb7 := bthen hb7 kW9
            have TC9 := Lib.hid (TC.out W9 kW9)
            clear TC HU8 kW9 iW9 sW9 hB9
            go_wp2_with fail
            refine TC9.out.mono ?_
            rintro e w10 ⟨rfl, hb10⟩
            have b0 := cellb b0 hb10
            have a6 := cellb a6 hb10
            have hP9 := hP9.carry hb10
            replace hb7 := bthen hb7 hb10
            clear hb10 TC9
            by_cases hf : fltE lt = 0
            · have hQ := HQ.out.carry (hB2.trans (hb7.mono hB2.size))
              have hO := HO.out.carry (hB2.trans (hb7.mono hB2.size))
              have TX := Lib.hid (ContainsFuncI_any 33 #[.pointer (some ⟨B9, 0, none⟩), .pointer (some ⟨w.heap.size + 1, 0, none⟩)] Tryz.enterAvoid1 (meetB lt l) _ os w10 (by omega) hO (fun h hm w1 hb1 => avoid1_any h _ _ lt l B9 _ w1 (hP9.carry hb1) (by rw [HTL.out]; exact hl) (hQ.carry hb1) hlu (fun ht => susOk_of hf (by have := HOS.out h hm; omega) ht) (cellb b0 hb1) (cellb a6 hb1)))
              have hz : (fltE lt == 0) = true := by rw [hf]; rfl
              rw [hz] at hok
              rw [hf]
              generalize os.any (meetB lt l) = an at TX hok
              have HOK := Lib.hid hok
              clear hok hf hz
              go_wp2_with fail
              refine TX.out.mono ?_
              rintro e w11 ⟨rfl, hb11⟩
              replace hb7 := bthen hb7 hb11
              clear hb11 TX hP9 hQ hO
              cases an
              · have hrt : r = (t, 0) := by
                  rw [HR2.out, avoT, find_some HX.out HNO.out (by rw [HOK.out]; rfl)]
                have HRT := Lib.hid hrt
                clear hrt
                have hbw : Below w.heap.size w w11 := hB.trans ((hB2.trans (hb7.mono hB2.size)).mono (by omega))
                go_wp2_with fail
                refine (whenH_any false 18 w11).mono ?_
                rintro e w' ⟨rfl, rfl⟩
                go_wp2_with fail
                rw [Exit.noGoto_ret]
                go_ret2
                exact ⟨by rw [HRT.out]; rfl, hbw⟩
              · have hno2 : ∀ y ∈ tapsS.take (k + 1), okT ls bn l os y = false := mem_take_succ HX.out HNO.out (by rw [HOK.out]; rfl)
                have HNO2 := Lib.hid hno2
                clear hno2
                go_wp2
                go_roundw
                case rel => exact ⟨k + 1, by omega, rfl, rfl, by go_num, HNO2.out, hb7⟩
                case measure => simp [intOf]; omega
            · have hz : (fltE lt == 0) = false := by rw [beq_eq_false_iff_ne]; exact hf
              rw [hz] at hok
              have hno2 : ∀ y ∈ tapsS.take (k + 1), okT ls bn l os y = false := mem_take_succ HX.out HNO.out (by rw [hok]; rfl)
              have HNO2 := Lib.hid hno2
              generalize fltE lt = ef at hf hz
              clear hno2 hok
              go_wp2
              go_roundw
              case rel => exact ⟨k + 1, by omega, rfl, rfl, by go_num, HNO2.out, hb7⟩
              case measure => simp [intOf]; omega
          · obtain rfl : k = 17 := by omega
            have hrt : r = (0, 18) := by
              rw [HR2.out, avoT]
              have : tapsS.find? (okT ls bn l os) = none := List.find?_eq_none.2 (fun y hy => by rw [HNO.out y hy]; simp)
              rw [this]
            have HRT := Lib.hid hrt
            clear hrt
            have hbw : Below w.heap.size w wr := hB.trans (hbr.mono (by omega))
            go_wp2_with fail
            refine (whenH_any true 18 wr).mono ?_
            rintro e w' ⟨rfl, rfl⟩
            go_wp2_with fail
            rw [Exit.noGoto_ret]
            go_ret2
            exact ⟨by rw [HRT.out]; rfl, hbw⟩
  · have z : (E == 0) = false := by rw [beq_eq_false_iff_ne]; exact he
    have HNE := Lib.hid z
    have hB := hB.trans (hB2.mono (by omega))
    go_wp2_with fail
    rw [Exit.noGoto_ret]
    go_ret2
    exact ⟨by rw [HR.out, HNE.out]; rfl, hB⟩
end Go.Proofs.YtpkaoechbmbolaaGreatDoor

/- The reference's loops: Short, CheckLoop, Closed, Strength; the law's own 'given'. -/
import Derived.Test.YtfdehcphmmhjaaaGreatDoorRefT
import Derived.Test.YtfdehcphmmhjaaaGreatDoorRefV
namespace Go.Proofs.YtfdehcphmmhjaaaGreatDoor
open Go.RowKit

def shortL (a b c d : List Int) : Bool := decide (a.length ≤ 7 ∧ b.length ≤ 7 ∧ c.length ≤ 7 ∧ d.length ≤ 7)

set_option maxRecDepth 100000 in
set_option maxHeartbeats 1000000 in
theorem ShortR_any (va vb vc vd : Value) (a b c d : List Int) (w : World) (ha : Ints w va a) (hb : Ints w vb b) (hc : Ints w vc c) (hd : Ints w vd d) :
    Calls Tryz.prog 5 #[.agg #[va, vb, vc, vd]] w fun r w' => r = .returned (.bool (shortL a b c d)) ∧ Below w.heap.size w w' := by
  obtain ⟨xa, ca, rfl, _⟩ := id ha
  obtain ⟨xb, cb, rfl, _⟩ := id hb
  obtain ⟨xc, cc, rfl, _⟩ := id hc
  obtain ⟨xd, cd, rfl, _⟩ := id hd
  by_cases h0 : a.length ≤ 7
  · have d0 : (a.length : Int) ≤ 7 := by omega
    by_cases h1 : b.length ≤ 7
    · have d1 : (b.length : Int) ≤ 7 := by omega
      by_cases h2 : c.length ≤ 7
      · have d2 : (c.length : Int) ≤ 7 := by omega
        by_cases h3 : d.length ≤ 7
        · have d3 : (d.length : Int) ≤ 7 := by omega
          have hs : shortL a b c d = true := by unfold shortL; exact decide_eq_true (by omega)
          go_enter Tryz.func5, Tryz.ntmps5
          go_upto_region 1 with fail
          obtain ⟨W1, hW1⟩ : ∃ v, v = World.alloc w (Obj.cells #[.slice xa a.length ca, .slice xb b.length cb, .slice xc c.length cc, .slice xd d.length cd] 24) := ⟨_, rfl⟩
          have kW1 : Below w.heap.size w W1 := by rw [hW1]; exact below_new _ _
          have iW1 : Blk W1 (w.heap.size) 24 [.slice xa a.length ca, .slice xb b.length cb, .slice xc c.length cc, .slice xd d.length cd] := by rw [hW1]; exact Blk.new _ _ _
          have sW1 : W1.heap.size = w.heap.size + 1 := by rw [hW1]; simp
          rw [← hW1]
          clear hW1
          have e0 := iW1.cell (j := 0) (v := .slice xa a.length ca) rfl
          have e1 := iW1.cell (j := 1) (v := .slice xb b.length cb) rfl
          have e2 := iW1.cell (j := 2) (v := .slice xc c.length cc) rfl
          have e3 := iW1.cell (j := 3) (v := .slice xd d.length cd) rfl
          clear iW1 sW1
          go_wp2
          go_ret
          exact ⟨by first | rfl | (rw [hs]; rfl), kW1⟩
        · have d3 : ¬ (d.length : Int) ≤ 7 := by omega
          have hs : shortL a b c d = false := by unfold shortL; exact decide_eq_false (by omega)
          go_enter Tryz.func5, Tryz.ntmps5
          go_upto_region 1 with fail
          obtain ⟨W1, hW1⟩ : ∃ v, v = World.alloc w (Obj.cells #[.slice xa a.length ca, .slice xb b.length cb, .slice xc c.length cc, .slice xd d.length cd] 24) := ⟨_, rfl⟩
          have kW1 : Below w.heap.size w W1 := by rw [hW1]; exact below_new _ _
          have iW1 : Blk W1 (w.heap.size) 24 [.slice xa a.length ca, .slice xb b.length cb, .slice xc c.length cc, .slice xd d.length cd] := by rw [hW1]; exact Blk.new _ _ _
          have sW1 : W1.heap.size = w.heap.size + 1 := by rw [hW1]; simp
          rw [← hW1]
          clear hW1
          have e0 := iW1.cell (j := 0) (v := .slice xa a.length ca) rfl
          have e1 := iW1.cell (j := 1) (v := .slice xb b.length cb) rfl
          have e2 := iW1.cell (j := 2) (v := .slice xc c.length cc) rfl
          have e3 := iW1.cell (j := 3) (v := .slice xd d.length cd) rfl
          clear iW1 sW1
          go_wp2
          go_ret
          exact ⟨by first | rfl | (rw [hs]; rfl), kW1⟩
      · have d2 : ¬ (c.length : Int) ≤ 7 := by omega
        have hs : shortL a b c d = false := by unfold shortL; exact decide_eq_false (by omega)
        go_enter Tryz.func5, Tryz.ntmps5
        go_upto_region 1 with fail
        obtain ⟨W1, hW1⟩ : ∃ v, v = World.alloc w (Obj.cells #[.slice xa a.length ca, .slice xb b.length cb, .slice xc c.length cc, .slice xd d.length cd] 24) := ⟨_, rfl⟩
        have kW1 : Below w.heap.size w W1 := by rw [hW1]; exact below_new _ _
        have iW1 : Blk W1 (w.heap.size) 24 [.slice xa a.length ca, .slice xb b.length cb, .slice xc c.length cc, .slice xd d.length cd] := by rw [hW1]; exact Blk.new _ _ _
        have sW1 : W1.heap.size = w.heap.size + 1 := by rw [hW1]; simp
        rw [← hW1]
        clear hW1
        have e0 := iW1.cell (j := 0) (v := .slice xa a.length ca) rfl
        have e1 := iW1.cell (j := 1) (v := .slice xb b.length cb) rfl
        have e2 := iW1.cell (j := 2) (v := .slice xc c.length cc) rfl
        have e3 := iW1.cell (j := 3) (v := .slice xd d.length cd) rfl
        clear iW1 sW1
        go_wp2
        go_ret
        exact ⟨by first | rfl | (rw [hs]; rfl), kW1⟩
    · have d1 : ¬ (b.length : Int) ≤ 7 := by omega
      have hs : shortL a b c d = false := by unfold shortL; exact decide_eq_false (by omega)
      go_enter Tryz.func5, Tryz.ntmps5
      go_upto_region 1 with fail
      obtain ⟨W1, hW1⟩ : ∃ v, v = World.alloc w (Obj.cells #[.slice xa a.length ca, .slice xb b.length cb, .slice xc c.length cc, .slice xd d.length cd] 24) := ⟨_, rfl⟩
      have kW1 : Below w.heap.size w W1 := by rw [hW1]; exact below_new _ _
      have iW1 : Blk W1 (w.heap.size) 24 [.slice xa a.length ca, .slice xb b.length cb, .slice xc c.length cc, .slice xd d.length cd] := by rw [hW1]; exact Blk.new _ _ _
      have sW1 : W1.heap.size = w.heap.size + 1 := by rw [hW1]; simp
      rw [← hW1]
      clear hW1
      have e0 := iW1.cell (j := 0) (v := .slice xa a.length ca) rfl
      have e1 := iW1.cell (j := 1) (v := .slice xb b.length cb) rfl
      have e2 := iW1.cell (j := 2) (v := .slice xc c.length cc) rfl
      have e3 := iW1.cell (j := 3) (v := .slice xd d.length cd) rfl
      clear iW1 sW1
      go_wp2
      go_ret
      exact ⟨by first | rfl | (rw [hs]; rfl), kW1⟩
  · have d0 : ¬ (a.length : Int) ≤ 7 := by omega
    have hs : shortL a b c d = false := by unfold shortL; exact decide_eq_false (by omega)
    go_enter Tryz.func5, Tryz.ntmps5
    go_upto_region 1 with fail
    obtain ⟨W1, hW1⟩ : ∃ v, v = World.alloc w (Obj.cells #[.slice xa a.length ca, .slice xb b.length cb, .slice xc c.length cc, .slice xd d.length cd] 24) := ⟨_, rfl⟩
    have kW1 : Below w.heap.size w W1 := by rw [hW1]; exact below_new _ _
    have iW1 : Blk W1 (w.heap.size) 24 [.slice xa a.length ca, .slice xb b.length cb, .slice xc c.length cc, .slice xd d.length cd] := by rw [hW1]; exact Blk.new _ _ _
    have sW1 : W1.heap.size = w.heap.size + 1 := by rw [hW1]; simp
    rw [← hW1]
    clear hW1
    have e0 := iW1.cell (j := 0) (v := .slice xa a.length ca) rfl
    have e1 := iW1.cell (j := 1) (v := .slice xb b.length cb) rfl
    have e2 := iW1.cell (j := 2) (v := .slice xc c.length cc) rfl
    have e3 := iW1.cell (j := 3) (v := .slice xd d.length cd) rfl
    clear iW1 sW1
    go_wp2
    go_ret
    exact ⟨by first | rfl | (rw [hs]; rfl), kW1⟩

/-- a value that is no integer. -/
def NoInt (v : Value) : Prop := ∀ x, v ≠ .int .i64 x
theorem NoInt.slice (a : Option Addr) (n m : Nat) : NoInt (.slice a n m) := fun _ h => by cases h
theorem Ints.noInt {w : World} {v : Value} {l : List Int} (h : Ints w v l) : NoInt v := by obtain ⟨a, c, rfl, _⟩ := h; exact NoInt.slice _ _ _
/-- what is stored into a block that holds no integers changes no list of integers. -/
theorem Ints.setNo {w : World} {u : Value} {l : List Int} {B j : Nat} {T : TypeId} {vs : List Value} (h : Ints w u l) (hb : Blk w B T vs) (hn : ∀ v ∈ vs, NoInt v) (v : Value) : Ints (w.setCell ⟨B, j, none⟩ v) u l := by
  obtain ⟨a, cap, rfl, hc, hv⟩ := h
  refine ⟨a, cap, rfl, hc, fun h0 => ?_⟩
  obtain ⟨b, off, rfl, hcs⟩ := hv h0
  refine ⟨b, off, rfl, fun k hk => ?_⟩
  have hk' := hcs k hk
  have hne : b ≠ B := by
    rintro rfl
    rcases Nat.lt_or_ge (off + k) vs.length with h1 | h1
    · rw [hb.cell (List.getElem?_eq_getElem h1)] at hk'
      exact hn _ (List.getElem_mem h1) _ (Option.some.inj hk')
    · have : (vs.toArray)[off + k]? = none := by simp; omega
      simp [World.cell?, show w.heap[b]? = _ from hb] at hk'
      rw [List.getElem?_eq_none (by omega)] at hk'
      cases hk'
  have e := Below.heap_setCell w ⟨B, j, none⟩ v b hne
  unfold World.cell? at hk' ⊢
  rw [e]; exact hk'
theorem Ints.set4 {w : World} {u s0 s1 s2 s3 v0 v1 v2 v3 : Value} {l : List Int} {B : Nat} {T : TypeId} (h : Ints w u l) (hb : Blk w B T [s0, s1, s2, s3]) (hs : NoInt s0 ∧ NoInt s1 ∧ NoInt s2 ∧ NoInt s3) (hv : NoInt v0 ∧ NoInt v1 ∧ NoInt v2) :
    Ints ((((w.setCell ⟨B, 0, none⟩ v0).setCell ⟨B, 1, none⟩ v1).setCell ⟨B, 2, none⟩ v2).setCell ⟨B, 3, none⟩ v3) u l := by
  obtain ⟨a0, a1, a2, a3⟩ := hs
  obtain ⟨b0, b1, b2⟩ := hv
  have h1 := h.setNo (j := 0) hb (by simp; exact ⟨a0, a1, a2, a3⟩) v0
  have k1 := hb.set 0 v0
  have h2 := h1.setNo (j := 1) k1 (by simp; exact ⟨b0, a1, a2, a3⟩) v1
  have k2 := k1.set 1 v1
  have h3 := h2.setNo (j := 2) k2 (by simp; exact ⟨b0, b1, a2, a3⟩) v2
  have k3 := k2.set 2 v2
  exact h3.setNo (j := 3) k3 (by simp; exact ⟨b0, b1, b2, a3⟩) v3
theorem Blk.set4 {w : World} {B : Nat} {T : TypeId} {s0 s1 s2 s3 : Value} (h : Blk w B T [s0, s1, s2, s3]) (v0 v1 v2 v3 : Value) :
    Blk ((((w.setCell ⟨B, 0, none⟩ v0).setCell ⟨B, 1, none⟩ v1).setCell ⟨B, 2, none⟩ v2).setCell ⟨B, 3, none⟩ v3) B T [v0, v1, v2, v3] := (((h.set 0 v0).set 1 v1).set 2 v2).set 3 v3

/-- four lists of integers in a struct. -/
def LoopIs (w : World) (a b c d : List Int) (u : Value) : Prop := ∃ va vb vc vd, u = .agg #[va, vb, vc, vd] ∧ Ints w va a ∧ Ints w vb b ∧ Ints w vc c ∧ Ints w vd d
theorem LoopIs.carry {w w' : World} {a b c d : List Int} {u : Value} (h : LoopIs w a b c d u) (hb : Below w.heap.size w w') : LoopIs w' a b c d u := by
  obtain ⟨va, vb, vc, vd, e, h1, h2, h3, h4⟩ := h
  exact ⟨va, vb, vc, vd, e, h1.carry hb, h2.carry hb, h3.carry hb, h4.carry hb⟩

set_option maxRecDepth 100000 in
set_option maxHeartbeats 8000000 in
theorem given_any (va vb vc vd : Value) (a b c d : List Int) (w : World) (ha : Ints w va a) (hb : Ints w vb b) (hc : Ints w vc c) (hd : Ints w vd d)
    (ha2 : a.length ≤ 100000) (hb2 : b.length ≤ 100000) (hc2 : c.length ≤ 100000) (hd2 : d.length ≤ 100000) :
    Calls Tryz.prog 8 #[.agg #[va, vb, vc, vd]] w fun r w' => (∃ u, r = .returned u ∧ LoopIs w' a b c d u) ∧ Below w.heap.size w w' := by
  have HA := Lib.hid ha
  have HB := Lib.hid hb
  have HC := Lib.hid hc
  have HD := Lib.hid hd
  obtain ⟨xa, ca, rfl, _⟩ := id ha
  obtain ⟨xb, cb, rfl, _⟩ := id hb
  obtain ⟨xc, cc, rfl, _⟩ := id hc
  obtain ⟨xd, cd, rfl, _⟩ := id hd
  clear ha hb hc hd
  go_enter Tryz.func8, Tryz.ntmps8
  go_upto_region 1 with fail
  obtain ⟨W1, hW1⟩ : ∃ v, v = World.alloc w (Obj.cells #[.slice xa a.length ca, .slice xb b.length cb, .slice xc c.length cc, .slice xd d.length cd] 24) := ⟨_, rfl⟩
  have kW1 : Below w.heap.size w W1 := by rw [hW1]; exact below_new _ _
  have iW1 : Blk W1 (w.heap.size) 24 [.slice xa a.length ca, .slice xb b.length cb, .slice xc c.length cc, .slice xd d.length cd] := by rw [hW1]; exact Blk.new _ _ _
  have sW1 : W1.heap.size = w.heap.size + 1 := by rw [hW1]; simp
  rw [← hW1]
  clear hW1
  obtain ⟨W2, hW2⟩ : ∃ v, v = World.alloc W1 (Obj.cells #[.slice none 0 0, .slice none 0 0, .slice none 0 0, .slice none 0 0] 32) := ⟨_, rfl⟩
  have kW2 : Below W1.heap.size W1 W2 := by rw [hW2]; exact below_new _ _
  have iW2 : Blk W2 (w.heap.size + 1) 32 [.slice none 0 0, .slice none 0 0, .slice none 0 0, .slice none 0 0] := by rw [hW2, ← sW1]; exact Blk.new _ _ _
  have sW2 : W2.heap.size = w.heap.size + 1 + 1 := by rw [hW2]; simp [sW1]
  rw [← hW2]
  clear hW2
  clear sW2 sW1
  have hB := bthen kW1 kW2
  have iB := iW1.carry kW2
  have iR := iW2
  clear iW1 iW2 kW1 kW2
  refine wp_region_held_drew (S := (fun w' => w'.cell? ⟨w.heap.size, 0, none⟩ = some (.slice xa a.length ca) ∧ w'.cell? ⟨w.heap.size, 1, none⟩ = some (.slice xb b.length cb) ∧ w'.cell? ⟨w.heap.size, 2, none⟩ = some (.slice xc c.length cc) ∧ w'.cell? ⟨w.heap.size, 3, none⟩ = some (.slice xd d.length cd))) (by kernel_rfl) ⟨iB.cell (j := 0) (v := .slice xa a.length ca) rfl, iB.cell (j := 1) (v := .slice xb b.length cb) rfl, iB.cell (j := 2) (v := .slice xc c.length cc) rfl, iB.cell (j := 3) (v := .slice xd d.length cd) rfl⟩ (fun hHeld0 => ?_)
  obtain ⟨wzd, hwz⟩ : ∃ v, v = W2.drew := ⟨_, rfl⟩
  rw [← hwz] at hHeld0 ⊢
  have hbzd : Below w.heap.size w wzd := by rw [hwz]; exact hB.drew
  have hlzd : Below W2.heap.size W2 wzd := by rw [hwz]; exact (Below.refl _ _).drew
  have iB := iB.carry hlzd
  have iR := iR.carry hlzd
  clear hwz hlzd
  refine wpAnyH_take (i := 0) (oi := { dst := some 3, op := Op.fieldAddr 24 (Operand.tmp 1) 0, type := 0, pos := "law.go:67", after := #[], guard := none }) (v := ?_) rfl (by kernel_rfl) (by kernel_rfl) (by kernel_rfl) (fun _ _ _ h => h) (Or.inl ⟨by rfl, ?_⟩) (by assumption) ?_
  rotate_left
  · (intro w hSw; (try dsimp only at hSw); go_simp); (try with_reducible rfl)
  try simp only [Act.put, List.setIfInBounds_toArray, List.set_cons_zero, List.set_cons_succ]
  refine wpAnyH_take (i := 1) (oi := { dst := some 4, op := Op.load 22 (Operand.tmp 3), type := 22, pos := "law.go:67", after := #[{ on := 0, ground := Ground.data }], guard := none }) (v := ?_) rfl (by kernel_rfl) (by kernel_rfl) (by kernel_rfl) (fun _ _ _ h => h) (Or.inl ⟨by rfl, ?_⟩) (by assumption) ?_
  rotate_left
  · (intro w hSw; (try dsimp only at hSw); go_simp); (try with_reducible rfl)
  try simp only [Act.put, List.setIfInBounds_toArray, List.set_cons_zero, List.set_cons_succ]
  refine wpAnyH_take (i := 3) (oi := { dst := some 6, op := Op.fieldAddr 24 (Operand.tmp 1) 1, type := 0, pos := "law.go:67", after := #[], guard := none }) (v := ?_) rfl (by kernel_rfl) (by kernel_rfl) (by kernel_rfl) (fun _ _ _ h => h) (Or.inl ⟨by rfl, ?_⟩) (by assumption) ?_
  rotate_left
  · (intro w hSw; (try dsimp only at hSw); go_simp); (try with_reducible rfl)
  try simp only [Act.put, List.setIfInBounds_toArray, List.set_cons_zero, List.set_cons_succ]
  refine wpAnyH_take (i := 4) (oi := { dst := some 7, op := Op.load 22 (Operand.tmp 6), type := 22, pos := "law.go:67", after := #[{ on := 3, ground := Ground.data }], guard := none }) (v := ?_) rfl (by kernel_rfl) (by kernel_rfl) (by kernel_rfl) (fun _ _ _ h => h) (Or.inl ⟨by rfl, ?_⟩) (by assumption) ?_
  rotate_left
  · (intro w hSw; (try dsimp only at hSw); go_simp); (try with_reducible rfl)
  try simp only [Act.put, List.setIfInBounds_toArray, List.set_cons_zero, List.set_cons_succ]
  refine wpAnyH_take (i := 6) (oi := { dst := some 9, op := Op.fieldAddr 24 (Operand.tmp 1) 2, type := 0, pos := "law.go:67", after := #[], guard := none }) (v := ?_) rfl (by kernel_rfl) (by kernel_rfl) (by kernel_rfl) (fun _ _ _ h => h) (Or.inl ⟨by rfl, ?_⟩) (by assumption) ?_
  rotate_left
  · (intro w hSw; (try dsimp only at hSw); go_simp); (try with_reducible rfl)
  try simp only [Act.put, List.setIfInBounds_toArray, List.set_cons_zero, List.set_cons_succ]
  refine wpAnyH_take (i := 7) (oi := { dst := some 10, op := Op.load 22 (Operand.tmp 9), type := 22, pos := "law.go:67", after := #[{ on := 6, ground := Ground.data }], guard := none }) (v := ?_) rfl (by kernel_rfl) (by kernel_rfl) (by kernel_rfl) (fun _ _ _ h => h) (Or.inl ⟨by rfl, ?_⟩) (by assumption) ?_
  rotate_left
  · (intro w hSw; (try dsimp only at hSw); go_simp); (try with_reducible rfl)
  try simp only [Act.put, List.setIfInBounds_toArray, List.set_cons_zero, List.set_cons_succ]
  refine wpAnyH_take (i := 9) (oi := { dst := some 12, op := Op.fieldAddr 24 (Operand.tmp 1) 3, type := 0, pos := "law.go:67", after := #[], guard := none }) (v := ?_) rfl (by kernel_rfl) (by kernel_rfl) (by kernel_rfl) (fun _ _ _ h => h) (Or.inl ⟨by rfl, ?_⟩) (by assumption) ?_
  rotate_left
  · (intro w hSw; (try dsimp only at hSw); go_simp); (try with_reducible rfl)
  try simp only [Act.put, List.setIfInBounds_toArray, List.set_cons_zero, List.set_cons_succ]
  refine wpAnyH_take (i := 10) (oi := { dst := some 13, op := Op.load 22 (Operand.tmp 12), type := 22, pos := "law.go:67", after := #[{ on := 9, ground := Ground.data }], guard := none }) (v := ?_) rfl (by kernel_rfl) (by kernel_rfl) (by kernel_rfl) (fun _ _ _ h => h) (Or.inl ⟨by rfl, ?_⟩) (by assumption) ?_
  rotate_left
  · (intro w hSw; (try dsimp only at hSw); go_simp); (try with_reducible rfl)
  try simp only [Act.put, List.setIfInBounds_toArray, List.set_cons_zero, List.set_cons_succ]
  refine wpAnyH_ready (rs := [2]) (by kernel_rfl) (by simp) ?_
  refine (AllReadyH.cons (o := { dst := some 5, op := Op.call { callee := Callee.value (Operand.func 39), args := #[Operand.tmp 4], argTypes := #[22] }, type := 30, pos := "law.go:67", after := #[{ on := 1, ground := Ground.data }], guard := none }) rfl (fun K hK => ?_) AllReadyH.nil)
  go_simp
  refine (polyL_any _ a wzd (HA.out.carry hbzd) (by omega)).mono ?_
  rintro e wz2 ⟨⟨ua, rfl, hua⟩, hl⟩
  obtain ⟨ya, za, rfl, _⟩ := id hua
  (try go_wp2_with fail)
  have hbz2 := bthen hbzd hl
  have iB := iB.carry hl
  have iR := iR.carry hl
  clear hl
  refine hK.out _ _ ⟨iB.cell (j := 0) (v := .slice xa a.length ca) rfl, iB.cell (j := 1) (v := .slice xb b.length cb) rfl, iB.cell (j := 2) (v := .slice xc c.length cc) rfl, iB.cell (j := 3) (v := .slice xd d.length cd) rfl⟩ (fun hHeld1 => ?_)
  clear hK K hHeld0
  try simp only [Act.put, List.setIfInBounds_toArray, List.set_cons_zero, List.set_cons_succ]
  refine wpAnyH_ready (rs := [5]) (by kernel_rfl) (by simp) ?_
  refine (AllReadyH.cons (o := { dst := some 8, op := Op.call { callee := Callee.value (Operand.func 39), args := #[Operand.tmp 7], argTypes := #[22] }, type := 30, pos := "law.go:67", after := #[{ on := 4, ground := Ground.data }, { on := 2, ground := Ground.chain }], guard := none }) rfl (fun K hK => ?_) AllReadyH.nil)
  go_simp
  refine (polyL_any _ b wz2 (HB.out.carry hbz2) (by omega)).mono ?_
  rintro e wz5 ⟨⟨ub, rfl, hub⟩, hl⟩
  obtain ⟨yb, zb, rfl, _⟩ := id hub
  (try go_wp2_with fail)
  have hbz5 := bthen hbz2 hl
  have iB := iB.carry hl
  have iR := iR.carry hl
  have hua := hua.carry hl
  clear hl
  refine hK.out _ _ ⟨iB.cell (j := 0) (v := .slice xa a.length ca) rfl, iB.cell (j := 1) (v := .slice xb b.length cb) rfl, iB.cell (j := 2) (v := .slice xc c.length cc) rfl, iB.cell (j := 3) (v := .slice xd d.length cd) rfl⟩ (fun hHeld2 => ?_)
  clear hK K hHeld1
  try simp only [Act.put, List.setIfInBounds_toArray, List.set_cons_zero, List.set_cons_succ]
  refine wpAnyH_ready (rs := [8]) (by kernel_rfl) (by simp) ?_
  refine (AllReadyH.cons (o := { dst := some 11, op := Op.call { callee := Callee.value (Operand.func 39), args := #[Operand.tmp 10], argTypes := #[22] }, type := 30, pos := "law.go:67", after := #[{ on := 7, ground := Ground.data }, { on := 5, ground := Ground.chain }], guard := none }) rfl (fun K hK => ?_) AllReadyH.nil)
  go_simp
  refine (polyL_any _ c wz5 (HC.out.carry hbz5) (by omega)).mono ?_
  rintro e wz8 ⟨⟨uc, rfl, huc⟩, hl⟩
  obtain ⟨yc, zc, rfl, _⟩ := id huc
  (try go_wp2_with fail)
  have hbz8 := bthen hbz5 hl
  have iB := iB.carry hl
  have iR := iR.carry hl
  have hua := hua.carry hl
  have hub := hub.carry hl
  clear hl
  refine hK.out _ _ ⟨iB.cell (j := 0) (v := .slice xa a.length ca) rfl, iB.cell (j := 1) (v := .slice xb b.length cb) rfl, iB.cell (j := 2) (v := .slice xc c.length cc) rfl, iB.cell (j := 3) (v := .slice xd d.length cd) rfl⟩ (fun hHeld3 => ?_)
  clear hK K hHeld2
  try simp only [Act.put, List.setIfInBounds_toArray, List.set_cons_zero, List.set_cons_succ]
  refine wpAnyH_ready (rs := [11]) (by kernel_rfl) (by simp) ?_
  refine (AllReadyH.cons (o := { dst := some 14, op := Op.call { callee := Callee.value (Operand.func 39), args := #[Operand.tmp 13], argTypes := #[22] }, type := 30, pos := "law.go:67", after := #[{ on := 10, ground := Ground.data }, { on := 8, ground := Ground.chain }], guard := none }) rfl (fun K hK => ?_) AllReadyH.nil)
  go_simp
  refine (polyL_any _ d wz8 (HD.out.carry hbz8) (by omega)).mono ?_
  rintro e wz11 ⟨⟨ud, rfl, hud⟩, hl⟩
  obtain ⟨yd, zd, rfl, _⟩ := id hud
  (try go_wp2_with fail)
  have hbz11 := bthen hbz8 hl
  have iB := iB.carry hl
  have iR := iR.carry hl
  have hua := hua.carry hl
  have hub := hub.carry hl
  have huc := huc.carry hl
  clear hl
  refine hK.out _ _ ⟨iB.cell (j := 0) (v := .slice xa a.length ca) rfl, iB.cell (j := 1) (v := .slice xb b.length cb) rfl, iB.cell (j := 2) (v := .slice xc c.length cc) rfl, iB.cell (j := 3) (v := .slice xd d.length cd) rfl⟩ (fun hHeld4 => ?_)
  clear hK K hHeld3
  try simp only [Act.put, List.setIfInBounds_toArray, List.set_cons_zero, List.set_cons_succ]
  refine wpAnyH_take (i := 12) (oi := { dst := some 15, op := Op.build 32 #[(0, Operand.tmp 5), (1, Operand.tmp 8), (2, Operand.tmp 11), (3, Operand.tmp 14)], type := 32, pos := "law.go:67", after := #[{ on := 2, ground := Ground.data }, { on := 5, ground := Ground.data }, { on := 8, ground := Ground.data }, { on := 11, ground := Ground.data }], guard := none }) (v := ?_) rfl (by kernel_rfl) (by kernel_rfl) (by kernel_rfl) (fun _ _ _ h => h) (Or.inl ⟨by rfl, ?_⟩) (by assumption) ?_
  rotate_left
  · (intro w hSw; (try dsimp only at hSw); go_simp); (try with_reducible rfl)
  try simp only [Act.put, List.setIfInBounds_toArray, List.set_cons_zero, List.set_cons_succ]
  refine wpAnyH_ready (rs := [13]) (by kernel_rfl) (by simp) ?_
  refine (AllReadyH.cons (o := { dst := none, op := Op.store 32 (Operand.tmp 2) (Operand.tmp 15), type := 0, pos := "law.go:67", after := #[{ on := 12, ground := Ground.data }, { on := 11, ground := Ground.chain }, { on := 0, ground := Ground.phase }, { on := 1, ground := Ground.phase }, { on := 2, ground := Ground.phase }, { on := 3, ground := Ground.phase }, { on := 4, ground := Ground.phase }, { on := 5, ground := Ground.phase }, { on := 6, ground := Ground.phase }, { on := 7, ground := Ground.phase }, { on := 8, ground := Ground.phase }, { on := 9, ground := Ground.phase }, { on := 10, ground := Ground.phase }, { on := 11, ground := Ground.phase }, { on := 12, ground := Ground.phase }], guard := none }) rfl (fun K hK => ?_) AllReadyH.nil)
  have q0 := iR.cell (j := 0) (v := .slice none 0 0) rfl
  have f0 := iR.frozen 0
  have q1 := iR.cell (j := 1) (v := .slice none 0 0) rfl
  have f1 := iR.frozen 1
  have q2 := iR.cell (j := 2) (v := .slice none 0 0) rfl
  have f2 := iR.frozen 2
  have q3 := iR.cell (j := 3) (v := .slice none 0 0) rfl
  have f3 := iR.frozen 3
  go_simp
  obtain ⟨wz13, hwz⟩ : ∃ v, v = (((wz11.setCell ⟨w.heap.size + 1, 0, none⟩ (.slice ya a.length za)).setCell ⟨w.heap.size + 1, 1, none⟩ (.slice yb b.length zb)).setCell ⟨w.heap.size + 1, 2, none⟩ (.slice yc c.length zc)).setCell ⟨w.heap.size + 1, 3, none⟩ (.slice yd d.length zd) := ⟨_, rfl⟩
  rw [← hwz]
  have hbz13 : Below w.heap.size w wz13 := by rw [hwz]; exact ((((hbz11).setCell (by simp) _).setCell (by simp) _).setCell (by simp) _).setCell (by simp) _
  have ns := NoInt.slice none 0 0
  have ka := hua.set4 (v3 := (.slice yd d.length zd)) iR ⟨ns, ns, ns, ns⟩ ⟨hua.noInt, hub.noInt, huc.noInt⟩
  have kb := hub.set4 (v3 := (.slice yd d.length zd)) iR ⟨ns, ns, ns, ns⟩ ⟨hua.noInt, hub.noInt, huc.noInt⟩
  have kc := huc.set4 (v3 := (.slice yd d.length zd)) iR ⟨ns, ns, ns, ns⟩ ⟨hua.noInt, hub.noInt, huc.noInt⟩
  have kd := hud.set4 (v3 := (.slice yd d.length zd)) iR ⟨ns, ns, ns, ns⟩ ⟨hua.noInt, hub.noInt, huc.noInt⟩
  have iR := iR.set4 (.slice ya a.length za) (.slice yb b.length zb) (.slice yc c.length zc) (.slice yd d.length zd)
  rw [← hwz] at iR ka kb kc kd
  have iB := (((iB.other (j := 0) (B' := w.heap.size + 1) (by omega) (.slice ya a.length za)).other (j := 1) (B' := w.heap.size + 1) (by omega) (.slice yb b.length zb)).other (j := 2) (B' := w.heap.size + 1) (by omega) (.slice yc c.length zc)).other (j := 3) (B' := w.heap.size + 1) (by omega) (.slice yd d.length zd)
  rw [← hwz] at iB
  clear q0 q1 q2 q3 f0 f1 f2 f3
  clear hwz
  refine hK.out _ _ ⟨iB.cell (j := 0) (v := .slice xa a.length ca) rfl, iB.cell (j := 1) (v := .slice xb b.length cb) rfl, iB.cell (j := 2) (v := .slice xc c.length cc) rfl, iB.cell (j := 3) (v := .slice xd d.length cd) rfl⟩ (fun hHeld5 => ?_)
  clear hK K hHeld4
  try simp only [Act.put, List.setIfInBounds_toArray, List.set_cons_zero, List.set_cons_succ]
  refine wpAnyH_done (by kernel_rfl) ?_ _
  clear hHeld5
  have y0 := iR.cell (j := 0) (v := (.slice ya a.length za)) rfl
  have y1 := iR.cell (j := 1) (v := (.slice yb b.length zb)) rfl
  have y2 := iR.cell (j := 2) (v := (.slice yc c.length zc)) rfl
  have y3 := iR.cell (j := 3) (v := (.slice yd d.length zd)) rfl
  go_wp2_with fail
  exact bodyPost_ret (v := .agg #[(.slice ya a.length za), (.slice yb b.length zb), (.slice yc c.length zc), (.slice yd d.length zd)]) (by simp [results, Tryz.f8, go_sem, y0, y1, y2, y3]) rfl ⟨⟨_, rfl, _, _, _, _, rfl, ka, kb, kc, kd⟩, hbz13⟩

theorem InI.tInner (q : List Int) (i : Nat) (x : Int) {out : List Int} (h : InI out) (k : Nat) : InI (tInner q i x out k) := by
  induction k with
  | zero => exact h
  | succ k ih =>
    intro y hy
    rw [Go.Proofs.YtfdehcphmmhjaaaGreatDoor.tInner] at hy
    rcases List.mem_or_eq_of_mem_set hy with hy | rfl
    · exact ih y hy
    · unfold wrap64; omega
theorem InI.timesW (p q : List Int) : InI (timesW p q) := by
  unfold Go.Proofs.YtfdehcphmmhjaaaGreatDoor.timesW
  have : ∀ k, InI (tOuter p q (List.replicate (p.length + q.length - 1) 0) k) := fun k => by
    induction k with
    | zero => intro y hy; rw [tOuter] at hy; obtain ⟨_, rfl⟩ := List.mem_replicate.1 hy; decide
    | succ k ih => rw [tOuter]; exact InI.tInner _ _ _ ih _
  exact this _

set_option maxRecDepth 100000 in
set_option maxHeartbeats 4000000 in
theorem ClosedR_any (va vb vc vd vn : Value) (a b c d n : List Int) (w : World) (ha : Ints w va a) (hb : Ints w vb b) (hc : Ints w vc c) (hd : Ints w vd d) (hn : Ints w vn n)
    (hb1 : 1 ≤ b.length) (hc1 : 1 ≤ c.length) (hd1 : 1 ≤ d.length) (hn1 : 1 ≤ n.length) (hb2 : b.length ≤ 100000) (hc2 : c.length ≤ 100000) (hd2 : d.length ≤ 100000) (hn2 : n.length ≤ 100000) :
    Calls Tryz.prog 50 #[.agg #[va, vb, vc, vd], vn] w (GivesInts w (closedW n b c d)) := by
  have HB := Lib.hid hb
  have HC := Lib.hid hc
  have HD := Lib.hid hd
  have HN := Lib.hid hn
  obtain ⟨xa, ca, rfl, _⟩ := id ha
  obtain ⟨xb, cb, rfl, _⟩ := id hb
  obtain ⟨xc, cc, rfl, _⟩ := id hc
  obtain ⟨xd, cd, rfl, _⟩ := id hd
  obtain ⟨xn, cn, rfl, _⟩ := id hn
  clear ha hb hc hd hn
  have lb := timesW_length b d
  have ln := timesW_length n c
  go_enter Tryz.func50, Tryz.ntmps50
  go_upto_region 1 with fail
  obtain ⟨W1, hW1⟩ : ∃ v, v = World.alloc w (Obj.cells #[.slice xa a.length ca, .slice xb b.length cb, .slice xc c.length cc, .slice xd d.length cd] 24) := ⟨_, rfl⟩
  have kW1 : Below w.heap.size w W1 := by rw [hW1]; exact below_new _ _
  have iW1 : Blk W1 (w.heap.size) 24 [.slice xa a.length ca, .slice xb b.length cb, .slice xc c.length cc, .slice xd d.length cd] := by rw [hW1]; exact Blk.new _ _ _
  have sW1 : W1.heap.size = w.heap.size + 1 := by rw [hW1]; simp
  rw [← hW1]
  clear hW1
  clear sW1
  have e1 := iW1.cell (j := 1) (v := .slice xb b.length cb) rfl
  have e2 := iW1.cell (j := 2) (v := .slice xc c.length cc) rfl
  have e3 := iW1.cell (j := 3) (v := .slice xd d.length cd) rfl
  refine wp_region_held_drew (S := (fun w' => w'.cell? ⟨w.heap.size, 1, none⟩ = some (.slice xb b.length cb) ∧ w'.cell? ⟨w.heap.size, 2, none⟩ = some (.slice xc c.length cc) ∧ w'.cell? ⟨w.heap.size, 3, none⟩ = some (.slice xd d.length cd))) (by kernel_rfl) ⟨cellb e1 (Below.refl _ _).drew, cellb e2 (Below.refl _ _).drew, cellb e3 (Below.refl _ _).drew⟩ (fun hHeld0 => ?_)
  obtain ⟨wzd, hwz⟩ : ∃ v, v = W1.drew := ⟨_, rfl⟩
  rw [← hwz] at hHeld0 ⊢
  have hbzd : Below W1.heap.size W1 wzd := by rw [hwz]; exact (Below.refl _ _).drew
  have hlzd : Below W1.heap.size W1 wzd := by rw [hwz]; exact (Below.refl _ _).drew
  clear hwz hlzd
  refine wpAnyH_take (i := 0) (oi := { dst := some 5, op := Op.fieldAddr 24 (Operand.tmp 2) 1, type := 0, pos := "ref.go:154", after := #[], guard := none }) (v := ?_) rfl (by kernel_rfl) (by kernel_rfl) (by kernel_rfl) (fun _ _ _ h => h) (Or.inl ⟨by rfl, ?_⟩) (by assumption) ?_
  rotate_left
  · (intro w hSw; (try dsimp only at hSw); go_simp); (try with_reducible rfl)
  try simp only [Act.put, List.setIfInBounds_toArray, List.set_cons_zero, List.set_cons_succ]
  refine wpAnyH_take (i := 1) (oi := { dst := some 6, op := Op.load 22 (Operand.tmp 5), type := 22, pos := "ref.go:154", after := #[{ on := 0, ground := Ground.data }], guard := none }) (v := ?_) rfl (by kernel_rfl) (by kernel_rfl) (by kernel_rfl) (fun _ _ _ h => h) (Or.inl ⟨by rfl, ?_⟩) (by assumption) ?_
  rotate_left
  · (intro w hSw; (try dsimp only at hSw); go_simp); (try with_reducible rfl)
  try simp only [Act.put, List.setIfInBounds_toArray, List.set_cons_zero, List.set_cons_succ]
  refine wpAnyH_take (i := 2) (oi := { dst := some 7, op := Op.fieldAddr 24 (Operand.tmp 2) 3, type := 0, pos := "ref.go:154", after := #[], guard := none }) (v := ?_) rfl (by kernel_rfl) (by kernel_rfl) (by kernel_rfl) (fun _ _ _ h => h) (Or.inl ⟨by rfl, ?_⟩) (by assumption) ?_
  rotate_left
  · (intro w hSw; (try dsimp only at hSw); go_simp); (try with_reducible rfl)
  try simp only [Act.put, List.setIfInBounds_toArray, List.set_cons_zero, List.set_cons_succ]
  refine wpAnyH_take (i := 3) (oi := { dst := some 8, op := Op.load 22 (Operand.tmp 7), type := 22, pos := "ref.go:154", after := #[{ on := 2, ground := Ground.data }], guard := none }) (v := ?_) rfl (by kernel_rfl) (by kernel_rfl) (by kernel_rfl) (fun _ _ _ h => h) (Or.inl ⟨by rfl, ?_⟩) (by assumption) ?_
  rotate_left
  · (intro w hSw; (try dsimp only at hSw); go_simp); (try with_reducible rfl)
  try simp only [Act.put, List.setIfInBounds_toArray, List.set_cons_zero, List.set_cons_succ]
  refine wpAnyH_take (i := 5) (oi := { dst := some 10, op := Op.move (Operand.tmp 1), type := 22, pos := "ref.go:154", after := #[], guard := none }) (v := ?_) rfl (by kernel_rfl) (by kernel_rfl) (by kernel_rfl) (fun _ _ _ h => h) (Or.inl ⟨by rfl, ?_⟩) (by assumption) ?_
  rotate_left
  · (intro w hSw; (try dsimp only at hSw); go_simp); (try with_reducible rfl)
  try simp only [Act.put, List.setIfInBounds_toArray, List.set_cons_zero, List.set_cons_succ]
  refine wpAnyH_take (i := 6) (oi := { dst := some 11, op := Op.fieldAddr 24 (Operand.tmp 2) 2, type := 0, pos := "ref.go:154", after := #[], guard := none }) (v := ?_) rfl (by kernel_rfl) (by kernel_rfl) (by kernel_rfl) (fun _ _ _ h => h) (Or.inl ⟨by rfl, ?_⟩) (by assumption) ?_
  rotate_left
  · (intro w hSw; (try dsimp only at hSw); go_simp); (try with_reducible rfl)
  try simp only [Act.put, List.setIfInBounds_toArray, List.set_cons_zero, List.set_cons_succ]
  refine wpAnyH_take (i := 7) (oi := { dst := some 12, op := Op.load 22 (Operand.tmp 11), type := 22, pos := "ref.go:154", after := #[{ on := 6, ground := Ground.data }], guard := none }) (v := ?_) rfl (by kernel_rfl) (by kernel_rfl) (by kernel_rfl) (fun _ _ _ h => h) (Or.inl ⟨by rfl, ?_⟩) (by assumption) ?_
  rotate_left
  · (intro w hSw; (try dsimp only at hSw); go_simp); (try with_reducible rfl)
  try simp only [Act.put, List.setIfInBounds_toArray, List.set_cons_zero, List.set_cons_succ]
  refine wpAnyH_ready (rs := [4]) (by kernel_rfl) (by simp) ?_
  refine (AllReadyH.cons (o := { dst := some 9, op := Op.call { callee := Callee.value (Operand.func 91), args := #[Operand.tmp 6, Operand.tmp 8], argTypes := #[22, 22] }, type := 22, pos := "ref.go:154", after := #[{ on := 1, ground := Ground.data }, { on := 3, ground := Ground.data }], guard := none }) rfl (fun K hK => ?_) AllReadyH.nil)
  go_simp
  refine (timesR_any _ _ b d wzd (HB.out.carry (bthen kW1 hbzd)) (HD.out.carry (bthen kW1 hbzd)) hb1 hd1 (by omega) (by omega)).mono ?_
  rintro e wz4 ⟨⟨u4, rfl, hu4⟩, hl⟩
  (try go_wp2_with fail)
  have hbz4 := bthen hbzd hl
  clear hl
  refine hK.out _ _ ⟨cellb e1 hbz4, cellb e2 hbz4, cellb e3 hbz4⟩ (fun hHeld1 => ?_)
  clear hK K hHeld0
  try simp only [Act.put, List.setIfInBounds_toArray, List.set_cons_zero, List.set_cons_succ]
  refine wpAnyH_ready (rs := [8]) (by kernel_rfl) (by simp) ?_
  refine (AllReadyH.cons (o := { dst := some 13, op := Op.call { callee := Callee.value (Operand.func 91), args := #[Operand.tmp 10, Operand.tmp 12], argTypes := #[22, 22] }, type := 22, pos := "ref.go:154", after := #[{ on := 5, ground := Ground.data }, { on := 7, ground := Ground.data }, { on := 4, ground := Ground.chain }], guard := none }) rfl (fun K hK => ?_) AllReadyH.nil)
  go_simp
  refine (timesR_any _ _ n c wz4 (HN.out.carry (bthen kW1 hbz4)) (HC.out.carry (bthen kW1 hbz4)) hn1 hc1 (by omega) (by omega)).mono ?_
  rintro e wz8 ⟨⟨u8, rfl, hu8⟩, hl⟩
  (try go_wp2_with fail)
  have hbz8 := bthen hbz4 hl
  have hu4 := hu4.carry hl
  clear hl
  refine hK.out _ _ ⟨cellb e1 hbz8, cellb e2 hbz8, cellb e3 hbz8⟩ (fun hHeld2 => ?_)
  clear hK K hHeld1
  try simp only [Act.put, List.setIfInBounds_toArray, List.set_cons_zero, List.set_cons_succ]
  refine wpAnyH_ready (rs := [9]) (by kernel_rfl) (by simp) ?_
  refine (AllReadyH.cons (o := { dst := some 14, op := Op.call { callee := Callee.value (Operand.func 90), args := #[Operand.tmp 9, Operand.tmp 13], argTypes := #[22, 22] }, type := 22, pos := "ref.go:154", after := #[{ on := 4, ground := Ground.data }, { on := 8, ground := Ground.data }, { on := 8, ground := Ground.chain }], guard := none }) rfl (fun K hK => ?_) AllReadyH.nil)
  go_simp
  refine (plusR_any u4 u8 _ _ wz8 hu4 hu8 (by omega) (by omega) (by omega) (by omega) (InI.timesW _ _) (InI.timesW _ _)).mono ?_
  rintro e wz9 ⟨⟨u9, rfl, hu9⟩, hl⟩
  (try go_wp2_with fail)
  have hbz9 := bthen hbz8 hl
  have hu4 := hu4.carry hl
  have hu8 := hu8.carry hl
  clear hl
  refine hK.out _ _ ⟨cellb e1 hbz9, cellb e2 hbz9, cellb e3 hbz9⟩ (fun hHeld3 => ?_)
  clear hK K hHeld2
  try simp only [Act.put, List.setIfInBounds_toArray, List.set_cons_zero, List.set_cons_succ]
  refine wpAnyH_take (i := 10) (oi := { dst := some 4, op := Op.assign (Operand.tmp 14), type := 22, pos := "ref.go:154", after := #[{ on := 9, ground := Ground.data }, { on := 9, ground := Ground.chain }, { on := 0, ground := Ground.phase }, { on := 1, ground := Ground.phase }, { on := 2, ground := Ground.phase }, { on := 3, ground := Ground.phase }, { on := 4, ground := Ground.phase }, { on := 5, ground := Ground.phase }, { on := 6, ground := Ground.phase }, { on := 7, ground := Ground.phase }, { on := 8, ground := Ground.phase }, { on := 9, ground := Ground.phase }], guard := none }) (v := ?_) rfl (by kernel_rfl) (by kernel_rfl) (by kernel_rfl) (fun _ _ _ h => h) (Or.inl ⟨by rfl, ?_⟩) (by assumption) ?_
  rotate_left
  · (intro w hSw; (try dsimp only at hSw); go_simp); (try with_reducible rfl)
  try simp only [Act.put, List.setIfInBounds_toArray, List.set_cons_zero, List.set_cons_succ]
  refine wpAnyH_done (by kernel_rfl) ?_ _
  clear hHeld3
  go_wp2
  go_ret
  exact ⟨⟨u9, rfl, hu9⟩, bthen kW1 hbz9⟩

theorem whenE_false (e : Int) : whenE false e = 0 := rfl
theorem whenE_true (e : Int) : whenE true e = e := rfl
theorem loop2_20 {a b c d : List Int} (h : 3 < b.length ∨ 3 < d.length) : loop2E a b c d = 20 := by
  unfold loop2E
  rw [show decide ((2 : Int) < max ((b.length : Int) - 1) ((d.length : Int) - 1)) = true from decide_eq_true (by omega)]
  rfl
theorem loop2_2 {a b c d : List Int} (h : ¬ 3 < b.length) (h' : ¬ 3 < d.length) (h2 : b.length ≤ a.length ∨ d.length < c.length) : loop2E a b c d = 2 := by
  unfold loop2E
  rw [show decide ((2 : Int) < max ((b.length : Int) - 1) ((d.length : Int) - 1)) = false from decide_eq_false (by omega)]
  rw [show (decide (b.length ≤ a.length) || decide (d.length < c.length)) = true by simpa using h2]
  rfl
theorem loop2_ok {a b c d : List Int} (h : ¬ 3 < b.length) (h' : ¬ 3 < d.length) (h2 : ¬ b.length ≤ a.length) (h3 : ¬ d.length < c.length) : loop2E a b c d = largeE (closedW a b c d) := by
  unfold loop2E largeE
  rw [show decide ((2 : Int) < max ((b.length : Int) - 1) ((d.length : Int) - 1)) = false from decide_eq_false (by omega)]
  rw [show (decide (b.length ≤ a.length) || decide (d.length < c.length)) = false by simp; omega]
  cases (closedW a b c d).any largeB <;> rfl

set_option maxRecDepth 100000 in
set_option maxHeartbeats 8000000 in
theorem CheckLoopR_any (va vb vc vd : Value) (a b c d : List Int) (w : World) (ha : Ints w va a) (hb : Ints w vb b) (hc : Ints w vc c) (hd : Ints w vd d)
    (ha2 : a.length ≤ 100000) (hb2 : b.length ≤ 100000) (hc2 : c.length ≤ 100000) (hd2 : d.length ≤ 100000) :
    Calls Tryz.prog 10 #[.agg #[va, vb, vc, vd]] w fun r w' => r = .returned (.int .i64 (checkLoopE a b c d)) ∧ Below w.heap.size w w' := by
  have HA := Lib.hid ha
  have HB := Lib.hid hb
  have HC := Lib.hid hc
  have HD := Lib.hid hd
  obtain ⟨xa, ca, rfl, _⟩ := id ha
  obtain ⟨xb, cb, rfl, _⟩ := id hb
  obtain ⟨xc, cc, rfl, _⟩ := id hc
  obtain ⟨xd, cd, rfl, _⟩ := id hd
  clear ha hb hc hd
  go_enter Tryz.func10, Tryz.ntmps10
  go_upto_region 1 with fail
  obtain ⟨W1, hW1⟩ : ∃ v, v = World.alloc w (Obj.cells #[.slice xa a.length ca, .slice xb b.length cb, .slice xc c.length cc, .slice xd d.length cd] 24) := ⟨_, rfl⟩
  have kW1 : Below w.heap.size w W1 := by rw [hW1]; exact below_new _ _
  have iW1 : Blk W1 (w.heap.size) 24 [.slice xa a.length ca, .slice xb b.length cb, .slice xc c.length cc, .slice xd d.length cd] := by rw [hW1]; exact Blk.new _ _ _
  have sW1 : W1.heap.size = w.heap.size + 1 := by rw [hW1]; simp
  rw [← hW1]
  clear hW1
  clear sW1
  have hB := kW1
  have iB := iW1
  clear kW1 iW1
  have e0 := iB.cell (j := 0) (v := .slice xa a.length ca) rfl
  have e1 := iB.cell (j := 1) (v := .slice xb b.length cb) rfl
  have e2 := iB.cell (j := 2) (v := .slice xc c.length cc) rfl
  have e3 := iB.cell (j := 3) (v := .slice xd d.length cd) rfl
  go_cut [3] from 4 to 17 (fun v wn => v = .int .i64 (loop1E a b c d) ∧ Below W1.heap.size W1 wn)
  case first =>
    obtain ⟨ya, hya⟩ : ∃ x, x = checkPolyE a := ⟨_, rfl⟩
    obtain ⟨yb, hyb⟩ : ∃ x, x = checkPolyE b := ⟨_, rfl⟩
    obtain ⟨yc, hyc⟩ : ∃ x, x = checkPolyE c := ⟨_, rfl⟩
    obtain ⟨yd, hyd⟩ : ∃ x, x = checkPolyE d := ⟨_, rfl⟩
    have TA := Lib.hid (fun W h => CheckPolyR_any (.slice xa a.length ca) a W h (by omega))
    rw [← hya] at TA
    have TB := Lib.hid (fun W h => CheckPolyR_any (.slice xb b.length cb) b W h (by omega))
    rw [← hyb] at TB
    have TC := Lib.hid (fun W h => CheckPolyR_any (.slice xc c.length cc) c W h (by omega))
    rw [← hyc] at TC
    have TD := Lib.hid (fun W h => CheckPolyR_any (.slice xd d.length cd) d W h (by omega))
    rw [← hyd] at TD
    have HF := Lib.hid (show firstE [ya, yb, yc, yd] = loop1E a b c d by rw [hya, hyb, hyc, hyd]; rfl)
    clear hya hyb hyc hyd
    refine wp_region_held_drew (S := (fun w' => w'.cell? ⟨w.heap.size, 0, none⟩ = some (.slice xa a.length ca) ∧ w'.cell? ⟨w.heap.size, 1, none⟩ = some (.slice xb b.length cb) ∧ w'.cell? ⟨w.heap.size, 2, none⟩ = some (.slice xc c.length cc) ∧ w'.cell? ⟨w.heap.size, 3, none⟩ = some (.slice xd d.length cd))) (by kernel_rfl) ⟨cellb e0 (Below.refl _ _).drew, cellb e1 (Below.refl _ _).drew, cellb e2 (Below.refl _ _).drew, cellb e3 (Below.refl _ _).drew⟩ (fun hHeld0 => ?_)
    obtain ⟨wzd, hwz⟩ : ∃ v, v = W1.drew := ⟨_, rfl⟩
    rw [← hwz] at hHeld0 ⊢
    have hbzd : Below W1.heap.size W1 wzd := by rw [hwz]; exact (Below.refl _ _).drew
    have hlzd : Below W1.heap.size W1 wzd := by rw [hwz]; exact (Below.refl _ _).drew
    clear hwz hlzd
    refine wpAnyH_take (i := 0) (oi := { dst := some 4, op := Op.fieldAddr 24 (Operand.tmp 1) 0, type := 0, pos := "ref.go:159", after := #[], guard := none }) (v := ?_) rfl (by kernel_rfl) (by kernel_rfl) (by kernel_rfl) (fun _ _ _ h => h) (Or.inl ⟨by rfl, ?_⟩) (by assumption) ?_
    rotate_left
    · (intro w hSw; (try dsimp only at hSw); go_simp); (try with_reducible rfl)
    try simp only [Act.put, List.setIfInBounds_toArray, List.set_cons_zero, List.set_cons_succ]
    refine wpAnyH_take (i := 1) (oi := { dst := some 5, op := Op.load 22 (Operand.tmp 4), type := 22, pos := "ref.go:159", after := #[{ on := 0, ground := Ground.data }], guard := none }) (v := ?_) rfl (by kernel_rfl) (by kernel_rfl) (by kernel_rfl) (fun _ _ _ h => h) (Or.inl ⟨by rfl, ?_⟩) (by assumption) ?_
    rotate_left
    · (intro w hSw; (try dsimp only at hSw); go_simp); (try with_reducible rfl)
    try simp only [Act.put, List.setIfInBounds_toArray, List.set_cons_zero, List.set_cons_succ]
    refine wpAnyH_take (i := 3) (oi := { dst := some 7, op := Op.fieldAddr 24 (Operand.tmp 1) 1, type := 0, pos := "ref.go:159", after := #[], guard := none }) (v := ?_) rfl (by kernel_rfl) (by kernel_rfl) (by kernel_rfl) (fun _ _ _ h => h) (Or.inl ⟨by rfl, ?_⟩) (by assumption) ?_
    rotate_left
    · (intro w hSw; (try dsimp only at hSw); go_simp); (try with_reducible rfl)
    try simp only [Act.put, List.setIfInBounds_toArray, List.set_cons_zero, List.set_cons_succ]
    refine wpAnyH_take (i := 4) (oi := { dst := some 8, op := Op.load 22 (Operand.tmp 7), type := 22, pos := "ref.go:159", after := #[{ on := 3, ground := Ground.data }], guard := none }) (v := ?_) rfl (by kernel_rfl) (by kernel_rfl) (by kernel_rfl) (fun _ _ _ h => h) (Or.inl ⟨by rfl, ?_⟩) (by assumption) ?_
    rotate_left
    · (intro w hSw; (try dsimp only at hSw); go_simp); (try with_reducible rfl)
    try simp only [Act.put, List.setIfInBounds_toArray, List.set_cons_zero, List.set_cons_succ]
    refine wpAnyH_take (i := 6) (oi := { dst := some 10, op := Op.fieldAddr 24 (Operand.tmp 1) 2, type := 0, pos := "ref.go:159", after := #[], guard := none }) (v := ?_) rfl (by kernel_rfl) (by kernel_rfl) (by kernel_rfl) (fun _ _ _ h => h) (Or.inl ⟨by rfl, ?_⟩) (by assumption) ?_
    rotate_left
    · (intro w hSw; (try dsimp only at hSw); go_simp); (try with_reducible rfl)
    try simp only [Act.put, List.setIfInBounds_toArray, List.set_cons_zero, List.set_cons_succ]
    refine wpAnyH_take (i := 7) (oi := { dst := some 11, op := Op.load 22 (Operand.tmp 10), type := 22, pos := "ref.go:159", after := #[{ on := 6, ground := Ground.data }], guard := none }) (v := ?_) rfl (by kernel_rfl) (by kernel_rfl) (by kernel_rfl) (fun _ _ _ h => h) (Or.inl ⟨by rfl, ?_⟩) (by assumption) ?_
    rotate_left
    · (intro w hSw; (try dsimp only at hSw); go_simp); (try with_reducible rfl)
    try simp only [Act.put, List.setIfInBounds_toArray, List.set_cons_zero, List.set_cons_succ]
    refine wpAnyH_take (i := 9) (oi := { dst := some 13, op := Op.fieldAddr 24 (Operand.tmp 1) 3, type := 0, pos := "ref.go:159", after := #[], guard := none }) (v := ?_) rfl (by kernel_rfl) (by kernel_rfl) (by kernel_rfl) (fun _ _ _ h => h) (Or.inl ⟨by rfl, ?_⟩) (by assumption) ?_
    rotate_left
    · (intro w hSw; (try dsimp only at hSw); go_simp); (try with_reducible rfl)
    try simp only [Act.put, List.setIfInBounds_toArray, List.set_cons_zero, List.set_cons_succ]
    refine wpAnyH_take (i := 10) (oi := { dst := some 14, op := Op.load 22 (Operand.tmp 13), type := 22, pos := "ref.go:159", after := #[{ on := 9, ground := Ground.data }], guard := none }) (v := ?_) rfl (by kernel_rfl) (by kernel_rfl) (by kernel_rfl) (fun _ _ _ h => h) (Or.inl ⟨by rfl, ?_⟩) (by assumption) ?_
    rotate_left
    · (intro w hSw; (try dsimp only at hSw); go_simp); (try with_reducible rfl)
    try simp only [Act.put, List.setIfInBounds_toArray, List.set_cons_zero, List.set_cons_succ]
    refine wpAnyH_ready (rs := [2]) (by kernel_rfl) (by simp) ?_
    refine (AllReadyH.cons (o := { dst := some 6, op := Op.call { callee := Callee.value (Operand.func 48), args := #[Operand.tmp 5], argTypes := #[22] }, type := 3, pos := "ref.go:159", after := #[{ on := 1, ground := Ground.data }], guard := none }) rfl (fun K hK => ?_) AllReadyH.nil)
    go_simp
    refine (TA.out wzd (HA.out.carry (bthen hB hbzd))).mono ?_
    rintro e wz2 ⟨rfl, hww⟩
    have hl : Below wzd.heap.size wzd wz2 := by rw [hww]; exact Below.refl _ _
    clear hww
    (try go_wp2_with fail)
    have hbz2 := bthen hbzd hl
    clear hl
    refine hK.out _ _ ⟨cellb e0 hbz2, cellb e1 hbz2, cellb e2 hbz2, cellb e3 hbz2⟩ (fun hHeld1 => ?_)
    clear hK K hHeld0
    try simp only [Act.put, List.setIfInBounds_toArray, List.set_cons_zero, List.set_cons_succ]
    refine wpAnyH_ready (rs := [5]) (by kernel_rfl) (by simp) ?_
    refine (AllReadyH.cons (o := { dst := some 9, op := Op.call { callee := Callee.value (Operand.func 48), args := #[Operand.tmp 8], argTypes := #[22] }, type := 3, pos := "ref.go:159", after := #[{ on := 4, ground := Ground.data }, { on := 2, ground := Ground.chain }], guard := none }) rfl (fun K hK => ?_) AllReadyH.nil)
    go_simp
    refine (TB.out wz2 (HB.out.carry (bthen hB hbz2))).mono ?_
    rintro e wz5 ⟨rfl, hww⟩
    have hl : Below wz2.heap.size wz2 wz5 := by rw [hww]; exact Below.refl _ _
    clear hww
    (try go_wp2_with fail)
    have hbz5 := bthen hbz2 hl
    clear hl
    refine hK.out _ _ ⟨cellb e0 hbz5, cellb e1 hbz5, cellb e2 hbz5, cellb e3 hbz5⟩ (fun hHeld2 => ?_)
    clear hK K hHeld1
    try simp only [Act.put, List.setIfInBounds_toArray, List.set_cons_zero, List.set_cons_succ]
    refine wpAnyH_ready (rs := [8]) (by kernel_rfl) (by simp) ?_
    refine (AllReadyH.cons (o := { dst := some 12, op := Op.call { callee := Callee.value (Operand.func 48), args := #[Operand.tmp 11], argTypes := #[22] }, type := 3, pos := "ref.go:159", after := #[{ on := 7, ground := Ground.data }, { on := 5, ground := Ground.chain }], guard := none }) rfl (fun K hK => ?_) AllReadyH.nil)
    go_simp
    refine (TC.out wz5 (HC.out.carry (bthen hB hbz5))).mono ?_
    rintro e wz8 ⟨rfl, hww⟩
    have hl : Below wz5.heap.size wz5 wz8 := by rw [hww]; exact Below.refl _ _
    clear hww
    (try go_wp2_with fail)
    have hbz8 := bthen hbz5 hl
    clear hl
    refine hK.out _ _ ⟨cellb e0 hbz8, cellb e1 hbz8, cellb e2 hbz8, cellb e3 hbz8⟩ (fun hHeld3 => ?_)
    clear hK K hHeld2
    try simp only [Act.put, List.setIfInBounds_toArray, List.set_cons_zero, List.set_cons_succ]
    refine wpAnyH_ready (rs := [11]) (by kernel_rfl) (by simp) ?_
    refine (AllReadyH.cons (o := { dst := some 15, op := Op.call { callee := Callee.value (Operand.func 48), args := #[Operand.tmp 14], argTypes := #[22] }, type := 3, pos := "ref.go:159", after := #[{ on := 10, ground := Ground.data }, { on := 8, ground := Ground.chain }], guard := none }) rfl (fun K hK => ?_) AllReadyH.nil)
    go_simp
    refine (TD.out wz8 (HD.out.carry (bthen hB hbz8))).mono ?_
    rintro e wz11 ⟨rfl, hww⟩
    have hl : Below wz8.heap.size wz8 wz11 := by rw [hww]; exact Below.refl _ _
    clear hww
    (try go_wp2_with fail)
    have hbz11 := bthen hbz8 hl
    clear hl
    refine hK.out _ _ ⟨cellb e0 hbz11, cellb e1 hbz11, cellb e2 hbz11, cellb e3 hbz11⟩ (fun hHeld4 => ?_)
    clear hK K hHeld3
    try simp only [Act.put, List.setIfInBounds_toArray, List.set_cons_zero, List.set_cons_succ]
    refine wpAnyH_ready (rs := [12]) (by kernel_rfl) (by simp) ?_
    refine (AllReadyH.cons (o := { dst := some 16, op := Op.buildSlice 22 4 #[(0, Operand.tmp 6), (1, Operand.tmp 9), (2, Operand.tmp 12), (3, Operand.tmp 15)], type := 22, pos := "ref.go:159", after := #[{ on := 2, ground := Ground.data }, { on := 5, ground := Ground.data }, { on := 8, ground := Ground.data }, { on := 11, ground := Ground.data }], guard := none }) rfl (fun K hK => ?_) AllReadyH.nil)
    go_simp
    obtain ⟨wz12, hwz⟩ : ∃ v, v = wz11.alloc (Obj.cells #[.int .i64 ya, .int .i64 yb, .int .i64 yc, .int .i64 yd] 3) := ⟨_, rfl⟩
    rw [← hwz]
    have hl : Below wz11.heap.size wz11 wz12 := by rw [hwz]; exact below_new _ _
    have hbz12 := bthen hbz11 hl
    have bs : BlkI wz12 wz11.heap.size 3 [ya, yb, yc, yd] := by rw [hwz]; exact Blk.new _ _ _
    generalize wz11.heap.size = G at bs ⊢
    clear hwz
    clear hl
    refine hK.out _ _ ⟨cellb e0 hbz12, cellb e1 hbz12, cellb e2 hbz12, cellb e3 hbz12⟩ (fun hHeld5 => ?_)
    clear hK K hHeld4
    try simp only [Act.put, List.setIfInBounds_toArray, List.set_cons_zero, List.set_cons_succ]
    refine wpAnyH_ready (rs := [13]) (by kernel_rfl) (by simp) ?_
    refine (AllReadyH.cons (o := { dst := some 17, op := Op.call { callee := Callee.value (Operand.func 47), args := #[Operand.tmp 16], argTypes := #[22] }, type := 3, pos := "ref.go:159", after := #[{ on := 12, ground := Ground.data }, { on := 11, ground := Ground.chain }], guard := none }) rfl (fun K hK => ?_) AllReadyH.nil)
    go_simp
    have tf := FirstR_any _ [ya, yb, yc, yd] wz12 (by simp) (BlkI.ints (n := 4) bs rfl)
    rw [HF.out] at tf
    refine tf.mono ?_
    clear tf
    rintro e wz13 ⟨rfl, hww⟩
    have hl : Below wz12.heap.size wz12 wz13 := by rw [hww]; exact Below.refl _ _
    clear hww
    (try go_wp2_with fail)
    have hbz13 := bthen hbz12 hl
    have bs := bs.carry hl
    clear hl
    refine hK.out _ _ ⟨cellb e0 hbz13, cellb e1 hbz13, cellb e2 hbz13, cellb e3 hbz13⟩ (fun hHeld6 => ?_)
    clear hK K hHeld5
    try simp only [Act.put, List.setIfInBounds_toArray, List.set_cons_zero, List.set_cons_succ]
    refine wpAnyH_take (i := 14) (oi := { dst := some 3, op := Op.assign (Operand.tmp 17), type := 3, pos := "ref.go:159", after := #[{ on := 13, ground := Ground.data }, { on := 13, ground := Ground.chain }, { on := 0, ground := Ground.phase }, { on := 1, ground := Ground.phase }, { on := 2, ground := Ground.phase }, { on := 3, ground := Ground.phase }, { on := 4, ground := Ground.phase }, { on := 5, ground := Ground.phase }, { on := 6, ground := Ground.phase }, { on := 7, ground := Ground.phase }, { on := 8, ground := Ground.phase }, { on := 9, ground := Ground.phase }, { on := 10, ground := Ground.phase }, { on := 11, ground := Ground.phase }, { on := 12, ground := Ground.phase }, { on := 13, ground := Ground.phase }], guard := none }) (v := ?_) rfl (by kernel_rfl) (by kernel_rfl) (by kernel_rfl) (fun _ _ _ h => h) (Or.inl ⟨by rfl, ?_⟩) (by assumption) ?_
    rotate_left
    · (intro w hSw; (try dsimp only at hSw); go_simp); (try with_reducible rfl)
    try simp only [Act.put, List.setIfInBounds_toArray, List.set_cons_zero, List.set_cons_succ]
    refine wpAnyH_done (by kernel_rfl) ?_ _
    clear hHeld6
    go_wp2_with fail
    go_meet
    exact ⟨rfl, hbz13⟩
  case rest =>
    obtain ⟨rfl, hl⟩ := hcut
    clear e0 e1 e2 e3
    replace hB := bthen hB hl
    replace iB := iB.carry hl
    obtain ⟨w2, rfl⟩ : ∃ v, v = wc := ⟨_, rfl⟩
    clear hl
    have e0 := iB.cell (j := 0) (v := .slice xa a.length ca) rfl
    have e1 := iB.cell (j := 1) (v := .slice xb b.length cb) rfl
    have e2 := iB.cell (j := 2) (v := .slice xc c.length cc) rfl
    have e3 := iB.cell (j := 3) (v := .slice xd d.length cd) rfl
    by_cases h1 : loop1E a b c d = 0
    · obtain ⟨ea, eb, ec, ed⟩ := loop1E_ok h1
      have la := checkPolyE_ok ea
      have lb := checkPolyE_ok eb
      have lc := checkPolyE_ok ec
      have ld := checkPolyE_ok ed
      have hE : checkLoopE a b c d = loop2E a b c d := by rw [checkLoopE, if_neg (by rw [h1]; simp)]
      have HE0 := Lib.hid hE
      rw [h1]
      clear ea eb ec ed h1 hE
      by_cases k1 : 3 < b.length
      · have d1 : (3 : Int) < (b.length : Int) := by omega
        have hE := Lib.hid (loop2_20 (a := a) (b := b) (c := c) (d := d) (Or.inl k1))
        go_wp2_with fail
        go_ret
        exact ⟨by rw [HE0.out, hE.out]; rfl, hB⟩
      · have d1 : ¬ (3 : Int) < (b.length : Int) := by omega
        by_cases k2 : 3 < d.length
        · have d2 : (3 : Int) < (d.length : Int) := by omega
          have hE := Lib.hid (loop2_20 (a := a) (b := b) (c := c) (d := d) (Or.inr k2))
          go_wp2_with fail
          go_ret
          exact ⟨by rw [HE0.out, hE.out]; rfl, hB⟩
        · have d2 : ¬ (3 : Int) < (d.length : Int) := by omega
          by_cases k3 : b.length ≤ a.length
          · have d3 : (b.length : Int) ≤ (a.length : Int) := by omega
            have hE := Lib.hid (loop2_2 (a := a) (b := b) (c := c) (d := d) k1 k2 (Or.inl k3))
            go_wp2_with fail
            go_ret
            exact ⟨by rw [HE0.out, hE.out]; rfl, hB⟩
          · have d3 : ¬ (b.length : Int) ≤ (a.length : Int) := by omega
            by_cases k4 : d.length < c.length
            · have d4 : (d.length : Int) < (c.length : Int) := by omega
              have hE := Lib.hid (loop2_2 (a := a) (b := b) (c := c) (d := d) k1 k2 (Or.inr k4))
              go_wp2_with fail
              go_ret
              exact ⟨by rw [HE0.out, hE.out]; rfl, hB⟩
            · have d4 : ¬ (d.length : Int) < (c.length : Int) := by omega
              have hE := Lib.hid (loop2_ok (a := a) (b := b) (c := c) (d := d) k1 k2 k3 k4)
              have hlen := closedW_length a b c d
              clear k1 k2 k3 k4
              go_wp2_with fail
              refine (ClosedR_any _ _ _ _ _ a b c d a w2 (HA.out.carry hB) (HB.out.carry hB) (HC.out.carry hB) (HD.out.carry hB) (HA.out.carry hB) (by omega) (by omega) (by omega) (by omega) (by omega) (by omega) (by omega) (by omega)).mono ?_
              rintro e w3 ⟨⟨u3, rfl, hu3⟩, hl⟩
              clear e0 e1 e2 e3
              go_wp2_with fail
              refine (largeR_any u3 _ w3 hu3 (by omega)).mono ?_
              rintro e w4 ⟨rfl, rfl⟩
              go_wp2_with fail
              go_ret
              exact ⟨by rw [HE0.out, hE.out]; rfl, bthen hB hl⟩
    · have hE : checkLoopE a b c d = loop1E a b c d := by rw [checkLoopE, if_pos h1]
      have HE0 := Lib.hid hE
      clear hE
      generalize loop1E a b c d = le at h1 HE0 ⊢
      go_wp2_with fail
      go_ret
      exact ⟨by rw [HE0.out]; rfl, hB⟩

end Go.Proofs.YtfdehcphmmhjaaaGreatDoor

/- The law TopWasherDroop: the lines that it makes. -/
import Derived.Test.YthbeigcalnlkiaaFlowE
import Derived.Test.YthbeigcalnlkiaaPairs
import Derived.Maps.AppendAt
import Derived.RegionTactic
namespace Go.Proofs.Ythbeigcalnlkiaa
set_option linter.unusedSimpArgs false
set_option linter.unusedVariables false
open Go.RowKit

/-- a slice of bytes. -/
def BytesIs (w : World) (v : Value) (l : List Int) : Prop := ∃ b off cap, v = .slice (some ⟨b, off, none⟩) l.length cap ∧ l.length ≤ cap ∧ ∀ (j : Nat) (x : Int), l[j]? = some x → w.cell? ⟨b, off + j, none⟩ = some (.int .u8 x)
theorem BytesIs.carry {w w' : World} {v : Value} {l : List Int} (h : BytesIs w v l) (hb : Below w.heap.size w w') : BytesIs w' v l := by
  obtain ⟨b, off, cap, e, hc, h⟩ := h
  exact ⟨b, off, cap, e, hc, fun j x hx => cellb (h j x hx) hb⟩
/-- the power of a line at 0. -/
def pow3 (p0 p1 p2 : Int) : Nat → Int
  | 0 => p0 | 1 => p1 | _ => p2
/-- the lines: the power at 0, and the fall. -/
def drpL (l : List Int) (p0 p1 p2 : Int) (k : Nat) : List (Int × Int) := upto (fun i => (pow3 p0 p1 p2 i, 1 + l[i]?.getD 0 % 5)) k

theorem Blk.own_kept {w w1 : World} {B base e size n : Nat} {T : TypeId} {vs xs : List Value} {v : Value} (h : Blk w B T vs) (ho : w.ownsRow base e size v n xs) (hT : T ≠ e) (hg : w.grownBy w1 v.ownBlock) : Blk w1 B T vs := by
  refine h.kept hg (fun hrow => ?_)
  obtain ⟨h1, h2⟩ := ho
  rcases h2 with ⟨rfl, h2⟩ | ⟨g, cap, cur, rfl, hg', hh, hr⟩
  · simp [Value.ownBlock] at hrow
  · simp [Value.ownBlock] at hrow
    subst hrow
    unfold Blk at h
    rw [hh] at h
    injection h with h
    injection h with _ h3 _
    exact hT h3.symm

theorem Blk.one {w : World} {G : Nat} {T : TypeId} {x : Value} (h : Blk w G T [x]) (j : Nat) (u : Value) (hj : [x][j]? = some u) : w.cell? ((⟨G, 0, none⟩ : Addr).add j) = some u := by
  rw [addr_add, Nat.zero_add]; exact h.cell hj
/-- the values of a list of lines, each with its block. -/
def EachL (w : World) (us : List Value) (l : List Int) (p0 p1 p2 : Int) : Prop := ∀ (j : Nat) (u : Value), us[j]? = some u → ∃ g, u = .slice (some ⟨g, 0, none⟩) 2 2 ∧ Blk w g 30 [.int .i64 0, .int .i64 (pow3 p0 p1 p2 j), .int .i64 100, .int .i64 (pow3 p0 p1 p2 j - 100 * (1 + l[j]?.getD 0 % 5))]
theorem EachL.carry {w w' : World} {us : List Value} {l : List Int} {p0 p1 p2 : Int} (h : EachL w us l p0 p1 p2) (hb : Below w.heap.size w w') : EachL w' us l p0 p1 p2 := fun j u hj => by
  obtain ⟨g, e, hg⟩ := h j u hj
  exact ⟨g, e, hg.carry hb⟩
theorem EachL.own_kept {w w1 : World} {us xs : List Value} {l : List Int} {p0 p1 p2 : Int} {base n : Nat} {v : Value} (h : EachL w us l p0 p1 p2) (ho : w.ownsRow base 32 1 v n xs) (hg : w.grownBy w1 v.ownBlock) : EachL w1 us l p0 p1 p2 := fun j u hj => by
  obtain ⟨g, e, hb⟩ := h j u hj
  exact ⟨g, e, hb.own_kept ho (by decide) hg⟩
theorem EachL.snoc {w : World} {us : List Value} {l : List Int} {p0 p1 p2 : Int} (h : EachL w us l p0 p1 p2) {g : Nat} {P Q : Int} (hb : Blk w g 30 [.int .i64 0, .int .i64 P, .int .i64 100, .int .i64 Q]) (hP : P = pow3 p0 p1 p2 us.length) (hQ : Q = P - 100 * (1 + l[us.length]?.getD 0 % 5)) : EachL w (us ++ [.slice (some ⟨g, 0, none⟩) 2 2]) l p0 p1 p2 := fun j u hj => by
  rcases Nat.lt_or_ge j us.length with hlt | hge
  · rw [List.getElem?_append_left hlt] at hj
    exact h j u hj
  · rw [List.getElem?_append_right hge] at hj
    have hjl : ¬ us.length < j := fun hne => by
      rw [List.getElem?_eq_none (by simp; omega)] at hj
      cases hj
    obtain rfl : j = us.length := by omega
    rw [Nat.sub_self] at hj
    cases hj
    subst hP hQ
    exact ⟨g, rfl, hb⟩
/-- a slice of lines that is owned. -/
def OwnL (base : Nat) (w : World) (v : Value) (us : List Value) : Prop := w.ownsRow base 32 1 v us.length us
theorem OwnL.carry {base : Nat} {w w' : World} {v : Value} {us : List Value} (h : OwnL base w v us) (hb : Below w.heap.size w w') : OwnL base w' v us := own_below h hb
theorem EachL.lines {w : World} {us : List Value} {l : List Int} {p0 p1 p2 : Int} {base : Nat} {v : Value} (h : EachL w us l p0 p1 p2) (ho : w.ownsRow base 32 1 v us.length us) (hl : us.length = l.length) (h0 : 1 ≤ l.length) : LinesIs w v 100 (drpL l p0 p1 p2 l.length) := by
  have hlen : (drpL l p0 p1 p2 l.length).length = l.length := upto_length _ _
  obtain ⟨a, cap, e, hcap, hv⟩ := Vals.of_own ho
  obtain ⟨b, off, rfl, hc⟩ := hv (by omega)
  refine ⟨b, off, cap, by rw [e, hlen, hl], by omega, fun j x hx => ?_⟩
  have hjl : j < l.length := by have := (List.getElem?_eq_some_iff.1 hx).1; omega
  obtain ⟨u, hu⟩ : ∃ u, us[j]? = some u := ⟨_, List.getElem?_eq_getElem (by omega)⟩
  obtain ⟨g, rfl, hb⟩ := h j u hu
  have hxe : x = (pow3 p0 p1 p2 j, 1 + l[j]?.getD 0 % 5) := by
    unfold drpL upto at hx
    rw [List.getElem?_map, List.getElem?_range hjl] at hx
    exact (Option.some.inj hx).symm
  subst hxe
  exact ⟨_, hc j _ hu, g, 0, 2, rfl, Nat.le_refl _, hb.cell rfl, hb.cell rfl, hb.cell rfl, hb.cell rfl⟩

theorem Try.infoLine : (Try.prog.info? 32).map (fun i => (i.zero, i.size, i.bytes)) = some (some (.slice none 0 0), 1, 24) := by kernel_rfl

set_option maxRecDepth 100000 in
set_option maxHeartbeats 4000000 in
theorem lines_any (B : Nat) (vf : Value) (l : List Int) (p0 p1 p2 x y z : Int) (w : World) (hx : Blk w B 26 [vf, .int .i8 p0, .int .i8 p1, .int .i8 p2, .int .u8 x, .int .u8 y, .int .u8 z]) (hf : BytesIs w vf l) (hl : 1 ≤ l.length ∧ l.length ≤ 3)
    (hl8 : ∀ a ∈ l, 0 ≤ a ∧ a ≤ 255) (hp : (-128 ≤ p0 ∧ p0 ≤ 127) ∧ (-128 ≤ p1 ∧ p1 ≤ 127) ∧ (-128 ≤ p2 ∧ p2 ≤ 127)) :
    Calls Try.prog 5 #[.pointer (some ⟨B, 0, none⟩)] w fun r w' => (∃ u, r = .returned u ∧ LinesIs w' u 100 (drpL l p0 p1 p2 l.length)) ∧ Below w.heap.size w w' := by
  have HX := Lib.hid hx
  have HP := Lib.hid hp
  have HL8 := Lib.hid hl8
  obtain ⟨hl1, hl3⟩ := hl
  obtain ⟨b, off, cap, rfl, hcap, hcs⟩ := id hf
  have HCS := Lib.hid hcs
  obtain ⟨i0, hi, hz0, hz1, hz2⟩ := info_parts Try.infoLine
  have x0 := hx.cell (j := 0) (v := .slice (some ⟨b, off, none⟩) l.length cap) rfl
  clear hf hcs hp hl8 hx
  go_enter Try.func5, Try.ntmps5
  go_wp2_with fail
  clear x0
  go_loopw [2, 9] (fun v2 v9 wr => ∃ (k : Nat) (us : List Value), k ≤ l.length ∧ v9 = .int .i64 k ∧ us.length = k ∧ OwnL w.heap.size wr v2 us ∧ EachL wr us l p0 p1 p2 ∧ Below w.heap.size w wr) (fun _ v9 _ => l.length - (intOf v9).toNat)
  case atStart => exact ⟨0, [], by omega, rfl, rfl, World.ownsRow_nil _ _ _ _, fun j u h => by simp at h, Below.refl _ _⟩
  case round =>
    obtain ⟨k, us, hk, rfl, hus, hown, heach, hB⟩ := hrel
    by_cases hlt : k < l.length
    · obtain ⟨a, ha⟩ : ∃ a, l[k]? = some a := ⟨_, List.getElem?_eq_getElem hlt⟩
      have hc := cellb (HCS.out k a ha) hB
      have hX := HX.out
      have hab := HL8.out a (List.mem_of_getElem? ha)
      obtain ⟨pk, hpk⟩ : ∃ pk, pk = pow3 p0 p1 p2 k := ⟨_, rfl⟩
      have hq : w.cell? ⟨B, 1 + k, none⟩ = some (.int .i8 pk) := by
        obtain rfl | rfl | rfl : k = 0 ∨ k = 1 ∨ k = 2 := by omega
        all_goals (rw [hpk]; exact hX.cell rfl)
      have hpb : -128 ≤ pk ∧ pk ≤ 127 := by
        have := HP.out
        rw [hpk]
        obtain rfl | rfl | rfl : k = 0 ∨ k = 1 ∨ k = 2 := by omega
        all_goals (simp only [pow3]; omega)
      have HPK := Lib.hid hpk
      have HA := Lib.hid ha
      have HUS := Lib.hid hus
      have d1 : (k : Int) < (l.length : Int) := by omega
      have hk3 : (k : Int) < 3 := by omega
      clear hpk ha hX hus
      go_upto_region 6 with fail
      have hfb : 1 ≤ 1 + a % 5 ∧ 1 + a % 5 ≤ 5 := by omega
      obtain ⟨f, hfe⟩ : ∃ f, f = 1 + a % 5 := ⟨_, rfl⟩
      rw [← hfe] at hfb ⊢
      have HFE := Lib.hid hfe
      have e2 : IntKind.i64.wrap pk = pk := IntWalk.i64_in _ (by omega)
      have e3 : IntKind.i64.wrap (100 * f) = 100 * f := IntWalk.i64_in _ (by omega)
      have e4 : IntKind.i64.wrap (pk - 100 * f) = pk - 100 * f := IntWalk.i64_in _ (by omega)
      clear hfe hc
      refine wp_region_held_drew (S := (fun w' => w'.cell? ⟨B, 1 + k, none⟩ = some (.int .i8 pk))) (by kernel_rfl) (cellb hq hB.drew) (fun hHeld0 => ?_)
      obtain ⟨wzd, hwz⟩ : ∃ v, v = wr.drew := ⟨_, rfl⟩
      rw [← hwz] at hHeld0 ⊢
      have hbzd : Below w.heap.size w wzd := by rw [hwz]; exact hB.drew
      have hlzd : Below wr.heap.size wr wzd := by rw [hwz]; exact (Below.refl _ _).drew
      have hown := hown.carry hlzd
      have heach := heach.carry hlzd
      clear hwz hlzd
      refine wpAnyH_take (i := 0) (oi := { dst := some 18, op := Op.move (Operand.tmp 2), type := 28, pos := "top05_wt47d.go:37", after := #[], guard := none }) (v := ?_) rfl (by kernel_rfl) (by kernel_rfl) (by kernel_rfl) (fun _ _ _ h => h) (Or.inl ⟨by rfl, ?_⟩) (by assumption) ?_
      rotate_left
      · (intro w hSw; (try dsimp only at hSw); go_simp); (try with_reducible rfl)
      try simp only [Act.put, List.setIfInBounds_toArray, List.set_cons_zero, List.set_cons_succ]
      refine wpAnyH_take (i := 1) (oi := { dst := some 19, op := Op.move (Operand.tmp 3), type := 3, pos := "top05_wt47d.go:37", after := #[], guard := none }) (v := ?_) rfl (by kernel_rfl) (by kernel_rfl) (by kernel_rfl) (fun _ _ _ h => h) (Or.inl ⟨by rfl, ?_⟩) (by assumption) ?_
      rotate_left
      · (intro w hSw; (try dsimp only at hSw); go_simp); (try with_reducible rfl)
      try simp only [Act.put, List.setIfInBounds_toArray, List.set_cons_zero, List.set_cons_succ]
      refine wpAnyH_take (i := 2) (oi := { dst := some 20, op := Op.fieldAddr 26 (Operand.tmp 0) 1, type := 0, pos := "top05_wt47d.go:37", after := #[], guard := none }) (v := ?_) rfl (by kernel_rfl) (by kernel_rfl) (by kernel_rfl) (fun _ _ _ h => h) (Or.inl ⟨by rfl, ?_⟩) (by assumption) ?_
      rotate_left
      · (intro w hSw; (try dsimp only at hSw); go_simp); (try with_reducible rfl)
      try simp only [Act.put, List.setIfInBounds_toArray, List.set_cons_zero, List.set_cons_succ]
      refine wpAnyH_take (i := 3) (oi := { dst := some 21, op := Op.indexAddr 24 (Operand.tmp 20) (Operand.tmp 19), type := 0, pos := "top05_wt47d.go:37", after := #[{ on := 2, ground := Ground.data }, { on := 1, ground := Ground.data }], guard := none }) (v := ?_) rfl (by kernel_rfl) (by kernel_rfl) (by kernel_rfl) (fun _ _ _ h => h) (Or.inl ⟨by rfl, ?_⟩) (by assumption) ?_
      rotate_left
      · (intro w hSw; (try dsimp only at hSw); go_simp); (try with_reducible rfl)
      try simp only [Act.put, List.setIfInBounds_toArray, List.set_cons_zero, List.set_cons_succ]
      refine wpAnyH_take (i := 4) (oi := { dst := some 22, op := Op.load 23 (Operand.tmp 21), type := 23, pos := "top05_wt47d.go:37", after := #[{ on := 3, ground := Ground.data }], guard := none }) (v := ?_) rfl (by kernel_rfl) (by kernel_rfl) (by kernel_rfl) (fun _ _ _ h => h) (Or.inl ⟨by rfl, ?_⟩) (by assumption) ?_
      rotate_left
      · (intro w hSw; (try dsimp only at hSw); go_simp); (try with_reducible rfl)
      try simp only [Act.put, List.setIfInBounds_toArray, List.set_cons_zero, List.set_cons_succ]
      refine wpAnyH_take (i := 5) (oi := { dst := some 23, op := Op.convert 23 3 (Operand.tmp 22), type := 3, pos := "top05_wt47d.go:37", after := #[{ on := 4, ground := Ground.data }], guard := none }) (v := ?_) rfl (by kernel_rfl) (by kernel_rfl) (by kernel_rfl) (fun _ _ _ h => h) (Or.inl ⟨by rfl, ?_⟩) (by assumption) ?_
      rotate_left
      · (intro w hSw; (try dsimp only at hSw); go_simp); (try with_reducible rfl)
      try simp only [Act.put, List.setIfInBounds_toArray, List.set_cons_zero, List.set_cons_succ]
      refine wpAnyH_take (i := 6) (oi := { dst := some 24, op := Op.build 30 #[(0, Operand.const (Value.int IntKind.i64 0)), (1, Operand.tmp 23)], type := 30, pos := "top05_wt47d.go:37", after := #[{ on := 5, ground := Ground.data }], guard := none }) (v := ?_) rfl (by kernel_rfl) (by kernel_rfl) (by kernel_rfl) (fun _ _ _ h => h) (Or.inl ⟨by rfl, ?_⟩) (by assumption) ?_
      rotate_left
      · (intro w hSw; (try dsimp only at hSw); go_simp); (try with_reducible rfl)
      try simp only [Act.put, List.setIfInBounds_toArray, List.set_cons_zero, List.set_cons_succ]
      refine wpAnyH_take (i := 7) (oi := { dst := some 25, op := Op.move (Operand.tmp 3), type := 3, pos := "top05_wt47d.go:37", after := #[], guard := none }) (v := ?_) rfl (by kernel_rfl) (by kernel_rfl) (by kernel_rfl) (fun _ _ _ h => h) (Or.inl ⟨by rfl, ?_⟩) (by assumption) ?_
      rotate_left
      · (intro w hSw; (try dsimp only at hSw); go_simp); (try with_reducible rfl)
      try simp only [Act.put, List.setIfInBounds_toArray, List.set_cons_zero, List.set_cons_succ]
      refine wpAnyH_take (i := 8) (oi := { dst := some 26, op := Op.fieldAddr 26 (Operand.tmp 0) 1, type := 0, pos := "top05_wt47d.go:37", after := #[], guard := none }) (v := ?_) rfl (by kernel_rfl) (by kernel_rfl) (by kernel_rfl) (fun _ _ _ h => h) (Or.inl ⟨by rfl, ?_⟩) (by assumption) ?_
      rotate_left
      · (intro w hSw; (try dsimp only at hSw); go_simp); (try with_reducible rfl)
      try simp only [Act.put, List.setIfInBounds_toArray, List.set_cons_zero, List.set_cons_succ]
      refine wpAnyH_take (i := 9) (oi := { dst := some 27, op := Op.indexAddr 24 (Operand.tmp 26) (Operand.tmp 25), type := 0, pos := "top05_wt47d.go:37", after := #[{ on := 8, ground := Ground.data }, { on := 7, ground := Ground.data }], guard := none }) (v := ?_) rfl (by kernel_rfl) (by kernel_rfl) (by kernel_rfl) (fun _ _ _ h => h) (Or.inl ⟨by rfl, ?_⟩) (by assumption) ?_
      rotate_left
      · (intro w hSw; (try dsimp only at hSw); go_simp); (try with_reducible rfl)
      try simp only [Act.put, List.setIfInBounds_toArray, List.set_cons_zero, List.set_cons_succ]
      refine wpAnyH_take (i := 10) (oi := { dst := some 28, op := Op.load 23 (Operand.tmp 27), type := 23, pos := "top05_wt47d.go:37", after := #[{ on := 9, ground := Ground.data }], guard := none }) (v := ?_) rfl (by kernel_rfl) (by kernel_rfl) (by kernel_rfl) (fun _ _ _ h => h) (Or.inl ⟨by rfl, ?_⟩) (by assumption) ?_
      rotate_left
      · (intro w hSw; (try dsimp only at hSw); go_simp); (try with_reducible rfl)
      try simp only [Act.put, List.setIfInBounds_toArray, List.set_cons_zero, List.set_cons_succ]
      refine wpAnyH_take (i := 11) (oi := { dst := some 29, op := Op.convert 23 3 (Operand.tmp 28), type := 3, pos := "top05_wt47d.go:37", after := #[{ on := 10, ground := Ground.data }], guard := none }) (v := ?_) rfl (by kernel_rfl) (by kernel_rfl) (by kernel_rfl) (fun _ _ _ h => h) (Or.inl ⟨by rfl, ?_⟩) (by assumption) ?_
      rotate_left
      · (intro w hSw; (try dsimp only at hSw); go_simp); (try with_reducible rfl)
      try simp only [Act.put, List.setIfInBounds_toArray, List.set_cons_zero, List.set_cons_succ]
      refine wpAnyH_take (i := 12) (oi := { dst := some 30, op := Op.move (Operand.tmp 5), type := 3, pos := "top05_wt47d.go:37", after := #[], guard := none }) (v := ?_) rfl (by kernel_rfl) (by kernel_rfl) (by kernel_rfl) (fun _ _ _ h => h) (Or.inl ⟨by rfl, ?_⟩) (by assumption) ?_
      rotate_left
      · (intro w hSw; (try dsimp only at hSw); go_simp); (try with_reducible rfl)
      try simp only [Act.put, List.setIfInBounds_toArray, List.set_cons_zero, List.set_cons_succ]
      refine wpAnyH_take (i := 13) (oi := { dst := some 31, op := Op.binOp BinOp.mul 3 (Operand.const (Value.int IntKind.i64 100)) (Operand.tmp 30) 3, type := 3, pos := "top05_wt47d.go:37", after := #[{ on := 12, ground := Ground.data }], guard := none }) (v := ?_) rfl (by kernel_rfl) (by kernel_rfl) (by kernel_rfl) (fun _ _ _ h => h) (Or.inl ⟨by rfl, ?_⟩) (by assumption) ?_
      rotate_left
      · (intro w hSw; (try dsimp only at hSw); go_simp); (try with_reducible rfl)
      try simp only [Act.put, List.setIfInBounds_toArray, List.set_cons_zero, List.set_cons_succ]
      refine wpAnyH_take (i := 14) (oi := { dst := some 32, op := Op.binOp BinOp.sub 3 (Operand.tmp 29) (Operand.tmp 31) 3, type := 3, pos := "top05_wt47d.go:37", after := #[{ on := 11, ground := Ground.data }, { on := 13, ground := Ground.data }], guard := none }) (v := ?_) rfl (by kernel_rfl) (by kernel_rfl) (by kernel_rfl) (fun _ _ _ h => h) (Or.inl ⟨by rfl, ?_⟩) (by assumption) ?_
      rotate_left
      · (intro w hSw; (try dsimp only at hSw); go_simp); (try with_reducible rfl)
      try simp only [Act.put, List.setIfInBounds_toArray, List.set_cons_zero, List.set_cons_succ]
      refine wpAnyH_take (i := 15) (oi := { dst := some 33, op := Op.build 30 #[(0, Operand.const (Value.int IntKind.i64 100)), (1, Operand.tmp 32)], type := 30, pos := "top05_wt47d.go:37", after := #[{ on := 14, ground := Ground.data }], guard := none }) (v := ?_) rfl (by kernel_rfl) (by kernel_rfl) (by kernel_rfl) (fun _ _ _ h => h) (Or.inl ⟨by rfl, ?_⟩) (by assumption) ?_
      rotate_left
      · (intro w hSw; (try dsimp only at hSw); go_simp); (try with_reducible rfl)
      try simp only [Act.put, List.setIfInBounds_toArray, List.set_cons_zero, List.set_cons_succ]
      refine wpAnyH_ready (rs := [16]) (by kernel_rfl) (by simp) ?_
      refine (AllReadyH.cons (o := { dst := some 34, op := Op.buildSlice 32 2 #[(0, Operand.tmp 24), (1, Operand.tmp 33)], type := 32, pos := "top05_wt47d.go:37", after := #[{ on := 6, ground := Ground.data }, { on := 15, ground := Ground.data }], guard := none }) rfl (fun K hK => ?_) AllReadyH.nil)
      go_simp
      obtain ⟨wz16, hwz⟩ : ∃ v, v = wzd.alloc (Obj.cells #[.int .i64 0, .int .i64 pk, .int .i64 100, .int .i64 (pk - 100 * f)] 30) := ⟨_, rfl⟩
      rw [← hwz]
      have hl : Below wzd.heap.size wzd wz16 := by rw [hwz]; exact below_new _ _
      have hbz16 := bthen hbzd hl
      have iN : Blk wz16 wzd.heap.size 30 [.int .i64 0, .int .i64 pk, .int .i64 100, .int .i64 (pk - 100 * f)] := by rw [hwz]; exact Blk.new _ _ _
      generalize wzd.heap.size = G at iN ⊢
      clear hwz
      have hown := hown.carry hl
      have heach := heach.carry hl
      clear hl
      refine hK.out _ _ (cellb hq hbz16) (fun hHeld1 => ?_)
      clear hK K hHeld0
      try simp only [Act.put, List.setIfInBounds_toArray, List.set_cons_zero, List.set_cons_succ]
      refine wpAnyH_ready (rs := [17]) (by kernel_rfl) (by simp) ?_
      refine (AllReadyH.cons (o := { dst := some 35, op := Op.buildSlice 28 1 #[(0, Operand.tmp 34)], type := 28, pos := "top05_wt47d.go:37", after := #[{ on := 16, ground := Ground.data }], guard := none }) rfl (fun K hK => ?_) AllReadyH.nil)
      go_simp
      obtain ⟨wz17, hwz⟩ : ∃ v, v = wz16.alloc (Obj.cells #[.slice (some ⟨G, 0, none⟩) 2 2] 32) := ⟨_, rfl⟩
      rw [← hwz]
      have hl : Below wz16.heap.size wz16 wz17 := by rw [hwz]; exact below_new _ _
      have hbz17 := bthen hbz16 hl
      have bs : Blk wz17 wz16.heap.size 32 [.slice (some ⟨G, 0, none⟩) 2 2] := by rw [hwz]; exact Blk.new _ _ _
      generalize wz16.heap.size = G2 at bs ⊢
      clear hwz
      have hown := hown.carry hl
      have heach := heach.carry hl
      have iN := iN.carry hl
      clear hl
      refine hK.out _ _ (cellb hq hbz17) (fun hHeld2 => ?_)
      clear hK K hHeld1
      try simp only [Act.put, List.setIfInBounds_toArray, List.set_cons_zero, List.set_cons_succ]
      refine wpAnyH_ready (rs := [18]) (by kernel_rfl) (by simp) ?_
      refine (AllReadyH.cons (o := { dst := some 36, op := Op.call { callee := Callee.builtin Builtin.append, args := #[Operand.tmp 18, Operand.tmp 35], argTypes := #[28, 28] }, type := 28, pos := "top05_wt47d.go:37", after := #[{ on := 0, ground := Ground.data }, { on := 17, ground := Ground.data }], guard := none }) rfl (fun K hK => ?_) AllReadyH.nil)
      have hsz18 := (hbz17).size
      refine wp_append_own wz17 (.tmp 18) (.tmp 35) 28 rfl w.heap.size 32 i0 (.slice none 0 0) 1 24 Try.underlying28 hi hz0 hz1 hz2 rfl (by decide) _ us.length _ rfl hown ⟨G2, 0, none⟩ 1 1 [.slice (some ⟨G, 0, none⟩) 2 2] rfl rfl bs.one (by simp [Value.oneCell']) (by unfold maxLen; have := HUS.out; omega) (by have := HUS.out; omega) hsz18 ?_
      intro v9 wz18 hown9 hgrow9 _
      have hbz18 := (hbz17).grown hgrow9 hsz18 (fun k' hk' => (World.ownsRow.lt hown k' hk').1)
      have each9 := heach.own_kept hown hgrow9
      have iN9 := Blk.own_kept iN hown (by decide) hgrow9
      refine hK.out _ _ (cellb hq hbz18) (fun hHeld3 => ?_)
      clear hK K hHeld2
      try simp only [Act.put, List.setIfInBounds_toArray, List.set_cons_zero, List.set_cons_succ]
      refine wpAnyH_take (i := 19) (oi := { dst := some 2, op := Op.assign (Operand.tmp 36), type := 28, pos := "top05_wt47d.go:37", after := #[{ on := 18, ground := Ground.data }, { on := 18, ground := Ground.chain }, { on := 0, ground := Ground.phase }, { on := 1, ground := Ground.phase }, { on := 2, ground := Ground.phase }, { on := 3, ground := Ground.phase }, { on := 4, ground := Ground.phase }, { on := 5, ground := Ground.phase }, { on := 6, ground := Ground.phase }, { on := 7, ground := Ground.phase }, { on := 8, ground := Ground.phase }, { on := 9, ground := Ground.phase }, { on := 10, ground := Ground.phase }, { on := 11, ground := Ground.phase }, { on := 12, ground := Ground.phase }, { on := 13, ground := Ground.phase }, { on := 14, ground := Ground.phase }, { on := 15, ground := Ground.phase }, { on := 16, ground := Ground.phase }, { on := 17, ground := Ground.phase }, { on := 18, ground := Ground.phase }], guard := none }) (v := ?_) rfl (by kernel_rfl) (by kernel_rfl) (by kernel_rfl) (fun _ _ _ h => h) (Or.inl ⟨by rfl, ?_⟩) (by assumption) ?_
      rotate_left
      · (intro w hSw; (try dsimp only at hSw); go_simp); (try with_reducible rfl)
      try simp only [Act.put, List.setIfInBounds_toArray, List.set_cons_zero, List.set_cons_succ]
      refine wpAnyH_done (by kernel_rfl) ?_ _
      clear hHeld3
      have hbq := hbz18
      have each10 := each9.snoc iN9 (by rw [HPK.out, HUS.out]) (by rw [HUS.out, HA.out, HFE.out]; rfl)
      go_wp2_with fail
      go_roundw
      case rel => exact ⟨k + 1, us ++ [.slice (some ⟨G, 0, none⟩) 2 2], by omega, by go_num, by simp [HUS.out], by unfold OwnL; rw [List.length_append]; exact hown9, each10, hbq⟩
      case measure => simp [intOf]; omega
    · obtain rfl : k = l.length := by omega
      have d1 : ¬ (l.length : Int) < (l.length : Int) := by omega
      have hL := heach.lines (base := w.heap.size) hown hus hl1
      have HL := Lib.hid hL
      clear hL hus hown heach
      go_wp2_with fail
      go_ret
      exact ⟨⟨_, rfl, HL.out⟩, hB⟩

end Go.Proofs.Ythbeigcalnlkiaa

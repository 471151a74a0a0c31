/- The package harmonic: the edges of a polygon. -/
import Derived.Test.YtpkaoechbmbolaaGreatDoorHarW
namespace Go.Proofs.YtpkaoechbmbolaaGreatDoor
set_option linter.unusedSimpArgs false
set_option linter.unusedVariables false
open Go.RowKit

theorem Blk.own_kept {w w1 : World} {B base e size n : Nat} {T : TypeId} {vs xs : List Value} {v : Value} (h : Blk w B T vs) (ho : w.ownsRow base e size v n xs) (hT : T ≠ e) (hg : w.grownBy w1 v.ownBlock) : Blk w1 B T vs := by
  refine h.kept hg (fun hrow => ?_)
  obtain ⟨h1, h2⟩ := ho
  rcases h2 with ⟨rfl, h2⟩ | ⟨g, cap, cur, rfl, hg', hh, hr⟩
  · simp [Value.ownBlock] at hrow
  · simp [Value.ownBlock] at hrow
    subst hrow
    unfold Blk at h
    rw [hh] at h
    injection h with h
    injection h with _ h3 _
    exact hT h3.symm

theorem Blk.one {w : World} {G : Nat} {T : TypeId} {x : Value} (h : Blk w G T [x]) (j : Nat) (u : Value) (hj : [x][j]? = some u) : w.cell? ((⟨G, 0, none⟩ : Addr).add j) = some u := by
  rw [addr_add, Nat.zero_add]; exact h.cell hj
theorem Blk.news {w : World} {G : Nat} {T : TypeId} {vs : List Value} (h : Blk w G T vs) (j : Nat) (u : Value) (hj : vs[j]? = some u) : w.cell? ((⟨G, 0, none⟩ : Addr).add j) = some u := by
  rw [addr_add, Nat.zero_add]; exact h.cell hj
/-- the call's own slice of edges. -/
def Own4 (base : Nat) (w : World) (v : Value) (l : List I4) : Prop := w.ownsRow base 122 4 v l.length (flat4 l)
theorem Own4.carry {base : Nat} {w w' : World} {v : Value} {l : List I4} (h : Own4 base w v l) (hb : Below w.heap.size w w') : Own4 base w' v l := own_below h hb
theorem upto_len4 (l : List (Int × Int)) (k : Nat) : (upto (edgeK l) k).length = k := upto_length _ _

set_option maxRecDepth 100000 in
set_option maxHeartbeats 2000000 in
theorem edges_any (v : Value) (l : List (Int × Int)) (w : World) (hv : Pairs w v l) (hl : l.length ≤ 1000000) :
    Calls Tryz.prog 58 #[v] w fun e w' => (∃ u, e = .returned u ∧ Quads w' u (edgesL l)) ∧ Below w.heap.size w w' := by
  obtain ⟨i0, hi, hz0, hz1, hz2⟩ := info_parts Tryz.infoEdge
  obtain ⟨n, hn⟩ : ∃ n, n = l.length := ⟨_, rfl⟩
  obtain ⟨a, cp, rfl, _, hcs0⟩ := id hv
  rw [← hn] at hcs0 hl ⊢
  have hcs : ∀ k : Nat, k < n → ∃ b off, a = some ⟨b, off, none⟩ ∧ w.cell? ⟨b, off + k * 2, none⟩ = some (.int .i64 (l[k]?.getD (0, 0)).1) ∧ w.cell? ⟨b, off + k * 2 + 1, none⟩ = some (.int .i64 (l[k]?.getD (0, 0)).2) ∧ w.cell? ⟨b, off + (k + 1) % n * 2, none⟩ = some (.int .i64 (l[(k + 1) % n]?.getD (0, 0)).1) ∧ w.cell? ⟨b, off + (k + 1) % n * 2 + 1, none⟩ = some (.int .i64 (l[(k + 1) % n]?.getD (0, 0)).2) := fun k hk => by
    obtain ⟨b, off, rfl, hc⟩ := hcs0 (by omega)
    have h1 : (k + 1) % n < n := Nat.mod_lt _ (by omega)
    have e1 := hc k (l[k]'(by omega)) (List.getElem?_eq_getElem (by omega))
    have e2 := hc ((k + 1) % n) (l[(k + 1) % n]'(by omega)) (List.getElem?_eq_getElem (by omega))
    refine ⟨b, off, rfl, ?_⟩
    rw [List.getElem?_eq_getElem (show k < l.length by omega), List.getElem?_eq_getElem (show (k + 1) % n < l.length by omega)]
    exact ⟨e1.1, e1.2, e2.1, e2.2⟩
  have HC := Lib.hid hcs
  have HN := Lib.hid hn
  clear hv hcs0 hcs hn
  go_enter Tryz.func58, Tryz.ntmps58
  go_wp2_with fail
  go_loopw [3, 8] (fun v i wr => ∃ k : Nat, k ≤ n ∧ i = .int .i64 k ∧ Own4 w.heap.size wr v (upto (edgeK l) k) ∧ Below w.heap.size w wr) (fun _ i _ => n - (intOf i).toNat)
  case atStart => exact ⟨0, by omega, rfl, World.ownsRow_nil _ _ _ _, Below.refl _ _⟩
  case round =>
    obtain ⟨k, hk, rfl, hown, hB⟩ := hrel
    by_cases hlt : k < n
    · obtain ⟨b, off, rfl, c0, c1, c2, c3⟩ := HC.out k hlt
      have c0 := cellb c0 hB
      have c1 := cellb c1 hB
      have c2 := cellb c2 hB
      have c3 := cellb c3 hB
      have hx : cells4 (edgeK l k) = [.int .i64 (l[k]?.getD (0, 0)).1, .int .i64 (l[k]?.getD (0, 0)).2, .int .i64 (l[(k + 1) % n]?.getD (0, 0)).1, .int .i64 (l[(k + 1) % n]?.getD (0, 0)).2] := by
        rw [HN.out]; rfl
      have r2 : ((k : Int) + 1).tmod (n : Int) = (((k + 1) % n : Nat) : Int) := rfl
      have r3 : (((k + 1) % n : Nat) : Int) < (n : Int) := by have := Nat.mod_lt (k + 1) (show 0 < n by omega); omega
      generalize (l[k]?.getD (0, 0)).1 = a1 at c0 hx
      generalize (l[k]?.getD (0, 0)).2 = a2 at c1 hx
      obtain ⟨b1, hb1⟩ : ∃ b1, b1 = (l[(k + 1) % n]?.getD (0, 0)).1 := ⟨_, rfl⟩
      obtain ⟨b2, hb2⟩ : ∃ b2, b2 = (l[(k + 1) % n]?.getD (0, 0)).2 := ⟨_, rfl⟩
      rw [← hb1] at c2 hx
      rw [← hb2] at c3 hx
      obtain ⟨m, hm⟩ : ∃ m, m = (k + 1) % n := ⟨_, rfl⟩
      rw [← hm] at c2 c3 r2 r3 hb1 hb2
      have HM := Lib.hid (show (k + 1) % n = m ∧ (l[m]?.getD (0, 0)).1 = b1 ∧ (l[m]?.getD (0, 0)).2 = b2 from ⟨hm.symm, hb1.symm, hb2.symm⟩)
      clear hm hb1 hb2
      have HX := Lib.hid hx
      clear hx
      have r1 : IntKind.i64.wrap ((k : Int) + 1) = (k : Int) + 1 := IntWalk.i64_in _ (by omega)
      have r0 : n ≠ 0 := by omega
      have d1 : (k : Int) < (n : Int) := by omega
      have r5 : (0 : Int) ≤ (m : Int) := by omega
      go_upto_region 5 with fail
      obtain ⟨W3, hW3⟩ : ∃ v, v = World.alloc wr (Obj.cells #[.int .i64 a1, .int .i64 a2] 63) := ⟨_, rfl⟩
      have kW3 : Below wr.heap.size wr W3 := by rw [hW3]; exact below_new _ _
      have iW3 : Blk W3 (wr.heap.size) 63 [.int .i64 a1, .int .i64 a2] := by rw [hW3]; exact Blk.new _ _ _
      have sW3 : W3.heap.size = wr.heap.size + 1 := by rw [hW3]; simp
      rw [← hW3]
      clear hW3
      have i3 := iW3
      obtain ⟨B3, hB3⟩ : ∃ B, B = wr.heap.size := ⟨_, rfl⟩
      rw [← hB3] at i3 ⊢
      replace hown := hown.carry kW3
      have hbw := bthen hB kW3
      obtain ⟨b', off', hbb, x0, x1, x2, x3⟩ := HC.out k hlt
      obtain ⟨rfl, rfl⟩ : b' = b ∧ off' = off := by simp at hbb; exact ⟨hbb.1.symm, hbb.2.symm⟩
      rw [HM.out.1] at x2 x3
      rw [HM.out.2.1] at x2
      rw [HM.out.2.2] at x3
      clear c0 c1 c2 c3 iW3 kW3 sW3 hB hB3 hbb x0 x1
      refine wp_region_held_drew (S := (fun W => Blk W B3 63 [.int .i64 a1, .int .i64 a2] ∧ W.cell? ⟨b', off' + m * 2, none⟩ = some (.int .i64 b1) ∧ W.cell? ⟨b', off' + m * 2 + 1, none⟩ = some (.int .i64 b2))) (by kernel_rfl) ⟨i3, cellb x2 hbw.drew, cellb x3 hbw.drew⟩ (fun hHeld0 => ?_)
      obtain ⟨wzd, hwz⟩ : ∃ v, v = W3.drew := ⟨_, rfl⟩
      rw [← hwz] at hHeld0 ⊢
      have hbzd : Below w.heap.size w wzd := by rw [hwz]; exact hbw.drew
      have hlzd : Below W3.heap.size W3 wzd := by rw [hwz]; exact (Below.refl _ _).drew
      have hown := hown.carry hlzd
      have i3 := i3.carry hlzd
      clear hwz hlzd
      refine wpAnyH_take (i := 0) (oi := { dst := some 13, op := Op.move (Operand.tmp 3), type := 119, pos := "filter.go:122", after := #[], guard := none }) (v := ?_) rfl (by kernel_rfl) (by kernel_rfl) (by kernel_rfl) (fun _ _ _ h => h) (Or.inl ⟨by rfl, ?_⟩) (by assumption) ?_
      rotate_left
      · (intro w hSw; (try dsimp only at hSw); go_simp); (try with_reducible rfl)
      try simp only [Act.put, List.setIfInBounds_toArray, List.set_cons_zero, List.set_cons_succ]
      refine wpAnyH_take (i := 1) (oi := { dst := some 14, op := Op.load 63 (Operand.tmp 5), type := 63, pos := "filter.go:122", after := #[], guard := none }) (v := ?_) rfl (by kernel_rfl) (by kernel_rfl) (by kernel_rfl) (fun _ _ _ h => h) (Or.inl ⟨by rfl, ?_⟩) (by assumption) ?_
      rotate_left
      · (intro w hSw; (try dsimp only at hSw); have q0 := hSw.1.cell (j := 0) (v := .int .i64 a1) rfl; have q1 := hSw.1.cell (j := 1) (v := .int .i64 a2) rfl; clear hSw; go_simp); (try with_reducible rfl)
      try simp only [Act.put, List.setIfInBounds_toArray, List.set_cons_zero, List.set_cons_succ]
      refine wpAnyH_take (i := 2) (oi := { dst := some 15, op := Op.move (Operand.tmp 0), type := 25, pos := "filter.go:122", after := #[], guard := none }) (v := ?_) rfl (by kernel_rfl) (by kernel_rfl) (by kernel_rfl) (fun _ _ _ h => h) (Or.inl ⟨by rfl, ?_⟩) (by assumption) ?_
      rotate_left
      · (intro w hSw; (try dsimp only at hSw); go_simp); (try with_reducible rfl)
      try simp only [Act.put, List.setIfInBounds_toArray, List.set_cons_zero, List.set_cons_succ]
      refine wpAnyH_take (i := 3) (oi := { dst := some 16, op := Op.move (Operand.tmp 4), type := 3, pos := "filter.go:122", after := #[], guard := none }) (v := ?_) rfl (by kernel_rfl) (by kernel_rfl) (by kernel_rfl) (fun _ _ _ h => h) (Or.inl ⟨by rfl, ?_⟩) (by assumption) ?_
      rotate_left
      · (intro w hSw; (try dsimp only at hSw); go_simp); (try with_reducible rfl)
      try simp only [Act.put, List.setIfInBounds_toArray, List.set_cons_zero, List.set_cons_succ]
      refine wpAnyH_take (i := 4) (oi := { dst := some 17, op := Op.binOp BinOp.add 3 (Operand.tmp 16) (Operand.const (Value.int IntKind.i64 1)) 3, type := 3, pos := "filter.go:122", after := #[{ on := 3, ground := Ground.data }], guard := none }) (v := ?_) rfl (by kernel_rfl) (by kernel_rfl) (by kernel_rfl) (fun _ _ _ h => h) (Or.inl ⟨by rfl, ?_⟩) (by assumption) ?_
      rotate_left
      · (intro w hSw; (try dsimp only at hSw); go_simp); (try with_reducible rfl)
      try simp only [Act.put, List.setIfInBounds_toArray, List.set_cons_zero, List.set_cons_succ]
      refine wpAnyH_take (i := 5) (oi := { dst := some 18, op := Op.move (Operand.tmp 0), type := 25, pos := "filter.go:122", after := #[], guard := none }) (v := ?_) rfl (by kernel_rfl) (by kernel_rfl) (by kernel_rfl) (fun _ _ _ h => h) (Or.inl ⟨by rfl, ?_⟩) (by assumption) ?_
      rotate_left
      · (intro w hSw; (try dsimp only at hSw); go_simp); (try with_reducible rfl)
      try simp only [Act.put, List.setIfInBounds_toArray, List.set_cons_zero, List.set_cons_succ]
      refine wpAnyH_take (i := 6) (oi := { dst := some 19, op := Op.call { callee := Callee.builtin Builtin.len, args := #[Operand.tmp 18], argTypes := #[25] }, type := 3, pos := "filter.go:122", after := #[{ on := 5, ground := Ground.data }], guard := none }) (v := ?_) rfl (by kernel_rfl) (by kernel_rfl) (by kernel_rfl) (fun _ _ _ h => h) (Or.inl ⟨by rfl, ?_⟩) (by assumption) ?_
      rotate_left
      · (intro w hSw; (try dsimp only at hSw); go_simp); (try with_reducible rfl)
      try simp only [Act.put, List.setIfInBounds_toArray, List.set_cons_zero, List.set_cons_succ]
      refine wpAnyH_take (i := 7) (oi := { dst := some 20, op := Op.binOp BinOp.rem 3 (Operand.tmp 17) (Operand.tmp 19) 3, type := 3, pos := "filter.go:122", after := #[{ on := 4, ground := Ground.data }, { on := 6, ground := Ground.data }], guard := none }) (v := ?_) rfl (by kernel_rfl) (by kernel_rfl) (by kernel_rfl) (fun _ _ _ h => h) (Or.inl ⟨by rfl, ?_⟩) (by assumption) ?_
      rotate_left
      · (intro w hSw; (try dsimp only at hSw); go_simp); (try with_reducible rfl)
      try simp only [Act.put, List.setIfInBounds_toArray, List.set_cons_zero, List.set_cons_succ]
      refine wpAnyH_take (i := 8) (oi := { dst := some 21, op := Op.indexAddr 25 (Operand.tmp 15) (Operand.tmp 20), type := 0, pos := "filter.go:122", after := #[{ on := 2, ground := Ground.data }, { on := 7, ground := Ground.data }], guard := none }) (v := ?_) rfl (by kernel_rfl) (by kernel_rfl) (by kernel_rfl) (fun _ _ _ h => h) (Or.inl ⟨by rfl, ?_⟩) (by assumption) ?_
      rotate_left
      · (intro w hSw; (try dsimp only at hSw); go_simp); (try with_reducible rfl)
      try simp only [Act.put, List.setIfInBounds_toArray, List.set_cons_zero, List.set_cons_succ]
      refine wpAnyH_take (i := 9) (oi := { dst := some 22, op := Op.load 63 (Operand.tmp 21), type := 63, pos := "filter.go:122", after := #[{ on := 8, ground := Ground.data }], guard := none }) (v := ?_) rfl (by kernel_rfl) (by kernel_rfl) (by kernel_rfl) (fun _ _ _ h => h) (Or.inl ⟨by rfl, ?_⟩) (by assumption) ?_
      rotate_left
      · (intro w hSw; (try dsimp only at hSw); go_simp); (try with_reducible rfl)
      try simp only [Act.put, List.setIfInBounds_toArray, List.set_cons_zero, List.set_cons_succ]
      refine wpAnyH_take (i := 10) (oi := { dst := some 23, op := Op.build 122 #[(0, Operand.tmp 14), (1, Operand.tmp 22)], type := 122, pos := "filter.go:122", after := #[{ on := 1, ground := Ground.data }, { on := 9, ground := Ground.data }], guard := none }) (v := ?_) rfl (by kernel_rfl) (by kernel_rfl) (by kernel_rfl) (fun _ _ _ h => h) (Or.inl ⟨by rfl, ?_⟩) (by assumption) ?_
      rotate_left
      · (intro w hSw; (try dsimp only at hSw); go_simp); (try with_reducible rfl)
      try simp only [Act.put, List.setIfInBounds_toArray, List.set_cons_zero, List.set_cons_succ]
      refine wpAnyH_ready (rs := [11]) (by kernel_rfl) (by simp) ?_
      refine (AllReadyH.cons (o := { dst := some 24, op := Op.buildSlice 119 1 #[(0, Operand.tmp 23)], type := 119, pos := "filter.go:122", after := #[{ on := 10, ground := Ground.data }], guard := none }) rfl (fun K hK => ?_) AllReadyH.nil)
      go_simp
      obtain ⟨wz11, hwz⟩ : ∃ v, v = wzd.alloc (Obj.cells #[.int .i64 a1, .int .i64 a2, .int .i64 b1, .int .i64 b2] 122) := ⟨_, rfl⟩
      rw [← hwz]
      have hl : Below wzd.heap.size wzd wz11 := by rw [hwz]; exact below_new _ _
      have hbz11 := bthen hbzd hl
      have iN : Blk wz11 wzd.heap.size 122 [.int .i64 a1, .int .i64 a2, .int .i64 b1, .int .i64 b2] := by rw [hwz]; exact Blk.new _ _ _
      generalize wzd.heap.size = G at iN ⊢
      clear hwz
      have hown := hown.carry hl
      have i3 := i3.carry hl
      clear hl
      refine hK.out _ _ ⟨i3, cellb x2 hbz11, cellb x3 hbz11⟩ (fun hHeld1 => ?_)
      clear hK K hHeld0
      try simp only [Act.put, List.setIfInBounds_toArray, List.set_cons_zero, List.set_cons_succ]
      refine wpAnyH_ready (rs := [12]) (by kernel_rfl) (by simp) ?_
      refine (AllReadyH.cons (o := { dst := some 25, op := Op.call { callee := Callee.builtin Builtin.append, args := #[Operand.tmp 13, Operand.tmp 24], argTypes := #[119, 119] }, type := 119, pos := "filter.go:122", after := #[{ on := 0, ground := Ground.data }, { on := 11, ground := Ground.data }], guard := none }) rfl (fun K hK => ?_) AllReadyH.nil)
      have hsz := (hbz11).size
      refine wp_append_own wz11 (.tmp 13) (.tmp 24) 119 rfl w.heap.size 122 i0 (.agg #[.int .i64 0, .int .i64 0, .int .i64 0, .int .i64 0]) 4 32 Tryz.underlying119 hi hz0 hz1 hz2 rfl (by decide) _ k _ rfl (by have h9 := hown; unfold Own4 at h9; rw [upto_len4] at h9; exact h9) ⟨G, 0, none⟩ 1 1 [.int .i64 a1, .int .i64 a2, .int .i64 b1, .int .i64 b2] rfl rfl iN.news (by simp [Value.oneCell']) (by unfold maxLen; omega) (by omega) hsz ?_
      intro v9 wz12 hown9 hgrow9 _
      have hbz12 := (hbz11).grown hgrow9 hsz (fun k' hk' => (World.ownsRow.lt hown k' hk').1)
      replace i3 := Blk.own_kept i3 hown (by decide) hgrow9
      refine hK.out _ _ ⟨i3, cellb x2 hbz12, cellb x3 hbz12⟩ (fun hHeld2 => ?_)
      clear hK K hHeld1
      try simp only [Act.put, List.setIfInBounds_toArray, List.set_cons_zero, List.set_cons_succ]
      refine wpAnyH_take (i := 13) (oi := { dst := some 3, op := Op.assign (Operand.tmp 25), type := 119, pos := "filter.go:122", after := #[{ on := 12, ground := Ground.data }, { on := 12, ground := Ground.chain }, { on := 0, ground := Ground.phase }, { on := 1, ground := Ground.phase }, { on := 2, ground := Ground.phase }, { on := 3, ground := Ground.phase }, { on := 4, ground := Ground.phase }, { on := 5, ground := Ground.phase }, { on := 6, ground := Ground.phase }, { on := 7, ground := Ground.phase }, { on := 8, ground := Ground.phase }, { on := 9, ground := Ground.phase }, { on := 10, ground := Ground.phase }, { on := 11, ground := Ground.phase }, { on := 12, ground := Ground.phase }], guard := none }) (v := ?_) rfl (by kernel_rfl) (by kernel_rfl) (by kernel_rfl) (fun _ _ _ h => h) (Or.inl ⟨by rfl, ?_⟩) (by assumption) ?_
      rotate_left
      · (intro w hSw; (try dsimp only at hSw); go_simp); (try with_reducible rfl)
      try simp only [Act.put, List.setIfInBounds_toArray, List.set_cons_zero, List.set_cons_succ]
      refine wpAnyH_done (by kernel_rfl) ?_ _
      clear hHeld2
      have hB := hbz12
      obtain ⟨W4, hW4⟩ : ∃ v, v = wz12 := ⟨_, rfl⟩
      rw [← hW4] at hB hown9 ⊢
      clear hW4
      have hown4 : Own4 w.heap.size W4 v9 (upto (edgeK l) (k + 1)) := by
        unfold Own4
        rw [upto_len4, flat4_succ, HX.out]
        exact hown9
      clear hown9
      go_wp2
      go_roundw
      case rel => exact ⟨k + 1, by omega, by go_num, hown4, hB⟩
      case measure => simp [intOf]; omega
    · obtain rfl : k = n := by omega
      have hout : Quads wr u3 (edgesL l) := Quads.of_own (e := 122) (base := w.heap.size) (by have h9 := hown; unfold Own4 at h9; rw [edgesL, ← HN.out]; exact h9)
      go_wp2
      go_ret
      exact ⟨⟨_, rfl, hout⟩, hB⟩
end Go.Proofs.YtpkaoechbmbolaaGreatDoor

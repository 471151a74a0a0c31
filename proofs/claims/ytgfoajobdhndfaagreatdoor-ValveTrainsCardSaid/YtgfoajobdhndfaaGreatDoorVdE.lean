/- The reference of chapter 7: Bumps. -/
import Derived.Test.YtgfoajobdhndfaaGreatDoorVdB
namespace Go.Proofs.YtgfoajobdhndfaaGreatDoor
section
set_option linter.unusedSimpArgs false
set_option linter.unusedVariables false
open Go.RowKit

theorem ints_len {l : List P2} {k : Nat} {x : P2} (hx : l[k]? = some x) : l[k]?.getD (0, 0) = x := by rw [hx]; rfl
set_option maxRecDepth 100000 in
set_option maxHeartbeats 4000000 in
theorem BumpsR_any (v : Value) (l : List P2) (lim : Int) (w : World) (hl : l.length ≤ 1000000) (hok : TrOk l) (hv : Prs w v l) :
    Calls Tryz.prog 14 #[v, .int .i64 lim] w fun r w' => (∃ u, r = .returned u ∧ w'.ownsRow w.heap.size 3 1 u (bumpsL l lim).length ((bumpsL l lim).map (Value.int .i64))) ∧ Below w.heap.size w w' := by
  have HV := Lib.hid hv
  have HOK := Lib.hid hok
  obtain ⟨a, cp, rfl, -⟩ := hv.slice
  obtain ⟨i0, hi, hz0, hz1, hz2⟩ := info_parts Tryz.infZint
  obtain ⟨N, hN⟩ : ∃ N, N = l.length := ⟨_, rfl⟩
  rw [← hN] at HV hl ⊢
  obtain ⟨M, hM⟩ : ∃ M, M = N - 1 := ⟨_, rfl⟩
  have hbl : bumpsL l lim = bumpK l lim M := by unfold bumpsL; rw [← hN, hM]
  rw [hbl]
  have HN := Lib.hid hN
  have HM := Lib.hid hM
  have hMN : M ≤ N := by omega
  clear hN hv hok hbl hM
  go_enter Tryz.func14, Tryz.ntmps14
  go_wp2_with fail
  go_loopw [5, 6] (fun u i wr => ∃ k : Nat, k ≤ M ∧ i = .int .i64 ((k : Int) + 1) ∧ wr.ownsRow w.heap.size 3 1 u (bumpK l lim k).length ((bumpK l lim k).map (Value.int .i64)) ∧ Below w.heap.size w wr) (fun _ i _ => M + 1 - (intOf i).toNat)
  case atStart => exact ⟨0, by omega, rfl, World.ownsRow_nil _ _ _ _, Below.refl _ _⟩
  case round =>
    obtain ⟨k, hk, rfl, hown, hbel⟩ := hrel
    have hMN2 := HM.out
    by_cases hlt : k < M
    · have hdk : (k : Int) + 1 < (N : Int) := by omega
      obtain ⟨b, off, cp', he, hcs⟩ := (HV.out.carry hbel).head (by rw [← HN.out]; omega)
      simp only [Value.slice.injEq] at he
      obtain ⟨rfl, -, rfl⟩ := he
      obtain ⟨x, hx⟩ : ∃ x, l[k + 1]? = some x := ⟨_, List.getElem?_eq_getElem (by rw [← HN.out]; omega)⟩
      obtain ⟨y, hy⟩ : ∃ y, l[k]? = some y := ⟨_, List.getElem?_eq_getElem (by rw [← HN.out]; omega)⟩
      obtain ⟨c0, c1⟩ := rw2 (hcs (k + 1) x hx) (show pV x = [.int .i64 x.1, .int .i64 x.2] from rfl)
      obtain ⟨q0, q1⟩ := rw2 (hcs k y hy) (show pV y = [.int .i64 y.1, .int .i64 y.2] from rfl)
      have hx9 := (HOK.out.at (k + 1)).2
      have hy9 := (HOK.out.at k).2
      rw [ints_len hx] at hx9
      rw [ints_len hy] at hy9
      have hP : popC (chgV l k) = difK x.2 y.2 12 := by
        unfold chgV
        rw [ints_len hx, ints_len hy]
        exact popC_dif hx9 hy9
      have hbs := bumpK_succ l lim k
      rw [hP, ints_len hx] at hbs
      obtain ⟨x0, x1⟩ := x
      obtain ⟨y0, y1⟩ := y
      dsimp only at c0 c1 q0 q1 hx9 hy9 hbs
      have HX := Lib.hid hx9
      have HY := Lib.hid hy9
      have HBS := Lib.hid hbs
      have hLe := bumpK_len l lim k
      obtain ⟨NB, hNB⟩ : ∃ N, N = (bumpK l lim k).length := ⟨_, rfl⟩
      rw [← hNB] at hown hLe
      have HNB := Lib.hid hNB
      obtain ⟨oa, oc, rfl⟩ := own_slice hown
      have r1 : IntKind.i64.wrap ((k : Int) + 1 - 1) = (k : Int) := by rw [show (k : Int) + 1 - 1 = k by omega]; exact IntWalk.i64_in _ (by omega)
      have r2 : IntKind.i64.wrap (k : Int) = (k : Int) := IntWalk.i64_in _ (by omega)
      have r3 : max 0 (k : Int) = k := by omega
      have r4 : (k : Int) < (N : Int) := by omega
      have r5 : (0 : Int) ≤ (k : Int) + 1 := by omega
      have r6 : (0 : Int) ≤ (k : Int) := by omega
      have r7 : ((k : Int) + 1).toNat = k + 1 := by omega
      clear hP hbs hx hy hcs hx9 hy9 hNB hMN2
      obtain ⟨W5, hW5⟩ : ∃ W5, W5 = wr := ⟨_, rfl⟩
      subst hW5
      go_wp2_with fail
      go_loopw [7, 8] (fun c i wx => ∃ j : Nat, j ≤ 12 ∧ i = .int .i64 j ∧ c = .int .i64 (difK x1 y1 j) ∧ Below W5.heap.size W5 wx) (fun _ i _ => 12 - (intOf i).toNat)
      case atStart => exact ⟨0, by omega, rfl, rfl, Below.refl _ _⟩
      case round =>
        obtain ⟨j, hj, rfl, rfl, hb5⟩ := hrel
        replace c0 := cellb c0 hb5
        replace c1 := cellb c1 hb5
        replace q0 := cellb q0 hb5
        replace q1 := cellb q1 hb5
        by_cases hj2 : j < 12
        · have T0 := Lib.hid (fun W => Has_any x1 j W (by have := HX.out; omega) (by omega))
          have T1 := Lib.hid (fun W => Has_any y1 j W (by have := HY.out; omega) (by omega))
          have hds : difK x1 y1 (j + 1) = difK x1 y1 j + (if hasR x1 j != hasR y1 j then 1 else 0) := rfl
          have hdr := difK_rng x1 y1 j
          obtain ⟨B0, hB0⟩ : ∃ b, b = hasR x1 j := ⟨_, rfl⟩
          obtain ⟨B1, hB1⟩ : ∃ b, b = hasR y1 j := ⟨_, rfl⟩
          obtain ⟨D, hD⟩ : ∃ d, d = difK x1 y1 j := ⟨_, rfl⟩
          rw [← hB0] at T0 hds
          rw [← hB1] at T1 hds
          rw [← hD] at hds hdr ⊢
          have hc0 : (B0 != B1) = !(B0 == B1) := rfl
          rw [hc0] at hds
          obtain ⟨c, hc⟩ : ∃ c, (!(B0 == B1)) = c := ⟨_, rfl⟩
          rw [hc] at hds
          have HDS := Lib.hid hds
          have e6 : (j : Int) < 12 := by omega
          clear hB0 hB1 hD hds hc0
          go_upto_region 9 with fail
          refine wp_region_E 99 (by kernel_rfl) ?_
          obtain ⟨wz, hwz⟩ : ∃ v, v = wr.drew := ⟨_, rfl⟩
          rw [← hwz]
          have hlz : Below wr.heap.size wr wz := by rw [hwz]; exact (Below.refl _ _).drew
          have hbz := bthen hb5 hlz
          have c0 := cellb c0 hlz
          have c1 := cellb c1 hlz
          have q0 := cellb q0 hlz
          have q1 := cellb q1 hlz
          clear hwz hlz
          refine wpAnyE_take (i := 0) (oi := { dst := some 19, op := Op.move (Operand.tmp 0), type := 22, pos := "ref.go:200", after := #[], guard := none }) (v := ?_) rfl (by kernel_rfl) (by kernel_rfl) (by kernel_rfl) (by kernel_rfl) (fun _ _ _ h => h) (Or.inl ⟨by rfl, ?_⟩) ?_
          rotate_left
          · (intro w hE; have c0 := cellb c0 hE; have c1 := cellb c1 hE; have q0 := cellb q0 hE; have q1 := cellb q1 hE; (try dsimp only); go_simp); (try with_reducible rfl)
          try simp only [Act.put, zSa, zSz, zSs]
          refine wpAnyE_take (i := 1) (oi := { dst := some 20, op := Op.move (Operand.tmp 6), type := 3, pos := "ref.go:200", after := #[], guard := none }) (v := ?_) rfl (by kernel_rfl) (by kernel_rfl) (by kernel_rfl) (by kernel_rfl) (fun _ _ _ h => h) (Or.inl ⟨by rfl, ?_⟩) ?_
          rotate_left
          · (intro w hE; have c0 := cellb c0 hE; have c1 := cellb c1 hE; have q0 := cellb q0 hE; have q1 := cellb q1 hE; (try dsimp only); go_simp); (try with_reducible rfl)
          try simp only [Act.put, zSa, zSz, zSs]
          refine wpAnyE_take (i := 2) (oi := { dst := some 21, op := Op.indexAddr 22 (Operand.tmp 19) (Operand.tmp 20), type := 0, pos := "ref.go:200", after := #[{ on := 0, ground := Ground.data }, { on := 1, ground := Ground.data }], guard := none }) (v := ?_) rfl (by kernel_rfl) (by kernel_rfl) (by kernel_rfl) (by kernel_rfl) (fun _ _ _ h => h) (Or.inl ⟨by rfl, ?_⟩) ?_
          rotate_left
          · (intro w hE; have c0 := cellb c0 hE; have c1 := cellb c1 hE; have q0 := cellb q0 hE; have q1 := cellb q1 hE; (try dsimp only); go_simp); (try with_reducible rfl)
          try simp only [Act.put, zSa, zSz, zSs]
          refine wpAnyE_take (i := 3) (oi := { dst := some 22, op := Op.fieldAddr 79 (Operand.tmp 21) 1, type := 0, pos := "ref.go:200", after := #[{ on := 2, ground := Ground.data }], guard := none }) (v := ?_) rfl (by kernel_rfl) (by kernel_rfl) (by kernel_rfl) (by kernel_rfl) (fun _ _ _ h => h) (Or.inl ⟨by rfl, ?_⟩) ?_
          rotate_left
          · (intro w hE; have c0 := cellb c0 hE; have c1 := cellb c1 hE; have q0 := cellb q0 hE; have q1 := cellb q1 hE; (try dsimp only); go_simp); (try with_reducible rfl)
          try simp only [Act.put, zSa, zSz, zSs]
          refine wpAnyE_take (i := 4) (oi := { dst := some 23, op := Op.load 3 (Operand.tmp 22), type := 3, pos := "ref.go:200", after := #[{ on := 3, ground := Ground.data }], guard := none }) (v := ?_) rfl (by kernel_rfl) (by kernel_rfl) (by kernel_rfl) (by kernel_rfl) (fun _ _ _ h => h) (Or.inl ⟨by rfl, ?_⟩) ?_
          rotate_left
          · (intro w hE; have c0 := cellb c0 hE; have c1 := cellb c1 hE; have q0 := cellb q0 hE; have q1 := cellb q1 hE; (try dsimp only); go_simp); (try with_reducible rfl)
          try simp only [Act.put, zSa, zSz, zSs]
          refine wpAnyE_take (i := 5) (oi := { dst := some 24, op := Op.move (Operand.tmp 8), type := 3, pos := "ref.go:200", after := #[], guard := none }) (v := ?_) rfl (by kernel_rfl) (by kernel_rfl) (by kernel_rfl) (by kernel_rfl) (fun _ _ _ h => h) (Or.inl ⟨by rfl, ?_⟩) ?_
          rotate_left
          · (intro w hE; have c0 := cellb c0 hE; have c1 := cellb c1 hE; have q0 := cellb q0 hE; have q1 := cellb q1 hE; (try dsimp only); go_simp); (try with_reducible rfl)
          try simp only [Act.put, zSa, zSz, zSs]
          refine wpAnyE_take (i := 7) (oi := { dst := some 26, op := Op.move (Operand.tmp 0), type := 22, pos := "ref.go:200", after := #[], guard := none }) (v := ?_) rfl (by kernel_rfl) (by kernel_rfl) (by kernel_rfl) (by kernel_rfl) (fun _ _ _ h => h) (Or.inl ⟨by rfl, ?_⟩) ?_
          rotate_left
          · (intro w hE; have c0 := cellb c0 hE; have c1 := cellb c1 hE; have q0 := cellb q0 hE; have q1 := cellb q1 hE; (try dsimp only); go_simp); (try with_reducible rfl)
          try simp only [Act.put, zSa, zSz, zSs]
          refine wpAnyE_take (i := 8) (oi := { dst := some 27, op := Op.move (Operand.tmp 6), type := 3, pos := "ref.go:200", after := #[], guard := none }) (v := ?_) rfl (by kernel_rfl) (by kernel_rfl) (by kernel_rfl) (by kernel_rfl) (fun _ _ _ h => h) (Or.inl ⟨by rfl, ?_⟩) ?_
          rotate_left
          · (intro w hE; have c0 := cellb c0 hE; have c1 := cellb c1 hE; have q0 := cellb q0 hE; have q1 := cellb q1 hE; (try dsimp only); go_simp); (try with_reducible rfl)
          try simp only [Act.put, zSa, zSz, zSs]
          refine wpAnyE_take (i := 9) (oi := { dst := some 28, op := Op.binOp BinOp.sub 3 (Operand.tmp 27) (Operand.const (Value.int IntKind.i64 1)) 3, type := 3, pos := "ref.go:200", after := #[{ on := 8, ground := Ground.data }], guard := none }) (v := ?_) rfl (by kernel_rfl) (by kernel_rfl) (by kernel_rfl) (by kernel_rfl) (fun _ _ _ h => h) (Or.inl ⟨by rfl, ?_⟩) ?_
          rotate_left
          · (intro w hE; have c0 := cellb c0 hE; have c1 := cellb c1 hE; have q0 := cellb q0 hE; have q1 := cellb q1 hE; (try dsimp only); go_simp); (try with_reducible rfl)
          try simp only [Act.put, zSa, zSz, zSs]
          refine wpAnyE_take (i := 10) (oi := { dst := some 29, op := Op.indexAddr 22 (Operand.tmp 26) (Operand.tmp 28), type := 0, pos := "ref.go:200", after := #[{ on := 7, ground := Ground.data }, { on := 9, ground := Ground.data }], guard := none }) (v := ?_) rfl (by kernel_rfl) (by kernel_rfl) (by kernel_rfl) (by kernel_rfl) (fun _ _ _ h => h) (Or.inl ⟨by rfl, ?_⟩) ?_
          rotate_left
          · (intro w hE; have c0 := cellb c0 hE; have c1 := cellb c1 hE; have q0 := cellb q0 hE; have q1 := cellb q1 hE; (try dsimp only); go_simp); (try with_reducible rfl)
          try simp only [Act.put, zSa, zSz, zSs]
          refine wpAnyE_take (i := 11) (oi := { dst := some 30, op := Op.fieldAddr 79 (Operand.tmp 29) 1, type := 0, pos := "ref.go:200", after := #[{ on := 10, ground := Ground.data }], guard := none }) (v := ?_) rfl (by kernel_rfl) (by kernel_rfl) (by kernel_rfl) (by kernel_rfl) (fun _ _ _ h => h) (Or.inl ⟨by rfl, ?_⟩) ?_
          rotate_left
          · (intro w hE; have c0 := cellb c0 hE; have c1 := cellb c1 hE; have q0 := cellb q0 hE; have q1 := cellb q1 hE; (try dsimp only); go_simp); (try with_reducible rfl)
          try simp only [Act.put, zSa, zSz, zSs]
          refine wpAnyE_take (i := 12) (oi := { dst := some 31, op := Op.load 3 (Operand.tmp 30), type := 3, pos := "ref.go:200", after := #[{ on := 11, ground := Ground.data }], guard := none }) (v := ?_) rfl (by kernel_rfl) (by kernel_rfl) (by kernel_rfl) (by kernel_rfl) (fun _ _ _ h => h) (Or.inl ⟨by rfl, ?_⟩) ?_
          rotate_left
          · (intro w hE; have c0 := cellb c0 hE; have c1 := cellb c1 hE; have q0 := cellb q0 hE; have q1 := cellb q1 hE; (try dsimp only); go_simp); (try with_reducible rfl)
          try simp only [Act.put, zSa, zSz, zSs]
          refine wpAnyE_take (i := 13) (oi := { dst := some 32, op := Op.move (Operand.tmp 8), type := 3, pos := "ref.go:200", after := #[], guard := none }) (v := ?_) rfl (by kernel_rfl) (by kernel_rfl) (by kernel_rfl) (by kernel_rfl) (fun _ _ _ h => h) (Or.inl ⟨by rfl, ?_⟩) ?_
          rotate_left
          · (intro w hE; have c0 := cellb c0 hE; have c1 := cellb c1 hE; have q0 := cellb q0 hE; have q1 := cellb q1 hE; (try dsimp only); go_simp); (try with_reducible rfl)
          try simp only [Act.put, zSa, zSz, zSs]
          refine wpAnyE_call (i := 6) (oi := { dst := some 25, op := Op.call { callee := Callee.value (Operand.func 53), args := #[Operand.tmp 23, Operand.tmp 24], argTypes := #[3, 3] }, type := 4, pos := "ref.go:200", after := #[{ on := 4, ground := Ground.data }, { on := 5, ground := Ground.data }], guard := none }) (fun w hE => ofPure (T0.out w)) rfl (by kernel_rfl) (by kernel_rfl) (by kernel_rfl) (by kernel_rfl) (fun _ _ _ h => h) (by rfl) (fun w hE => by (try dsimp only); go_simp) ?_
          try simp only [Act.put, zSa, zSz, zSs]
          refine wpAnyE_call (i := 14) (oi := { dst := some 33, op := Op.call { callee := Callee.value (Operand.func 53), args := #[Operand.tmp 31, Operand.tmp 32], argTypes := #[3, 3] }, type := 4, pos := "ref.go:200", after := #[{ on := 12, ground := Ground.data }, { on := 13, ground := Ground.data }, { on := 6, ground := Ground.chain }], guard := none }) (fun w hE => ofPure (T1.out w)) rfl (by kernel_rfl) (by kernel_rfl) (by kernel_rfl) (by kernel_rfl) (fun _ _ _ h => h) (by rfl) (fun w hE => by (try dsimp only); go_simp) ?_
          try simp only [Act.put, zSa, zSz, zSs]
          refine wpAnyE_take (i := 15) (oi := { dst := some 34, op := Op.binOp BinOp.neq 4 (Operand.tmp 25) (Operand.tmp 33) 4, type := 4, pos := "ref.go:200", after := #[{ on := 6, ground := Ground.data }, { on := 14, ground := Ground.data }], guard := none }) (v := ?_) rfl (by kernel_rfl) (by kernel_rfl) (by kernel_rfl) (by kernel_rfl) (fun _ _ _ h => h) (Or.inl ⟨by rfl, ?_⟩) ?_
          rotate_left
          · (intro w hE; have c0 := cellb c0 hE; have c1 := cellb c1 hE; have q0 := cellb q0 hE; have q1 := cellb q1 hE; (try dsimp only); go_simp); (try with_reducible rfl)
          try simp only [Act.put, zSa, zSz, zSs]
          refine wpAnyE_done (by kernel_rfl) (fun wy1 hE => ?_) _
          have hbz1 := bthen hbz hE
          have c0 := cellb c0 hE
          have c1 := cellb c1 hE
          have q0 := cellb q0 hE
          have q1 := cellb q1 hE
          clear hE
          have hb5 := hbz1
          obtain ⟨W9, hW9⟩ : ∃ v, v = wy1 := ⟨_, rfl⟩
          rw [← hW9] at hb5 ⊢
          clear hW9
          clear c0 c1 q0 q1 T0 T1
          cases c with
          | true =>
            have HD2 := Lib.hid (HDS.out.trans (by rw [if_pos rfl]))
            go_wp2
            go_roundw
            case rel => exact ⟨j + 1, by omega, by go_num, by rw [HD2.out], hb5⟩
            case measure => simp [intOf]; omega
          | false =>
            have HD2 := Lib.hid (HDS.out.trans (by rw [if_neg (by decide), Int.add_zero]))
            go_wp2
            go_roundw
            case rel => exact ⟨j + 1, by omega, by go_num, by rw [HD2.out], hb5⟩
            case measure => simp [intOf]; omega
        · obtain rfl : j = 12 := by omega
          have hbel := bthen hbel hb5
          have hown := own_below hown hb5
          obtain ⟨D, hD⟩ : ∃ d, d = difK x1 y1 12 := ⟨_, rfl⟩
          rw [← hD] at HBS ⊢
          clear hD
          by_cases hp : lim < D
          · have hbs := HBS.out
            rw [if_pos hp] at hbs
            have HBS2 := Lib.hid hbs
            clear hbs HBS
            go_wp2_with (at_builtin; refine wpList_append_own _ rfl _ _ 25 rfl w.heap.size 3 i0 (.int .i64 0) 1 8 Tryz.undZint hi hz0 hz1 hz2 rfl (by decide) (.slice oa NB oc) NB _ rfl (own_below hown (below_new _ _)) ⟨wr.heap.size, 0, none⟩ 1 1 [.int .i64 x0] rfl rfl (cell_one_new _ _ _) (by simp [Value.oneCell']) (by unfold maxLen; omega) (by omega) (by have := hbel.size; simp; omega) ?_; intro v7 w8 hown' hgrow _)
            have hbelN : Below w.heap.size w w8 := (bthen hbel (below_new wr (.cells #[.int .i64 x0] 3))).trans (below_grow (own_below hown (below_new _ _)) (by have := hbel.size; simp; omega) hgrow)
            have hownN : w8.ownsRow w.heap.size 3 1 v7 (bumpK l lim (k + 1)).length ((bumpK l lim (k + 1)).map (Value.int .i64)) := by
              rw [HBS2.out, List.length_append, List.map_append, ← HNB.out]
              exact hown'
            clear hown hown' hgrow hbel c0 c1 q0 q1
            go_wp2
            go_roundw
            case rel => exact ⟨k + 1, by omega, by go_num, hownN, hbelN⟩
            case measure => simp [intOf]; omega
          · have hbs := HBS.out
            rw [if_neg hp, List.append_nil] at hbs
            have HBS2 := Lib.hid hbs
            clear hbs HBS
            go_wp2
            go_roundw
            case rel => exact ⟨k + 1, by omega, by go_num, by rw [HBS2.out, ← HNB.out]; exact hown, hbel⟩
            case measure => simp [intOf]; omega
    · have hkM : k = M := by omega
      have e6 : ¬ (k : Int) + 1 < (N : Int) := by omega
      rw [hkM] at hown
      have hout := hown
      clear hMN2 hkM
      clear hown
      go_wp2
      go_ret
      exact ⟨⟨_, rfl, hout⟩, hbel⟩
end

section
set_option linter.unusedSimpArgs false
set_option linter.unusedVariables false
open Go.RowKit

theorem bit_if {x y : Int} (hx : 0 ≤ x ∧ x ≤ 4095) (hy : 0 ≤ y ∧ y ≤ 4095) (j : Nat) : bitV (bits .xor .i64 x y) j = if (!(hasR x j == hasR y j)) = true then 1 else 0 := bitV_xor hx hy j
set_option maxRecDepth 100000 in
set_option maxHeartbeats 4000000 in
theorem SwitchingsR_any (v : Value) (l : List P2) (w : World) (hl : l.length ≤ 1000000) (hok : TrOk l) (hv : Prs w v l) :
    Calls Tryz.prog 15 #[v] w fun r w' => r = .returned (.agg (ia (swL l))) ∧ Below w.heap.size w w' := by
  have HV := Lib.hid hv
  have HOK := Lib.hid hok
  obtain ⟨a, cp, rfl, -⟩ := hv.slice
  obtain ⟨N, hN⟩ : ∃ N, N = l.length := ⟨_, rfl⟩
  rw [← hN] at HV hl ⊢
  obtain ⟨M, hM⟩ : ∃ M, M = N - 1 := ⟨_, rfl⟩
  have hbl : swR l M 0 = swL l := by rw [hM, hN]; exact swR_last l
  have HBL := Lib.hid hbl
  have HN := Lib.hid hN
  have HM := Lib.hid hM
  have hMN : M ≤ N := by omega
  clear hN hv hok hbl hM
  go_enter Tryz.func15, Tryz.ntmps15
  go_upto_region 2 with fail
  obtain ⟨W1, hW1⟩ : ∃ v, v = World.alloc w (Obj.cells #[.int .i64 0, .int .i64 0, .int .i64 0, .int .i64 0, .int .i64 0, .int .i64 0, .int .i64 0, .int .i64 0, .int .i64 0, .int .i64 0, .int .i64 0, .int .i64 0] 31) := ⟨_, rfl⟩
  have kW1 : Below w.heap.size w W1 := by rw [hW1]; exact below_new _ _
  have iW1 : Blk W1 (w.heap.size) 31 [.int .i64 0, .int .i64 0, .int .i64 0, .int .i64 0, .int .i64 0, .int .i64 0, .int .i64 0, .int .i64 0, .int .i64 0, .int .i64 0, .int .i64 0, .int .i64 0] := by rw [hW1]; exact Blk.new _ _ _
  have sW1 : W1.heap.size = w.heap.size + 1 := by rw [hW1]; simp
  rw [← hW1]
  clear hW1
  obtain ⟨W2, hW2⟩ : ∃ v, v = World.alloc W1 (Obj.cells #[.int .i64 0, .int .i64 0, .int .i64 0, .int .i64 0, .int .i64 0, .int .i64 0, .int .i64 0, .int .i64 0, .int .i64 0, .int .i64 0, .int .i64 0, .int .i64 0] 31) := ⟨_, rfl⟩
  have kW2 : Below W1.heap.size W1 W2 := by rw [hW2]; exact below_new _ _
  have iW2 : Blk W2 (w.heap.size + 1) 31 [.int .i64 0, .int .i64 0, .int .i64 0, .int .i64 0, .int .i64 0, .int .i64 0, .int .i64 0, .int .i64 0, .int .i64 0, .int .i64 0, .int .i64 0, .int .i64 0] := by rw [hW2, ← sW1]; exact Blk.new _ _ _
  have sW2 : W2.heap.size = w.heap.size + 1 + 1 := by rw [hW2]; simp [sW1]
  rw [← hW2]
  clear hW2
  have i2 : BlkI W2 w.heap.size 31 (List.replicate 12 0) := iW1.carry kW2
  have i3 : BlkI W2 (w.heap.size + 1) 31 (List.replicate 12 0) := iW2
  have hB : Below w.heap.size w W2 := bthen kW1 kW2
  rw [← swR_zero l] at i3
  clear iW1 iW2 kW1 kW2 sW1 sW2
  go_wp2_with fail
  go_loopw [4] (fun i wx => ∃ k : Nat, k ≤ M ∧ i = .int .i64 ((k : Int) + 1) ∧ BlkI wx (w.heap.size + 1) 31 (swR l k 0) ∧ BlkI wx w.heap.size 31 (List.replicate 12 0) ∧ Below w.heap.size w wx) (fun i _ => M + 1 - (intOf i).toNat)
  case atStart => exact ⟨0, by omega, rfl, i3, i2, hB⟩
  case round =>
    clear i3 i2 hB
    obtain ⟨k, hk, rfl, i3, i2, hbel⟩ := hrel
    have hMN2 := HM.out
    by_cases hlt : k < M
    · have hdk : (k : Int) + 1 < (N : Int) := by omega
      obtain ⟨b, off, cp', he, -⟩ := HV.out.head (by rw [← HN.out]; omega)
      simp only [Value.slice.injEq] at he
      obtain ⟨rfl, -, rfl⟩ := he
      obtain ⟨x, hx⟩ : ∃ x, l[k + 1]? = some x := ⟨_, List.getElem?_eq_getElem (by rw [← HN.out]; omega)⟩
      obtain ⟨y, hy⟩ : ∃ y, l[k]? = some y := ⟨_, List.getElem?_eq_getElem (by rw [← HN.out]; omega)⟩
      have HCS := Lib.hid (fun W (h : Below w.heap.size w W) => by
        obtain ⟨b', off', cp', he', hcs⟩ := (HV.out.carry h).head (by rw [← HN.out]; omega)
        simp only [Value.slice.injEq, Option.some.injEq, Addr.mk.injEq] at he'
        obtain ⟨⟨rfl, rfl, -⟩, -, -⟩ := he'
        obtain ⟨c0, c1⟩ := rw2 (hcs (k + 1) x hx) (show pV x = [.int .i64 x.1, .int .i64 x.2] from rfl)
        obtain ⟨q0, q1⟩ := rw2 (hcs k y hy) (show pV y = [.int .i64 y.1, .int .i64 y.2] from rfl)
        exact (⟨c1, q1⟩ : W.cell? ⟨b, off + (k + 1) * 2 + 1, none⟩ = some (.int .i64 x.2) ∧ W.cell? ⟨b, off + k * 2 + 1, none⟩ = some (.int .i64 y.2)))
      have hx9 := (HOK.out.at (k + 1)).2
      have hy9 := (HOK.out.at k).2
      rw [ints_len hx] at hx9
      rw [ints_len hy] at hy9
      have HBT := Lib.hid (fun j => show bitV (chgV l k) j = if (!(hasR x.2 j == hasR y.2 j)) = true then 1 else 0 by
        unfold chgV
        rw [ints_len hx, ints_len hy]
        exact bit_if hx9 hy9 j)
      obtain ⟨x0, x1⟩ := x
      obtain ⟨y0, y1⟩ := y
      dsimp only at HCS hx9 hy9 HBT
      have HX := Lib.hid hx9
      have HY := Lib.hid hy9
      have r1 : IntKind.i64.wrap ((k : Int) + 1 - 1) = (k : Int) := by rw [show (k : Int) + 1 - 1 = k by omega]; exact IntWalk.i64_in _ (by omega)
      have r2 : IntKind.i64.wrap (k : Int) = (k : Int) := IntWalk.i64_in _ (by omega)
      have r3 : max 0 (k : Int) = k := by omega
      have r4 : (k : Int) < (N : Int) := by omega
      have r5 : (0 : Int) ≤ (k : Int) + 1 := by omega
      have r6 : (0 : Int) ≤ (k : Int) := by omega
      have r7 : ((k : Int) + 1).toNat = k + 1 := by omega
      clear hx hy hx9 hy9 hMN2
      go_wp2_with fail
      go_loopw [5] (fun i wx => ∃ j : Nat, j ≤ 12 ∧ i = .int .i64 j ∧ BlkI wx (w.heap.size + 1) 31 (swR l k j) ∧ BlkI wx w.heap.size 31 (List.replicate 12 0) ∧ Below w.heap.size w wx) (fun i _ => 12 - (intOf i).toNat)
      case atStart => exact ⟨0, by omega, rfl, i3, i2, hbel⟩
      case round =>
        clear i3 i2 hbel
        obtain ⟨j, hj, rfl, i3, i2, hbel⟩ := hrel
        by_cases hj2 : j < 12
        · obtain ⟨c1, q1⟩ := HCS.out _ hbel
          have T0 := Lib.hid (fun W => Has_any x1 j W (by have := HX.out; omega) (by omega))
          have T1 := Lib.hid (fun W => Has_any y1 j W (by have := HY.out; omega) (by omega))
          have hbt := HBT.out j
          have hat := swR_at l k j hj2
          have hset := swR_set l k j
          have hrg := swS_rng l j k
          rw [hbt] at hset
          have c3 : wr.cell? ⟨w.heap.size + 1, j, none⟩ = some (.int .i64 (swS l j k)) := by
            have := BlkI.cell i3 (j := j) (by rw [swR_len]; exact hj2)
            rw [hat] at this; exact this
          obtain ⟨S, hS⟩ : ∃ S, S = swS l j k := ⟨_, rfl⟩
          obtain ⟨B0, hB0⟩ : ∃ b, b = hasR x1 j := ⟨_, rfl⟩
          obtain ⟨B1, hB1⟩ : ∃ b, b = hasR y1 j := ⟨_, rfl⟩
          rw [← hS] at c3 hset hrg
          rw [← hB0, ← hB1] at hset
          rw [← hB0] at T0
          rw [← hB1] at T1
          obtain ⟨c, hc⟩ : ∃ c, (!(B0 == B1)) = c := ⟨_, rfl⟩
          rw [hc] at hset
          have e6 : (j : Int) < 12 := by omega
          have hB1' : w.heap.size ≤ w.heap.size + 1 := by omega
          have hB2' : w.heap.size ≠ w.heap.size + 1 := by omega
          clear hB0 hB1 hbt hat hS
          cases c with
          | true =>
            rw [if_pos rfl] at hset
            obtain ⟨y, hy⟩ : ∃ y, y = S + 1 := ⟨_, rfl⟩
            have q2 : IntKind.i64.wrap (S + 1) = y := by rw [hy]; exact IntWalk.i64_in _ (by omega)
            rw [← hy] at hset
            have HSET := Lib.hid hset
            clear hset hy hrg
            go_upto_region 8 with fail
            refine wp_region_E 99 (by kernel_rfl) ?_
            obtain ⟨wz, hwz⟩ : ∃ v, v = wr.drew := ⟨_, rfl⟩
            rw [← hwz]
            have hlz : Below wr.heap.size wr wz := by rw [hwz]; exact (Below.refl _ _).drew
            have hbz := bthen hbel hlz
            have c1 := cellb c1 hlz
            have q1 := cellb q1 hlz
            have c3 := cellb c3 hlz
            have i3 := i3.carry hlz
            have i2 := i2.carry hlz
            clear hwz hlz
            refine wpAnyE_take (i := 0) (oi := { dst := some 16, op := Op.move (Operand.tmp 0), type := 22, pos := "ref.go:351", after := #[], guard := none }) (v := ?_) rfl (by kernel_rfl) (by kernel_rfl) (by kernel_rfl) (by kernel_rfl) (fun _ _ _ h => h) (Or.inl ⟨by rfl, ?_⟩) ?_
            rotate_left
            · (intro w hE; have c1 := cellb c1 hE; have q1 := cellb q1 hE; have c3 := cellb c3 hE; (try dsimp only); go_simp); (try with_reducible rfl)
            try simp only [Act.put, zSa, zSz, zSs]
            refine wpAnyE_take (i := 1) (oi := { dst := some 17, op := Op.move (Operand.tmp 4), type := 3, pos := "ref.go:351", after := #[], guard := none }) (v := ?_) rfl (by kernel_rfl) (by kernel_rfl) (by kernel_rfl) (by kernel_rfl) (fun _ _ _ h => h) (Or.inl ⟨by rfl, ?_⟩) ?_
            rotate_left
            · (intro w hE; have c1 := cellb c1 hE; have q1 := cellb q1 hE; have c3 := cellb c3 hE; (try dsimp only); go_simp); (try with_reducible rfl)
            try simp only [Act.put, zSa, zSz, zSs]
            refine wpAnyE_take (i := 2) (oi := { dst := some 18, op := Op.indexAddr 22 (Operand.tmp 16) (Operand.tmp 17), type := 0, pos := "ref.go:351", after := #[{ on := 0, ground := Ground.data }, { on := 1, ground := Ground.data }], guard := none }) (v := ?_) rfl (by kernel_rfl) (by kernel_rfl) (by kernel_rfl) (by kernel_rfl) (fun _ _ _ h => h) (Or.inl ⟨by rfl, ?_⟩) ?_
            rotate_left
            · (intro w hE; have c1 := cellb c1 hE; have q1 := cellb q1 hE; have c3 := cellb c3 hE; (try dsimp only); go_simp); (try with_reducible rfl)
            try simp only [Act.put, zSa, zSz, zSs]
            refine wpAnyE_take (i := 3) (oi := { dst := some 19, op := Op.fieldAddr 79 (Operand.tmp 18) 1, type := 0, pos := "ref.go:351", after := #[{ on := 2, ground := Ground.data }], guard := none }) (v := ?_) rfl (by kernel_rfl) (by kernel_rfl) (by kernel_rfl) (by kernel_rfl) (fun _ _ _ h => h) (Or.inl ⟨by rfl, ?_⟩) ?_
            rotate_left
            · (intro w hE; have c1 := cellb c1 hE; have q1 := cellb q1 hE; have c3 := cellb c3 hE; (try dsimp only); go_simp); (try with_reducible rfl)
            try simp only [Act.put, zSa, zSz, zSs]
            refine wpAnyE_take (i := 4) (oi := { dst := some 20, op := Op.load 3 (Operand.tmp 19), type := 3, pos := "ref.go:351", after := #[{ on := 3, ground := Ground.data }], guard := none }) (v := ?_) rfl (by kernel_rfl) (by kernel_rfl) (by kernel_rfl) (by kernel_rfl) (fun _ _ _ h => h) (Or.inl ⟨by rfl, ?_⟩) ?_
            rotate_left
            · (intro w hE; have c1 := cellb c1 hE; have q1 := cellb q1 hE; have c3 := cellb c3 hE; (try dsimp only); go_simp); (try with_reducible rfl)
            try simp only [Act.put, zSa, zSz, zSs]
            refine wpAnyE_take (i := 5) (oi := { dst := some 21, op := Op.move (Operand.tmp 5), type := 3, pos := "ref.go:351", after := #[], guard := none }) (v := ?_) rfl (by kernel_rfl) (by kernel_rfl) (by kernel_rfl) (by kernel_rfl) (fun _ _ _ h => h) (Or.inl ⟨by rfl, ?_⟩) ?_
            rotate_left
            · (intro w hE; have c1 := cellb c1 hE; have q1 := cellb q1 hE; have c3 := cellb c3 hE; (try dsimp only); go_simp); (try with_reducible rfl)
            try simp only [Act.put, zSa, zSz, zSs]
            refine wpAnyE_take (i := 7) (oi := { dst := some 23, op := Op.move (Operand.tmp 0), type := 22, pos := "ref.go:351", after := #[], guard := none }) (v := ?_) rfl (by kernel_rfl) (by kernel_rfl) (by kernel_rfl) (by kernel_rfl) (fun _ _ _ h => h) (Or.inl ⟨by rfl, ?_⟩) ?_
            rotate_left
            · (intro w hE; have c1 := cellb c1 hE; have q1 := cellb q1 hE; have c3 := cellb c3 hE; (try dsimp only); go_simp); (try with_reducible rfl)
            try simp only [Act.put, zSa, zSz, zSs]
            refine wpAnyE_take (i := 8) (oi := { dst := some 24, op := Op.move (Operand.tmp 4), type := 3, pos := "ref.go:351", after := #[], guard := none }) (v := ?_) rfl (by kernel_rfl) (by kernel_rfl) (by kernel_rfl) (by kernel_rfl) (fun _ _ _ h => h) (Or.inl ⟨by rfl, ?_⟩) ?_
            rotate_left
            · (intro w hE; have c1 := cellb c1 hE; have q1 := cellb q1 hE; have c3 := cellb c3 hE; (try dsimp only); go_simp); (try with_reducible rfl)
            try simp only [Act.put, zSa, zSz, zSs]
            refine wpAnyE_take (i := 9) (oi := { dst := some 25, op := Op.binOp BinOp.sub 3 (Operand.tmp 24) (Operand.const (Value.int IntKind.i64 1)) 3, type := 3, pos := "ref.go:351", after := #[{ on := 8, ground := Ground.data }], guard := none }) (v := ?_) rfl (by kernel_rfl) (by kernel_rfl) (by kernel_rfl) (by kernel_rfl) (fun _ _ _ h => h) (Or.inl ⟨by rfl, ?_⟩) ?_
            rotate_left
            · (intro w hE; have c1 := cellb c1 hE; have q1 := cellb q1 hE; have c3 := cellb c3 hE; (try dsimp only); go_simp); (try with_reducible rfl)
            try simp only [Act.put, zSa, zSz, zSs]
            refine wpAnyE_take (i := 10) (oi := { dst := some 26, op := Op.indexAddr 22 (Operand.tmp 23) (Operand.tmp 25), type := 0, pos := "ref.go:351", after := #[{ on := 7, ground := Ground.data }, { on := 9, ground := Ground.data }], guard := none }) (v := ?_) rfl (by kernel_rfl) (by kernel_rfl) (by kernel_rfl) (by kernel_rfl) (fun _ _ _ h => h) (Or.inl ⟨by rfl, ?_⟩) ?_
            rotate_left
            · (intro w hE; have c1 := cellb c1 hE; have q1 := cellb q1 hE; have c3 := cellb c3 hE; (try dsimp only); go_simp); (try with_reducible rfl)
            try simp only [Act.put, zSa, zSz, zSs]
            refine wpAnyE_take (i := 11) (oi := { dst := some 27, op := Op.fieldAddr 79 (Operand.tmp 26) 1, type := 0, pos := "ref.go:351", after := #[{ on := 10, ground := Ground.data }], guard := none }) (v := ?_) rfl (by kernel_rfl) (by kernel_rfl) (by kernel_rfl) (by kernel_rfl) (fun _ _ _ h => h) (Or.inl ⟨by rfl, ?_⟩) ?_
            rotate_left
            · (intro w hE; have c1 := cellb c1 hE; have q1 := cellb q1 hE; have c3 := cellb c3 hE; (try dsimp only); go_simp); (try with_reducible rfl)
            try simp only [Act.put, zSa, zSz, zSs]
            refine wpAnyE_take (i := 12) (oi := { dst := some 28, op := Op.load 3 (Operand.tmp 27), type := 3, pos := "ref.go:351", after := #[{ on := 11, ground := Ground.data }], guard := none }) (v := ?_) rfl (by kernel_rfl) (by kernel_rfl) (by kernel_rfl) (by kernel_rfl) (fun _ _ _ h => h) (Or.inl ⟨by rfl, ?_⟩) ?_
            rotate_left
            · (intro w hE; have c1 := cellb c1 hE; have q1 := cellb q1 hE; have c3 := cellb c3 hE; (try dsimp only); go_simp); (try with_reducible rfl)
            try simp only [Act.put, zSa, zSz, zSs]
            refine wpAnyE_take (i := 13) (oi := { dst := some 29, op := Op.move (Operand.tmp 5), type := 3, pos := "ref.go:351", after := #[], guard := none }) (v := ?_) rfl (by kernel_rfl) (by kernel_rfl) (by kernel_rfl) (by kernel_rfl) (fun _ _ _ h => h) (Or.inl ⟨by rfl, ?_⟩) ?_
            rotate_left
            · (intro w hE; have c1 := cellb c1 hE; have q1 := cellb q1 hE; have c3 := cellb c3 hE; (try dsimp only); go_simp); (try with_reducible rfl)
            try simp only [Act.put, zSa, zSz, zSs]
            refine wpAnyE_call (i := 6) (oi := { dst := some 22, op := Op.call { callee := Callee.value (Operand.func 53), args := #[Operand.tmp 20, Operand.tmp 21], argTypes := #[3, 3] }, type := 4, pos := "ref.go:351", after := #[{ on := 4, ground := Ground.data }, { on := 5, ground := Ground.data }], guard := none }) (fun w hE => ofPure (T0.out w)) rfl (by kernel_rfl) (by kernel_rfl) (by kernel_rfl) (by kernel_rfl) (fun _ _ _ h => h) (by rfl) (fun w hE => by (try dsimp only); go_simp) ?_
            try simp only [Act.put, zSa, zSz, zSs]
            refine wpAnyE_call (i := 14) (oi := { dst := some 30, op := Op.call { callee := Callee.value (Operand.func 53), args := #[Operand.tmp 28, Operand.tmp 29], argTypes := #[3, 3] }, type := 4, pos := "ref.go:351", after := #[{ on := 12, ground := Ground.data }, { on := 13, ground := Ground.data }, { on := 6, ground := Ground.chain }], guard := none }) (fun w hE => ofPure (T1.out w)) rfl (by kernel_rfl) (by kernel_rfl) (by kernel_rfl) (by kernel_rfl) (fun _ _ _ h => h) (by rfl) (fun w hE => by (try dsimp only); go_simp) ?_
            try simp only [Act.put, zSa, zSz, zSs]
            refine wpAnyE_take (i := 15) (oi := { dst := some 31, op := Op.binOp BinOp.neq 4 (Operand.tmp 22) (Operand.tmp 30) 4, type := 4, pos := "ref.go:351", after := #[{ on := 6, ground := Ground.data }, { on := 14, ground := Ground.data }], guard := none }) (v := ?_) rfl (by kernel_rfl) (by kernel_rfl) (by kernel_rfl) (by kernel_rfl) (fun _ _ _ h => h) (Or.inl ⟨by rfl, ?_⟩) ?_
            rotate_left
            · (intro w hE; have c1 := cellb c1 hE; have q1 := cellb q1 hE; have c3 := cellb c3 hE; (try dsimp only); go_simp); (try with_reducible rfl)
            try simp only [Act.put, zSa, zSz, zSs]
            refine wpAnyE_done (by kernel_rfl) (fun wy1 hE => ?_) _
            have hbz1 := bthen hbz hE
            have c1 := cellb c1 hE
            have q1 := cellb q1 hE
            have c3 := cellb c3 hE
            have i3 := i3.carry hE
            have i2 := i2.carry hE
            clear hE
            have hbel := hbz1
            obtain ⟨W9, hW9⟩ : ∃ v, v = wy1 := ⟨_, rfl⟩
            rw [← hW9] at hbel i3 i2 c3 ⊢
            clear hW9
            rename_i W9
            have f3 := Blk.frozen i3 j
            clear c1 q1 T0 T1
            have i3' := BlkI.set i3 j y
            have i2' := Blk.other i2 hB2' (j := j) (.int .i64 y)
            have hbel' := hbel.setCell (p := ⟨w.heap.size + 1, j, none⟩) hB1' (.int .i64 y)
            rw [HSET.out] at i3'
            go_wp2
            go_roundw
            case rel => exact ⟨j + 1, by omega, by go_num, i3', i2', hbel'⟩
            case measure => simp [intOf]; omega
          | false =>
            rw [if_neg (by decide), Int.add_zero] at hset
            have hsame : swR l k (j + 1) = swR l k j := by
              rw [← hset]
              apply List.ext_getElem?
              intro i
              rw [List.getElem?_set]
              split
              · rename_i h; subst h
                rw [if_pos (by rw [swR_len]; exact hj2)]
                have := swR_at l k j hj2
                have h3 := BlkI.cell i3 (j := j) (by rw [swR_len]; exact hj2)
                rw [c3, this] at h3
                simp only [Option.some.injEq, Value.int.injEq, Option.getD_some, true_and] at h3
                rw [this, h3]
              · rfl
            have HSAME := Lib.hid hsame
            clear hset hsame hrg
            go_upto_region 8 with fail
            refine wp_region_E 99 (by kernel_rfl) ?_
            obtain ⟨wz, hwz⟩ : ∃ v, v = wr.drew := ⟨_, rfl⟩
            rw [← hwz]
            have hlz : Below wr.heap.size wr wz := by rw [hwz]; exact (Below.refl _ _).drew
            have hbz := bthen hbel hlz
            have c1 := cellb c1 hlz
            have q1 := cellb q1 hlz
            have i3 := i3.carry hlz
            have i2 := i2.carry hlz
            clear hwz hlz
            refine wpAnyE_take (i := 0) (oi := { dst := some 16, op := Op.move (Operand.tmp 0), type := 22, pos := "ref.go:351", after := #[], guard := none }) (v := ?_) rfl (by kernel_rfl) (by kernel_rfl) (by kernel_rfl) (by kernel_rfl) (fun _ _ _ h => h) (Or.inl ⟨by rfl, ?_⟩) ?_
            rotate_left
            · (intro w hE; have c1 := cellb c1 hE; have q1 := cellb q1 hE; (try dsimp only); go_simp); (try with_reducible rfl)
            try simp only [Act.put, zSa, zSz, zSs]
            refine wpAnyE_take (i := 1) (oi := { dst := some 17, op := Op.move (Operand.tmp 4), type := 3, pos := "ref.go:351", after := #[], guard := none }) (v := ?_) rfl (by kernel_rfl) (by kernel_rfl) (by kernel_rfl) (by kernel_rfl) (fun _ _ _ h => h) (Or.inl ⟨by rfl, ?_⟩) ?_
            rotate_left
            · (intro w hE; have c1 := cellb c1 hE; have q1 := cellb q1 hE; (try dsimp only); go_simp); (try with_reducible rfl)
            try simp only [Act.put, zSa, zSz, zSs]
            refine wpAnyE_take (i := 2) (oi := { dst := some 18, op := Op.indexAddr 22 (Operand.tmp 16) (Operand.tmp 17), type := 0, pos := "ref.go:351", after := #[{ on := 0, ground := Ground.data }, { on := 1, ground := Ground.data }], guard := none }) (v := ?_) rfl (by kernel_rfl) (by kernel_rfl) (by kernel_rfl) (by kernel_rfl) (fun _ _ _ h => h) (Or.inl ⟨by rfl, ?_⟩) ?_
            rotate_left
            · (intro w hE; have c1 := cellb c1 hE; have q1 := cellb q1 hE; (try dsimp only); go_simp); (try with_reducible rfl)
            try simp only [Act.put, zSa, zSz, zSs]
            refine wpAnyE_take (i := 3) (oi := { dst := some 19, op := Op.fieldAddr 79 (Operand.tmp 18) 1, type := 0, pos := "ref.go:351", after := #[{ on := 2, ground := Ground.data }], guard := none }) (v := ?_) rfl (by kernel_rfl) (by kernel_rfl) (by kernel_rfl) (by kernel_rfl) (fun _ _ _ h => h) (Or.inl ⟨by rfl, ?_⟩) ?_
            rotate_left
            · (intro w hE; have c1 := cellb c1 hE; have q1 := cellb q1 hE; (try dsimp only); go_simp); (try with_reducible rfl)
            try simp only [Act.put, zSa, zSz, zSs]
            refine wpAnyE_take (i := 4) (oi := { dst := some 20, op := Op.load 3 (Operand.tmp 19), type := 3, pos := "ref.go:351", after := #[{ on := 3, ground := Ground.data }], guard := none }) (v := ?_) rfl (by kernel_rfl) (by kernel_rfl) (by kernel_rfl) (by kernel_rfl) (fun _ _ _ h => h) (Or.inl ⟨by rfl, ?_⟩) ?_
            rotate_left
            · (intro w hE; have c1 := cellb c1 hE; have q1 := cellb q1 hE; (try dsimp only); go_simp); (try with_reducible rfl)
            try simp only [Act.put, zSa, zSz, zSs]
            refine wpAnyE_take (i := 5) (oi := { dst := some 21, op := Op.move (Operand.tmp 5), type := 3, pos := "ref.go:351", after := #[], guard := none }) (v := ?_) rfl (by kernel_rfl) (by kernel_rfl) (by kernel_rfl) (by kernel_rfl) (fun _ _ _ h => h) (Or.inl ⟨by rfl, ?_⟩) ?_
            rotate_left
            · (intro w hE; have c1 := cellb c1 hE; have q1 := cellb q1 hE; (try dsimp only); go_simp); (try with_reducible rfl)
            try simp only [Act.put, zSa, zSz, zSs]
            refine wpAnyE_take (i := 7) (oi := { dst := some 23, op := Op.move (Operand.tmp 0), type := 22, pos := "ref.go:351", after := #[], guard := none }) (v := ?_) rfl (by kernel_rfl) (by kernel_rfl) (by kernel_rfl) (by kernel_rfl) (fun _ _ _ h => h) (Or.inl ⟨by rfl, ?_⟩) ?_
            rotate_left
            · (intro w hE; have c1 := cellb c1 hE; have q1 := cellb q1 hE; (try dsimp only); go_simp); (try with_reducible rfl)
            try simp only [Act.put, zSa, zSz, zSs]
            refine wpAnyE_take (i := 8) (oi := { dst := some 24, op := Op.move (Operand.tmp 4), type := 3, pos := "ref.go:351", after := #[], guard := none }) (v := ?_) rfl (by kernel_rfl) (by kernel_rfl) (by kernel_rfl) (by kernel_rfl) (fun _ _ _ h => h) (Or.inl ⟨by rfl, ?_⟩) ?_
            rotate_left
            · (intro w hE; have c1 := cellb c1 hE; have q1 := cellb q1 hE; (try dsimp only); go_simp); (try with_reducible rfl)
            try simp only [Act.put, zSa, zSz, zSs]
            refine wpAnyE_take (i := 9) (oi := { dst := some 25, op := Op.binOp BinOp.sub 3 (Operand.tmp 24) (Operand.const (Value.int IntKind.i64 1)) 3, type := 3, pos := "ref.go:351", after := #[{ on := 8, ground := Ground.data }], guard := none }) (v := ?_) rfl (by kernel_rfl) (by kernel_rfl) (by kernel_rfl) (by kernel_rfl) (fun _ _ _ h => h) (Or.inl ⟨by rfl, ?_⟩) ?_
            rotate_left
            · (intro w hE; have c1 := cellb c1 hE; have q1 := cellb q1 hE; (try dsimp only); go_simp); (try with_reducible rfl)
            try simp only [Act.put, zSa, zSz, zSs]
            refine wpAnyE_take (i := 10) (oi := { dst := some 26, op := Op.indexAddr 22 (Operand.tmp 23) (Operand.tmp 25), type := 0, pos := "ref.go:351", after := #[{ on := 7, ground := Ground.data }, { on := 9, ground := Ground.data }], guard := none }) (v := ?_) rfl (by kernel_rfl) (by kernel_rfl) (by kernel_rfl) (by kernel_rfl) (fun _ _ _ h => h) (Or.inl ⟨by rfl, ?_⟩) ?_
            rotate_left
            · (intro w hE; have c1 := cellb c1 hE; have q1 := cellb q1 hE; (try dsimp only); go_simp); (try with_reducible rfl)
            try simp only [Act.put, zSa, zSz, zSs]
            refine wpAnyE_take (i := 11) (oi := { dst := some 27, op := Op.fieldAddr 79 (Operand.tmp 26) 1, type := 0, pos := "ref.go:351", after := #[{ on := 10, ground := Ground.data }], guard := none }) (v := ?_) rfl (by kernel_rfl) (by kernel_rfl) (by kernel_rfl) (by kernel_rfl) (fun _ _ _ h => h) (Or.inl ⟨by rfl, ?_⟩) ?_
            rotate_left
            · (intro w hE; have c1 := cellb c1 hE; have q1 := cellb q1 hE; (try dsimp only); go_simp); (try with_reducible rfl)
            try simp only [Act.put, zSa, zSz, zSs]
            refine wpAnyE_take (i := 12) (oi := { dst := some 28, op := Op.load 3 (Operand.tmp 27), type := 3, pos := "ref.go:351", after := #[{ on := 11, ground := Ground.data }], guard := none }) (v := ?_) rfl (by kernel_rfl) (by kernel_rfl) (by kernel_rfl) (by kernel_rfl) (fun _ _ _ h => h) (Or.inl ⟨by rfl, ?_⟩) ?_
            rotate_left
            · (intro w hE; have c1 := cellb c1 hE; have q1 := cellb q1 hE; (try dsimp only); go_simp); (try with_reducible rfl)
            try simp only [Act.put, zSa, zSz, zSs]
            refine wpAnyE_take (i := 13) (oi := { dst := some 29, op := Op.move (Operand.tmp 5), type := 3, pos := "ref.go:351", after := #[], guard := none }) (v := ?_) rfl (by kernel_rfl) (by kernel_rfl) (by kernel_rfl) (by kernel_rfl) (fun _ _ _ h => h) (Or.inl ⟨by rfl, ?_⟩) ?_
            rotate_left
            · (intro w hE; have c1 := cellb c1 hE; have q1 := cellb q1 hE; (try dsimp only); go_simp); (try with_reducible rfl)
            try simp only [Act.put, zSa, zSz, zSs]
            refine wpAnyE_call (i := 6) (oi := { dst := some 22, op := Op.call { callee := Callee.value (Operand.func 53), args := #[Operand.tmp 20, Operand.tmp 21], argTypes := #[3, 3] }, type := 4, pos := "ref.go:351", after := #[{ on := 4, ground := Ground.data }, { on := 5, ground := Ground.data }], guard := none }) (fun w hE => ofPure (T0.out w)) rfl (by kernel_rfl) (by kernel_rfl) (by kernel_rfl) (by kernel_rfl) (fun _ _ _ h => h) (by rfl) (fun w hE => by (try dsimp only); go_simp) ?_
            try simp only [Act.put, zSa, zSz, zSs]
            refine wpAnyE_call (i := 14) (oi := { dst := some 30, op := Op.call { callee := Callee.value (Operand.func 53), args := #[Operand.tmp 28, Operand.tmp 29], argTypes := #[3, 3] }, type := 4, pos := "ref.go:351", after := #[{ on := 12, ground := Ground.data }, { on := 13, ground := Ground.data }, { on := 6, ground := Ground.chain }], guard := none }) (fun w hE => ofPure (T1.out w)) rfl (by kernel_rfl) (by kernel_rfl) (by kernel_rfl) (by kernel_rfl) (fun _ _ _ h => h) (by rfl) (fun w hE => by (try dsimp only); go_simp) ?_
            try simp only [Act.put, zSa, zSz, zSs]
            refine wpAnyE_take (i := 15) (oi := { dst := some 31, op := Op.binOp BinOp.neq 4 (Operand.tmp 22) (Operand.tmp 30) 4, type := 4, pos := "ref.go:351", after := #[{ on := 6, ground := Ground.data }, { on := 14, ground := Ground.data }], guard := none }) (v := ?_) rfl (by kernel_rfl) (by kernel_rfl) (by kernel_rfl) (by kernel_rfl) (fun _ _ _ h => h) (Or.inl ⟨by rfl, ?_⟩) ?_
            rotate_left
            · (intro w hE; have c1 := cellb c1 hE; have q1 := cellb q1 hE; (try dsimp only); go_simp); (try with_reducible rfl)
            try simp only [Act.put, zSa, zSz, zSs]
            refine wpAnyE_done (by kernel_rfl) (fun wy1 hE => ?_) _
            have hbz1 := bthen hbz hE
            have c1 := cellb c1 hE
            have q1 := cellb q1 hE
            have i3 := i3.carry hE
            have i2 := i2.carry hE
            clear hE
            have hbel := hbz1
            obtain ⟨W9, hW9⟩ : ∃ v, v = wy1 := ⟨_, rfl⟩
            rw [← hW9] at hbel i3 i2 ⊢
            clear hW9
            rw [← HSAME.out] at i3
            clear c1 q1 T0 T1 c3
            go_wp2
            go_roundw
            case rel => exact ⟨j + 1, by omega, by go_num, i3, i2, hbel⟩
            case measure => simp [intOf]; omega
        · obtain rfl : j = 12 := by omega
          rw [swR_end] at i3
          go_wp2
          go_roundw
          case rel => exact ⟨k + 1, by omega, by go_num, i3, i2, hbel⟩
          case measure => simp [intOf]; omega
    · have hkM : k = M := by omega
      have e6 : ¬ (k : Int) + 1 < (N : Int) := by omega
      rw [hkM, HBL.out] at i3
      clear hkM hlt hMN2
      have hld := load12 (show (swL l).length = 12 from upto_length _ _) i3
      have hlen : (List.replicate 12 (0 : Int)).length = (swL l).length := by rw [show (swL l).length = 12 from upto_length _ _]; rfl
      have hinf : (Tryz.prog.info? 31).map (·.size) = some (swL l).length := by rw [show (swL l).length = 12 from upto_length _ _]; exact Tryz.infoA12
      have hr2 : BlkI (wr.setRow w.heap.size (ia (swL l))) w.heap.size 31 (swL l) := BlkI.setRowA i2 _
      have hld2 := load12 (show (swL l).length = 12 from upto_length _ _) hr2
      go_wp2_with (first | refine wpList_load rfl _ _ rfl hld ?_ | refine wpList_storeA rfl _ _ _ rfl w.heap.size (swL l) _ rfl rfl i2 hlen hinf ?_)
      exact bodyPost_ret (v := .agg (ia (swL l))) (results_cell (p := 2) rfl _ _ w.heap.size _ rfl hld2) rfl ⟨rfl, below_rowA hbel (Nat.le_refl _) _⟩
end

section
set_option linter.unusedSimpArgs false
set_option linter.unusedVariables false
open Go.RowKit

theorem pow_le12 {v : Nat} (h : v ≤ 12) : (1 : Int) ≤ 2 ^ v ∧ (2 : Int) ^ v ≤ 4096 := by
  have h1 : (2 : Nat) ^ v ≤ 2 ^ 12 := Nat.pow_le_pow_right (by decide) h
  have h2 := Nat.two_pow_pos v
  rw [← natPow]; omega
set_option maxRecDepth 100000 in
set_option maxHeartbeats 1000000 in
theorem withR_any (v : Nat) (w : World) (hv : v ≤ 12) : Calls Tryz.prog 106 #[.int .i64 v] w fun r w' => r = .returned (.int .i64 (2 ^ v)) ∧ w = w' := by
  go_enter Tryz.func106, Tryz.ntmps106
  go_wp2_with fail
  go_loop [3, 4] (fun m i => ∃ k : Nat, k ≤ v ∧ i = .int .i64 k ∧ m = .int .i64 (2 ^ k)) (fun _ i => v - (intOf i).toNat)
  case atStart => exact ⟨0, by omega, rfl, rfl⟩
  case round =>
    obtain ⟨k, hk, rfl, rfl⟩ := hrel
    by_cases hlt : k < v
    · have hr := pow_le12 (v := k + 1) (by omega)
      have hs : (2 : Int) ^ (k + 1) = 2 * 2 ^ k := by rw [Int.pow_succ, Int.mul_comm]
      obtain ⟨m, hm⟩ : ∃ z, z = (2 : Int) ^ k := ⟨_, rfl⟩
      rw [← hm] at hs ⊢
      obtain ⟨m2, hm2⟩ : ∃ z, z = (2 : Int) ^ (k + 1) := ⟨_, rfl⟩
      rw [← hm2] at hs hr
      have HS := Lib.hid hm2
      have q1 : IntKind.i64.wrap (2 * m) = m2 := by rw [← hs]; exact IntWalk.i64_in _ (by omega)
      have d1 : (k : Int) < (v : Int) := by omega
      clear hm hs hm2
      go_wp2
      go_round
      case rel => exact ⟨k + 1, by omega, by go_num, by rw [HS.out]⟩
      case measure => simp [intOf]; omega
    · obtain rfl : k = v := by omega
      have d0 : ¬ ((k : Int) < (k : Int)) := by omega
      clear hlt hk
      go_wp2
      go_ret
      exact ⟨rfl, rfl⟩
set_option maxRecDepth 100000 in
set_option maxHeartbeats 1000000 in
theorem withoutR_any (p : Int) (v : Nat) (w : World) (hp : 0 ≤ p ∧ p ≤ 4095) (hv : v ≤ 12) : Calls Tryz.prog 54 #[.int .i64 p, .int .i64 v] w fun r w' => r = .returned (.int .i64 (wtoR p v)) ∧ w = w' := by
  have T0 := Lib.hid (fun W => Has_any p v W (by omega) (by omega))
  have T1 := Lib.hid (fun W => withR_any v W hv)
  have hr : wtoR p v = if hasR p v = true then p - 2 ^ v else p := rfl
  obtain ⟨R, hR⟩ : ∃ r, r = wtoR p v := ⟨_, rfl⟩
  rw [← hR] at hr ⊢
  obtain ⟨c, hc⟩ : ∃ c, c = hasR p v := ⟨_, rfl⟩
  rw [← hc] at T0 hr
  have h2 := pow_le12 hv
  obtain ⟨m, hm⟩ : ∃ m, m = (2 : Int) ^ v := ⟨_, rfl⟩
  rw [← hm] at T1 hr h2
  clear hc hm hR
  cases c with
  | true =>
    rw [if_pos rfl] at hr
    have q1 : IntKind.i64.wrap (p - m) = R := by rw [hr]; exact IntWalk.i64_in _ (by omega)
    clear hr
    go_enter Tryz.func54, Tryz.ntmps54
    go_wp2_with fail
    refine (T0.out _).mono ?_
    rintro e w1 ⟨rfl, rfl⟩
    go_wp2_with fail
    refine (T1.out _).mono ?_
    rintro e w1 ⟨rfl, rfl⟩
    go_wp2
    go_ret
    exact ⟨rfl, rfl⟩
  | false =>
    rw [if_neg (by decide)] at hr
    subst hr
    go_enter Tryz.func54, Tryz.ntmps54
    go_wp2_with fail
    refine (T0.out _).mono ?_
    rintro e w1 ⟨rfl, rfl⟩
    go_wp2
    go_ret
    exact ⟨rfl, rfl⟩
theorem chg_take {l : List P2} {g : Int → Int} {k : Nat} {x : P2} (hx : l[k]? = some x) : (chgL (l.take (k + 1)) g).flatMap pV = (chgL (l.take k) g).flatMap pV ++ [.int .i64 x.1, .int .i64 (g x.2)] := by
  unfold chgL
  rw [List.take_add_one, hx, List.map_append, List.flatMap_append]; simp [pV]
set_option maxRecDepth 100000 in
set_option maxHeartbeats 4000000 in
theorem BypassedR_any (v : Value) (l : List P2) (m : Int) (w : World) (hl : l.length ≤ 1000000) (hok : TrOk l) (hm : 0 ≤ m ∧ m ≤ 4095) (hv : Prs w v l) :
    Calls Tryz.prog 16 #[v, .int .i64 m] w fun r w' => (∃ u, r = .returned u ∧ OwR w' w.heap.size 79 2 pV u (chgL l (bypV m))) ∧ Below w.heap.size w w' := by
  obtain ⟨i0, hi, hz0, hz1, hz2⟩ := info_parts Tryz.infZbipoleref07Pulse
  have HV := Lib.hid hv
  have HOK := Lib.hid hok
  have HMR := Lib.hid hm
  obtain ⟨va, vc, rfl, hvc⟩ := hv.slice
  obtain ⟨N, hN⟩ : ∃ N, N = l.length := ⟨_, rfl⟩
  rw [← hN] at HV hl ⊢
  have HN := Lib.hid hN
  have hcl : (chgL l (bypV m)).length = N := by unfold chgL; rw [List.length_map]; exact hN.symm
  have HCL := Lib.hid hcl
  clear hv hN hvc hok hm hcl
  go_enter Tryz.func16, Tryz.ntmps16
  go_wp2_with fail
  go_loopw [5, 6] (fun u i wr => ∃ k : Nat, k ≤ N ∧ i = .int .i64 k ∧ wr.ownsRow w.heap.size 79 2 u k ((chgL (l.take k) (bypV m)).flatMap pV) ∧ Below w.heap.size w wr) (fun _ i _ => N - (intOf i).toNat)
  case atStart => exact ⟨0, by omega, rfl, World.ownsRow_nil _ _ _ _, Below.refl _ _⟩
  case round =>
    obtain ⟨k, hk, rfl, hown, hbel⟩ := hrel
    by_cases hlt : k < N
    · obtain ⟨x, hx⟩ : ∃ x, l[k]? = some x := ⟨_, List.getElem?_eq_getElem (by rw [← HN.out]; exact hlt)⟩
      obtain ⟨b, off, cp, he, hcs⟩ := (HV.out.carry hbel).head (by rw [← HN.out]; omega)
      simp only [Value.slice.injEq] at he
      obtain ⟨rfl, -, rfl⟩ := he
      obtain ⟨c0, c1⟩ := rw2 (hcs k x hx) (show pV x = [.int .i64 x.1, .int .i64 x.2] from rfl)
      have hts := chg_take (g := bypV m) hx
      have hx9 := (HOK.out.rng k x hx).2
      rw [bypV_eq HMR.out hx9] at hts
      have HX := Lib.hid hx9
      obtain ⟨x0, x1⟩ := x
      dsimp only at c0 c1 hts HX
      have HTS := Lib.hid hts
      have hdk : (k : Int) < (N : Int) := by omega
      have hsz := hbel.size
      obtain ⟨oa, oc, rfl⟩ := own_slice hown
      clear hcs hx hts hx9
      obtain ⟨W5, hW5⟩ : ∃ W5, W5 = wr := ⟨_, rfl⟩
      subst hW5
      go_wp2_with fail
      go_loop [7, 8] (fun p i => ∃ j : Nat, j ≤ 12 ∧ i = .int .i64 j ∧ p = .int .i64 (bypK m x1 j)) (fun _ i => 12 - (intOf i).toNat)
      case atStart => exact ⟨0, by omega, rfl, rfl⟩
      case round =>
        obtain ⟨j, hj, rfl, rfl⟩ := hrel
        by_cases hj2 : j < 12
        · have T0 := Lib.hid (fun W => Has_any m j W (by have := HMR.out; omega) (by omega))
          have hpr := bypK_rng HMR.out.1 HX.out j
          have T1 := Lib.hid (fun W => withoutR_any (bypK m x1 j) j W hpr (by omega))
          have hds : bypK m x1 (j + 1) = if hasR m j = true then wtoR (bypK m x1 j) j else bypK m x1 j := rfl
          obtain ⟨c, hc⟩ : ∃ c, c = hasR m j := ⟨_, rfl⟩
          obtain ⟨D2, hD2⟩ : ∃ d, d = wtoR (bypK m x1 j) j := ⟨_, rfl⟩
          rw [← hD2] at T1 hds
          obtain ⟨D, hD⟩ : ∃ d, d = bypK m x1 j := ⟨_, rfl⟩
          rw [← hc] at T0 hds
          rw [← hD] at hds T1 ⊢
          have HDS := Lib.hid hds
          have e6 : (j : Int) < 12 := by omega
          clear hD2 hD hds hc hpr
          cases c with
          | true =>
            have HD2 := Lib.hid (HDS.out.trans (by rw [if_pos rfl]))
            go_wp2_with fail
            refine (T0.out _).mono ?_
            rintro e w1 ⟨rfl, rfl⟩
            go_wp2_with fail
            refine (T1.out _).mono ?_
            rintro e w1 ⟨rfl, rfl⟩
            go_wp2
            go_round
            case rel => exact ⟨j + 1, by omega, by go_num, by rw [HD2.out]⟩
            case measure => simp [intOf]; omega
          | false =>
            have HD2 := Lib.hid (HDS.out.trans (by rw [if_neg (by decide)]))
            go_wp2_with fail
            refine (T0.out _).mono ?_
            rintro e w1 ⟨rfl, rfl⟩
            go_wp2
            go_round
            case rel => exact ⟨j + 1, by omega, by go_num, by rw [HD2.out]⟩
            case measure => simp [intOf]; omega
        · obtain rfl : j = 12 := by omega
          obtain ⟨D, hD⟩ : ∃ d, d = bypK m x1 12 := ⟨_, rfl⟩
          rw [← hD] at HTS ⊢
          have kn := below_new W5 (.cells #[.int .i64 x0, .int .i64 D] 79)
          clear hD
          go_wp2_with (at_builtin; refine wpList_append_own _ rfl _ _ 22 rfl w.heap.size 79 i0 (.agg #[.int .i64 0, .int .i64 0]) 2 16 Tryz.undZbipoleref07Pulse hi hz0 hz1 hz2 rfl (by decide) _ _ _ rfl (own_below hown kn) ⟨W5.heap.size, 0, none⟩ 1 1 [.int .i64 x0, .int .i64 D] rfl rfl (fun j u hj => (Blk.new W5 79 [.int .i64 x0, .int .i64 D]).news j u hj) (by simp [Value.oneCell']) (by unfold maxLen; omega) (by omega) (by have := kn.size; omega) ?_; intro v9 w1 hown9 hgrow9 _)
          have hbel9 := (bthen hbel kn).trans (below_grow (own_below hown kn) (by have := kn.size; omega) hgrow9)
          rw [← HTS.out] at hown9
          clear hown hgrow9 kn hbel c0 c1
          go_wp2
          go_roundw
          case rel => exact ⟨k + 1, by omega, by go_num, hown9, hbel9⟩
          case measure => simp [intOf]; omega
    · obtain rfl : k = N := by omega
      have hout : OwR wr w.heap.size 79 2 pV u5 (chgL l (bypV m)) := by
        unfold OwR
        rw [HCL.out]
        rw [List.take_of_length_le (by rw [HN.out]; exact Nat.le_refl _)] at hown
        exact hown
      have d0 : ¬ ((k : Int) < (k : Int)) := by omega
      clear hown
      go_wp2
      go_ret
      exact ⟨⟨_, rfl, hout⟩, hbel⟩
end

end Go.Proofs.YtgfoajobdhndfaaGreatDoor

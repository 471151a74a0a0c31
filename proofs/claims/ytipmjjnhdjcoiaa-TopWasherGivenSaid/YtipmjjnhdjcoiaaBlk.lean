/- Words on rows that the call itself has laid. -/
import Derived.Test.YtipmjjnhdjcoiaaLoopL
import Derived.Maps.AppendAt
import Derived.Deep.AppendSrc
namespace Go.Proofs.Ytipmjjnhdjcoiaa
open Go.RowKit

section
variable {α : Type} {F : Fence} {n : Nat} {P : Program}

end

theorem power_i (a m : Int) (w : World) (h0 : 0 ≤ m) (h1 : m ≤ 1000000) :
    Calls Try.prog 54 #[.int .i64 a, .int .i64 m] w fun r w' => r = .returned (.int .i64 (powW a m.toNat)) ∧ w = w' := by
  obtain ⟨n, rfl⟩ := Int.eq_ofNat_of_zero_le h0
  rw [Int.toNat_natCast]
  exact power_any a n w (by omega)

theorem degree_n {v : Value} {l : List Int} {w0 : World} (h : Ints w0 v l) {n : Nat} (hn : l.length = n + 1) (hn2 : n ≤ 100000) (w : World) :
    Calls Try.prog 49 #[v] w fun r w' => r = .returned (.int .i64 (n : Int)) ∧ w = w' := by
  have := degree_i h (by omega) w
  rw [hn, show ((n + 1 : Nat) : Int) - 1 = (n : Int) from by omega] at this
  exact this

set_option maxHeartbeats 2000000 in
set_option maxRecDepth 100000 in
theorem Stepped_any (vp vl : Value) (p l : List Int) (steps : Int) (w : World) (hp : Ints w vp p) (hl : Ints w vl l) (hp2 : p.length ≤ 100000) (hl2 : l.length ≤ 100000) :
    Calls Try.prog 18 #[vp, vl, .int .i64 steps] w (GivesPoly w (steppedR p l steps) (steppedE p l steps)) := by
  by_cases hc : checkPolyE p = 0
  · have ⟨p1, p5⟩ := checkPolyE_ok hc
    obtain ⟨n, hn⟩ : ∃ n, p.length = n + 1 := ⟨p.length - 1, by omega⟩
    have hn4 : n ≤ 4 := by omega
    have hn1 : p.length - 1 = n := by omega
    have tp := CheckPoly_any vp p w (by omega) hp
    rw [hc] at tp
    have HC := Lib.hid hc
    have HN := Lib.hid hn
    have HN1 := Lib.hid hn1
    have DP := Lib.hid (degree_n hp hn (by omega))
    clear hc hn hn1
    go_enter Try.func18, Try.ntmps18
    go_wp2_with fail
    refine (tp).mono ?_
    rintro e w1 ⟨rfl, h1⟩
    clear tp
    go_wp2_with fail
    refine (DP.out _).mono ?_
    rintro e w' ⟨rfl, rfl⟩
    go_wp2_with fail
    refine (when_any _ _ _).mono ?_
    rintro e w' ⟨rfl, rfl⟩
    go_wp2_with fail
    refine (checkFirst_any vp vl p l w1 (hp.below h1) (hl.below h1) (by omega) hl2).mono ?_
    rintro e w2 ⟨rfl, h2⟩
    go_wp2_with fail
    refine (within_any _ _ _ _).mono ?_
    rintro e w' ⟨rfl, rfl⟩
    go_wp2_with fail
    refine (first3 _ _ _ _ _).mono ?_
    rintro e w' ⟨rfl, rfl⟩
    have h3 := bthen (bthen h1 h2) (below_new w2 (.cells #[.int .i64 (whenE ((n : Int) == 0) 12), .int .i64 (checkFirstE p l), .int .i64 (withinE steps 0 24)] 36))
    obtain ⟨V, hV⟩ : ∃ V, V = w2.alloc (.cells #[.int .i64 (whenE ((n : Int) == 0) 12), .int .i64 (checkFirstE p l), .int .i64 (withinE steps 0 24)] 36) := ⟨_, rfl⟩
    rw [← hV] at h3 ⊢
    clear hV h1 h2
    have hE : firstE [whenE ((n : Int) == 0) 12, checkFirstE p l, withinE steps 0 24] = step2E p l steps := by rw [step2E, HN1.out]
    rw [hE]
    by_cases he : step2E p l steps = 0
    · rw [he]
      have HE := Lib.hid he
      obtain ⟨e1, e2⟩ := firstE_cons_ok (he ▸ hE)
      obtain ⟨e2, e3⟩ := firstE_cons_ok e2
      obtain ⟨e3, _⟩ := firstE_cons_ok e3
      have hs := withinE_ok e3
      have hln : l.length = n := by
        have hn := HN.out
        unfold checkFirstE at e2
        split at e2
        · simp at e2
        · omega
      have hn0 : 1 ≤ n := by
        rcases Nat.eq_zero_or_pos n with h | h
        · subst h; simp [whenE] at e1
        · exact h
      obtain ⟨st, rfl⟩ := Int.eq_ofNat_of_zero_le hs.1
      have hst : st ≤ 24 := by omega
      clear e1 e2 e3 he hE hs
      have hpn := HN.out
      obtain ⟨ap, cap, rfl, _, hpq⟩ := hp
      obtain ⟨bp, op, rfl, hpc⟩ := hpq (by omega)
      obtain ⟨al, cal, rfl, _, hlq⟩ := hl
      obtain ⟨bl, ol, rfl, hlc⟩ := hlq (by omega)
      have hpl1 : (n : Int) < (p.length : Int) := by omega
      have hpl2 : n ≤ p.length := by omega
      have hll : n ≤ l.length := by omega
      have HLN := Lib.hid hln
      clear hpq hlq hpn hln
      obtain ⟨i0, hi, hz0, hz1, hz2⟩ := info_parts Try.infoInt
      go_wp2_with (at_make; refine wpList_make_own _ rfl _ _ 26 rfl w.heap.size 3 i0 (.int .i64 0) 1 Try.underlying26 hi hz0 hz1 _ _ _ (n + st) rfl rfl (by omega) (by rw [hz2]; omega) (by unfold maxLen; omega) h3.size ?_; intro w4 hown4 hgrow4)
      have h4 := h3.grown hgrow4 h3.size (fun k h => by cases h)
      have h34 : Below V.heap.size V w4 := (Below.refl _ _).grown hgrow4 (Nat.le_refl _) (fun k h => by cases h)
      clear hgrow4
      go_wp2
      go_loopw [11, 43] (fun o i wr => ∃ (t : Nat) (out : List Int), t ≤ n + st ∧ i = .int .i64 t ∧ stepL p l n t = some out ∧ out.length = t ∧ wr.ownsRow w.heap.size 3 1 o t (out.map (Value.int .i64)) ∧ Below w.heap.size w wr) (fun _ i _ => n + st - (intOf i).toNat)
      case atStart => exact ⟨0, [], by omega, rfl, rfl, rfl, hown4, h4⟩
      case round =>
        obtain ⟨t, out, ht, rfl, hO, hlen, hown, hbel⟩ := hrel
        have HO := Lib.hid hO
        have HLE := Lib.hid hlen
        clear hO hown4 h4 h34 hlen
        by_cases hlt : t < n + st
        · by_cases htn : t < n
          · have ca := (hbel.cell (p := ⟨bl, ol + t, none⟩) (lt_of_cellSome (hlc t (by omega)))).trans (hlc t (by omega))
            have cb := (hbel.cell (p := ⟨bp, op + n, none⟩) (lt_of_cellSome (hpc n (by omega)))).trans (hpc n (by omega))
            have hq : stepVal p l out n t = wrap64 (l[t]?.getD 0 * powW (p[n]?.getD 0) t) := by rw [stepVal, if_pos htn]
            generalize l[t]?.getD 0 = a at ca hq
            generalize p[n]?.getD 0 = b at cb hq
            have ht0 : (0 : Int) ≤ (t : Int) := by omega
            have htl : (t : Int) < (l.length : Int) := by omega
            have hn00 : (0 : Int) ≤ (n : Int) := by omega
            have HQ0 := Lib.hid hq
            clear hq
            go_wp2_with fail
            refine wp_region_held_drew (S := (fun w' => w'.cell? ⟨bl, ol + t, none⟩ = some (.int .i64 a) ∧ w'.cell? ⟨bp, op + n, none⟩ = some (.int .i64 b))) (by kernel_rfl) ?_ (fun hHeld0 => ?_)
            · (try dsimp only); go_keep
            refine wpAnyH_take (i := 0) (oi := { dst := some 49, op := Op.move (Operand.tmp 1), type := 26, pos := "ring.go:35", after := #[], guard := none }) (v := ?_) rfl (by kernel_rfl) (by kernel_rfl) (by kernel_rfl) (fun _ _ _ h => h) (Or.inl ⟨by rfl, ?_⟩) (by assumption) ?_
            rotate_left
            · (intro w hSw; (try dsimp only at hSw); go_simp); (try with_reducible rfl)
            try simp only [Act.put, List.setIfInBounds_toArray, List.set_cons_zero, List.set_cons_succ]
            refine wpAnyH_take (i := 1) (oi := { dst := some 50, op := Op.move (Operand.tmp 12), type := 3, pos := "ring.go:35", after := #[], guard := none }) (v := ?_) rfl (by kernel_rfl) (by kernel_rfl) (by kernel_rfl) (fun _ _ _ h => h) (Or.inl ⟨by rfl, ?_⟩) (by assumption) ?_
            rotate_left
            · (intro w hSw; (try dsimp only at hSw); go_simp); (try with_reducible rfl)
            try simp only [Act.put, List.setIfInBounds_toArray, List.set_cons_zero, List.set_cons_succ]
            refine wpAnyH_take (i := 2) (oi := { dst := some 51, op := Op.indexAddr 26 (Operand.tmp 49) (Operand.tmp 50), type := 0, pos := "ring.go:35", after := #[{ on := 0, ground := Ground.data }, { on := 1, ground := Ground.data }], guard := none }) (v := ?_) rfl (by kernel_rfl) (by kernel_rfl) (by kernel_rfl) (fun _ _ _ h => h) (Or.inl ⟨by rfl, ?_⟩) (by assumption) ?_
            rotate_left
            · (intro w hSw; (try dsimp only at hSw); go_simp); (try with_reducible rfl)
            try simp only [Act.put, List.setIfInBounds_toArray, List.set_cons_zero, List.set_cons_succ]
            refine wpAnyH_take (i := 3) (oi := { dst := some 52, op := Op.load 3 (Operand.tmp 51), type := 3, pos := "ring.go:35", after := #[{ on := 2, ground := Ground.data }], guard := none }) (v := ?_) rfl (by kernel_rfl) (by kernel_rfl) (by kernel_rfl) (fun _ _ _ h => h) (Or.inl ⟨by rfl, ?_⟩) (by assumption) ?_
            rotate_left
            · (intro w hSw; (try dsimp only at hSw); go_simp); (try with_reducible rfl)
            try simp only [Act.put, List.setIfInBounds_toArray, List.set_cons_zero, List.set_cons_succ]
            refine wpAnyH_take (i := 4) (oi := { dst := some 53, op := Op.move (Operand.tmp 0), type := 65, pos := "ring.go:35", after := #[], guard := none }) (v := ?_) rfl (by kernel_rfl) (by kernel_rfl) (by kernel_rfl) (fun _ _ _ h => h) (Or.inl ⟨by rfl, ?_⟩) (by assumption) ?_
            rotate_left
            · (intro w hSw; (try dsimp only at hSw); go_simp); (try with_reducible rfl)
            try simp only [Act.put, List.setIfInBounds_toArray, List.set_cons_zero, List.set_cons_succ]
            refine wpAnyH_take (i := 5) (oi := { dst := some 54, op := Op.move (Operand.tmp 9), type := 3, pos := "ring.go:35", after := #[], guard := none }) (v := ?_) rfl (by kernel_rfl) (by kernel_rfl) (by kernel_rfl) (fun _ _ _ h => h) (Or.inl ⟨by rfl, ?_⟩) (by assumption) ?_
            rotate_left
            · (intro w hSw; (try dsimp only at hSw); go_simp); (try with_reducible rfl)
            try simp only [Act.put, List.setIfInBounds_toArray, List.set_cons_zero, List.set_cons_succ]
            refine wpAnyH_take (i := 6) (oi := { dst := some 55, op := Op.indexAddr 65 (Operand.tmp 53) (Operand.tmp 54), type := 0, pos := "ring.go:35", after := #[{ on := 4, ground := Ground.data }, { on := 5, ground := Ground.data }], guard := none }) (v := ?_) rfl (by kernel_rfl) (by kernel_rfl) (by kernel_rfl) (fun _ _ _ h => h) (Or.inl ⟨by rfl, ?_⟩) (by assumption) ?_
            rotate_left
            · (intro w hSw; (try dsimp only at hSw); go_simp); (try with_reducible rfl)
            try simp only [Act.put, List.setIfInBounds_toArray, List.set_cons_zero, List.set_cons_succ]
            refine wpAnyH_take (i := 7) (oi := { dst := some 56, op := Op.load 3 (Operand.tmp 55), type := 3, pos := "ring.go:35", after := #[{ on := 6, ground := Ground.data }], guard := none }) (v := ?_) rfl (by kernel_rfl) (by kernel_rfl) (by kernel_rfl) (fun _ _ _ h => h) (Or.inl ⟨by rfl, ?_⟩) (by assumption) ?_
            rotate_left
            · (intro w hSw; (try dsimp only at hSw); go_simp); (try with_reducible rfl)
            try simp only [Act.put, List.setIfInBounds_toArray, List.set_cons_zero, List.set_cons_succ]
            refine wpAnyH_take (i := 8) (oi := { dst := some 57, op := Op.move (Operand.tmp 12), type := 3, pos := "ring.go:35", after := #[], guard := none }) (v := ?_) rfl (by kernel_rfl) (by kernel_rfl) (by kernel_rfl) (fun _ _ _ h => h) (Or.inl ⟨by rfl, ?_⟩) (by assumption) ?_
            rotate_left
            · (intro w hSw; (try dsimp only at hSw); go_simp); (try with_reducible rfl)
            try simp only [Act.put, List.setIfInBounds_toArray, List.set_cons_zero, List.set_cons_succ]
            refine wpAnyH_ready (rs := [9]) (by kernel_rfl) (by simp) ?_
            refine (AllReadyH.cons (o := { dst := some 58, op := Op.call { callee := Callee.value (Operand.func 54), args := #[Operand.tmp 56, Operand.tmp 57], argTypes := #[3, 3] }, type := 3, pos := "ring.go:35", after := #[{ on := 7, ground := Ground.data }, { on := 8, ground := Ground.data }], guard := none }) rfl (fun K hK => ?_) AllReadyH.nil)
            go_simp
            (go_at_call 54; (with_reducible refine (power_any _ _ _ (by omega)).mono ?_); rintro e w' ⟨rfl, rfl⟩)
            (try go_wp2_with fail)
            refine hK.out _ _ ?_ (fun hHeld1 => ?_)
            · (try dsimp only); go_keep
            clear hK K hHeld0
            try simp only [Act.put, List.setIfInBounds_toArray, List.set_cons_zero, List.set_cons_succ]
            refine wpAnyH_take (i := 10) (oi := { dst := some 59, op := Op.binOp BinOp.mul 3 (Operand.tmp 52) (Operand.tmp 58) 3, type := 3, pos := "ring.go:35", after := #[{ on := 3, ground := Ground.data }, { on := 9, ground := Ground.data }], guard := none }) (v := ?_) rfl (by kernel_rfl) (by kernel_rfl) (by kernel_rfl) (fun _ _ _ h => h) (Or.inl ⟨by rfl, ?_⟩) (by assumption) ?_
            rotate_left
            · (intro w hSw; (try dsimp only at hSw); go_simp); (try with_reducible rfl)
            try simp only [Act.put, List.setIfInBounds_toArray, List.set_cons_zero, List.set_cons_succ]
            refine wpAnyH_take (i := 11) (oi := { dst := some 13, op := Op.assign (Operand.tmp 59), type := 3, pos := "ring.go:35", after := #[{ on := 10, ground := Ground.data }, { on := 9, ground := Ground.chain }, { on := 0, ground := Ground.phase }, { on := 1, ground := Ground.phase }, { on := 2, ground := Ground.phase }, { on := 3, ground := Ground.phase }, { on := 4, ground := Ground.phase }, { on := 5, ground := Ground.phase }, { on := 6, ground := Ground.phase }, { on := 7, ground := Ground.phase }, { on := 8, ground := Ground.phase }, { on := 9, ground := Ground.phase }, { on := 10, ground := Ground.phase }], guard := none }) (v := ?_) rfl (by kernel_rfl) (by kernel_rfl) (by kernel_rfl) (fun _ _ _ h => h) (Or.inl ⟨by rfl, ?_⟩) (by assumption) ?_
            rotate_left
            · (intro w hSw; (try dsimp only at hSw); go_simp); (try with_reducible rfl)
            try simp only [Act.put, List.setIfInBounds_toArray, List.set_cons_zero, List.set_cons_succ]
            refine wpAnyH_done (by kernel_rfl) ?_ _
            clear hHeld1
            rw [wrapEq]
            have hq := HQ0.out
            generalize wrap64 (a * powW b t) = x at hq ⊢
            have hbx : Below w.heap.size w wr.drew := hbel.drew
            have hownx : wr.drew.ownsRow w.heap.size 3 1 u11 t (out.map (Value.int .i64)) := own_below hown (Below.refl _ _).drew
            clear HQ0 ca cb hown hbel
            obtain ⟨wx, hwx⟩ : ∃ wx, wx = wr.drew := ⟨_, rfl⟩
            rw [← hwx] at hbx hownx ⊢
            clear hwx
            have HQ := Lib.hid hq
            clear hq
            by_cases hlo : x < -1073741824
            · go_wp2
              go_ret2
              have hno : stepL p l n (n + st) = none := stepL_none (stepL_no HO.out (by rw [HQ.out]; exact fun h => h.1 hlo)) (by omega)
              exact ⟨⟨_, by rw [steppedE, if_neg (by rw [HC.out]; simp), if_neg (by rw [HE.out]; simp), HN1.out, Int.toNat_natCast, hno]; rfl, by rw [steppedR, if_neg (by rw [HC.out]; simp), if_neg (by rw [HE.out]; simp), HN1.out, Int.toNat_natCast, hno]; exact Ints.nil _⟩, hbx⟩
            · by_cases hhi : 1073741824 < x
              · go_wp2
                go_ret2
                have hno : stepL p l n (n + st) = none := stepL_none (stepL_no HO.out (by rw [HQ.out]; exact fun h => h.2 hhi)) (by omega)
                exact ⟨⟨_, by rw [steppedE, if_neg (by rw [HC.out]; simp), if_neg (by rw [HE.out]; simp), HN1.out, Int.toNat_natCast, hno]; rfl, by rw [steppedR, if_neg (by rw [HC.out]; simp), if_neg (by rw [HE.out]; simp), HN1.out, Int.toNat_natCast, hno]; exact Ints.nil _⟩, hbx⟩
              · have hyes : stepL p l n (t + 1) = some (out ++ [x]) := by have := stepL_yes HO.out (by rw [HQ.out]; exact ⟨hlo, hhi⟩); rw [HQ.out] at this; exact this
                have HY := Lib.hid hyes
                clear hyes
                go_wp2_with (at_builtin; refine wpList_append_own _ rfl _ _ 26 rfl w.heap.size 3 i0 (.int .i64 0) 1 8 Try.underlying26 hi hz0 hz1 hz2 rfl (by decide) _ _ _ rfl (hownx.alloc _) ⟨wx.heap.size, 0, none⟩ 1 1 [.int .i64 x] rfl rfl (cell_one_new _ _ _) (by simp [Value.oneCell']) (by unfold maxLen; omega) (by omega) (by have := hbx.size; simp; omega) ?_; intro v' w5 hown5 hgrow5 _)
                have hb5 := below_own hbx hownx hgrow5
                clear hownx hgrow5 hbx
                go_wp2
                go_roundw
                case rel => exact ⟨t + 1, out ++ [x], by omega, by go_num, HY.out, by simp [HLE.out], by simpa using hown5, hb5⟩
                case measure => simp [intOf]; omega
          · obtain rfl : out.length = t := HLE.out
            obtain ⟨g, cg, rfl, hgb, hgc⟩ := own_cells hown (by omega)
            obtain ⟨wo, rfl⟩ : ∃ wo, wo = wr := ⟨_, rfl⟩
            have hq0 : stepVal p l out n out.length = stepIn p out n out.length n := by rw [stepVal, if_neg htn]
            have HQ0 := Lib.hid hq0
            clear hq0
            go_wp2
            go_loopw [13, 64] (fun val j wr2 => ∃ k : Nat, k ≤ n ∧ j = .int .i64 k ∧ val = .int .i64 (stepIn p out n out.length k) ∧ Below wo.heap.size wo wr2) (fun _ j _ => n - (intOf j).toNat)
            case atStart => exact ⟨0, by omega, rfl, rfl, Below.refl _ _⟩
            case round =>
              obtain ⟨k, hk, rfl, rfl, hb2⟩ := hrel
              by_cases hkn : k < n
              · have c1 := (hb2.cell (p := ⟨bp, op + k, none⟩) (by have := lt_of_cellSome (hpc k (by omega)); have := hbel.size; show bp < _; omega)).trans ((hbel.cell (p := ⟨bp, op + k, none⟩) (lt_of_cellSome (hpc k (by omega)))).trans (hpc k (by omega)))
                have c2 := (hb2.cell (p := ⟨bp, op + n, none⟩) (by have := lt_of_cellSome (hpc n (by omega)); have := hbel.size; show bp < _; omega)).trans ((hbel.cell (p := ⟨bp, op + n, none⟩) (lt_of_cellSome (hpc n (by omega)))).trans (hpc n (by omega)))
                have c3 := (hb2.cell (p := ⟨g, out.length - n + k, none⟩) (lt_of_cellSome (hgc (out.length - n + k) (by omega)))).trans (hgc (out.length - n + k) (by omega))
                have hN : wrap64 (stepIn p out n out.length k - wrap64 (wrap64 (p[k]?.getD 0 * out[out.length - n + k]?.getD 0) * powW (p[n]?.getD 0) (n - k - 1))) = stepIn p out n out.length (k + 1) := rfl
                generalize p[k]?.getD 0 = a at c1 hN
                generalize p[n]?.getD 0 = b at c2 hN
                generalize out[out.length - n + k]?.getD 0 = c at c3 hN
                generalize stepIn p out n out.length k = y at hN ⊢
                have HNN := Lib.hid hN
                clear hN
                have a1 : IntKind.i64.wrap ((out.length : Int) - (n : Int)) = (out.length : Int) - (n : Int) := IntWalk.i64_in _ (by omega)
                have a2 : IntKind.i64.wrap ((out.length : Int) - (n : Int) + (k : Int)) = (out.length : Int) - (n : Int) + (k : Int) := IntWalk.i64_in _ (by omega)
                have a3 : (0 : Int) ≤ (out.length : Int) - (n : Int) + (k : Int) := by omega
                have a4 : (out.length : Int) - (n : Int) + (k : Int) < (out.length : Int) := by omega
                have a5 : ((out.length : Int) - (n : Int) + (k : Int)).toNat = out.length - n + k := by omega
                have a6 : IntKind.i64.wrap ((n : Int) - (k : Int)) = (n : Int) - (k : Int) := IntWalk.i64_in _ (by omega)
                have a7 : IntKind.i64.wrap ((n : Int) - (k : Int) - 1) = (n : Int) - (k : Int) - 1 := IntWalk.i64_in _ (by omega)
                have a8 : ((n : Int) - (k : Int) - 1).toNat = n - k - 1 := by omega
                have HA8 := Lib.hid a8
                clear a8
                go_wp2_with fail
                refine wp_region_held_drew (S := (fun w' => w'.cell? ⟨g, out.length - n + k, none⟩ = some (.int .i64 c) ∧ w'.cell? ⟨bp, op + n, none⟩ = some (.int .i64 b))) (by kernel_rfl) ?_ (fun hHeld0 => ?_)
                · (try dsimp only); go_keep
                refine wpAnyH_take (i := 0) (oi := { dst := some 69, op := Op.move (Operand.tmp 13), type := 3, pos := "ring.go:38", after := #[], guard := none }) (v := ?_) rfl (by kernel_rfl) (by kernel_rfl) (by kernel_rfl) (fun _ _ _ h => h) (Or.inl ⟨by rfl, ?_⟩) (by assumption) ?_
                rotate_left
                · (intro w hSw; (try dsimp only at hSw); go_simp); (try with_reducible rfl)
                try simp only [Act.put, List.setIfInBounds_toArray, List.set_cons_zero, List.set_cons_succ]
                refine wpAnyH_take (i := 1) (oi := { dst := some 70, op := Op.move (Operand.tmp 15), type := 3, pos := "ring.go:38", after := #[], guard := none }) (v := ?_) rfl (by kernel_rfl) (by kernel_rfl) (by kernel_rfl) (fun _ _ _ h => h) (Or.inl ⟨by rfl, ?_⟩) (by assumption) ?_
                rotate_left
                · (intro w hSw; (try dsimp only at hSw); go_simp); (try with_reducible rfl)
                try simp only [Act.put, List.setIfInBounds_toArray, List.set_cons_zero, List.set_cons_succ]
                refine wpAnyH_take (i := 2) (oi := { dst := some 71, op := Op.move (Operand.tmp 11), type := 26, pos := "ring.go:38", after := #[], guard := none }) (v := ?_) rfl (by kernel_rfl) (by kernel_rfl) (by kernel_rfl) (fun _ _ _ h => h) (Or.inl ⟨by rfl, ?_⟩) (by assumption) ?_
                rotate_left
                · (intro w hSw; (try dsimp only at hSw); go_simp); (try with_reducible rfl)
                try simp only [Act.put, List.setIfInBounds_toArray, List.set_cons_zero, List.set_cons_succ]
                refine wpAnyH_take (i := 3) (oi := { dst := some 72, op := Op.move (Operand.tmp 12), type := 3, pos := "ring.go:38", after := #[], guard := none }) (v := ?_) rfl (by kernel_rfl) (by kernel_rfl) (by kernel_rfl) (fun _ _ _ h => h) (Or.inl ⟨by rfl, ?_⟩) (by assumption) ?_
                rotate_left
                · (intro w hSw; (try dsimp only at hSw); go_simp); (try with_reducible rfl)
                try simp only [Act.put, List.setIfInBounds_toArray, List.set_cons_zero, List.set_cons_succ]
                refine wpAnyH_take (i := 4) (oi := { dst := some 73, op := Op.move (Operand.tmp 9), type := 3, pos := "ring.go:38", after := #[], guard := none }) (v := ?_) rfl (by kernel_rfl) (by kernel_rfl) (by kernel_rfl) (fun _ _ _ h => h) (Or.inl ⟨by rfl, ?_⟩) (by assumption) ?_
                rotate_left
                · (intro w hSw; (try dsimp only at hSw); go_simp); (try with_reducible rfl)
                try simp only [Act.put, List.setIfInBounds_toArray, List.set_cons_zero, List.set_cons_succ]
                refine wpAnyH_take (i := 5) (oi := { dst := some 74, op := Op.binOp BinOp.sub 3 (Operand.tmp 72) (Operand.tmp 73) 3, type := 3, pos := "ring.go:38", after := #[{ on := 3, ground := Ground.data }, { on := 4, ground := Ground.data }], guard := none }) (v := ?_) rfl (by kernel_rfl) (by kernel_rfl) (by kernel_rfl) (fun _ _ _ h => h) (Or.inl ⟨by rfl, ?_⟩) (by assumption) ?_
                rotate_left
                · (intro w hSw; (try dsimp only at hSw); go_simp); (try with_reducible rfl)
                try simp only [Act.put, List.setIfInBounds_toArray, List.set_cons_zero, List.set_cons_succ]
                refine wpAnyH_take (i := 6) (oi := { dst := some 75, op := Op.move (Operand.tmp 14), type := 3, pos := "ring.go:38", after := #[], guard := none }) (v := ?_) rfl (by kernel_rfl) (by kernel_rfl) (by kernel_rfl) (fun _ _ _ h => h) (Or.inl ⟨by rfl, ?_⟩) (by assumption) ?_
                rotate_left
                · (intro w hSw; (try dsimp only at hSw); go_simp); (try with_reducible rfl)
                try simp only [Act.put, List.setIfInBounds_toArray, List.set_cons_zero, List.set_cons_succ]
                refine wpAnyH_take (i := 7) (oi := { dst := some 76, op := Op.binOp BinOp.add 3 (Operand.tmp 74) (Operand.tmp 75) 3, type := 3, pos := "ring.go:38", after := #[{ on := 5, ground := Ground.data }, { on := 6, ground := Ground.data }], guard := none }) (v := ?_) rfl (by kernel_rfl) (by kernel_rfl) (by kernel_rfl) (fun _ _ _ h => h) (Or.inl ⟨by rfl, ?_⟩) (by assumption) ?_
                rotate_left
                · (intro w hSw; (try dsimp only at hSw); go_simp); (try with_reducible rfl)
                try simp only [Act.put, List.setIfInBounds_toArray, List.set_cons_zero, List.set_cons_succ]
                refine wpAnyH_take (i := 8) (oi := { dst := some 77, op := Op.indexAddr 26 (Operand.tmp 71) (Operand.tmp 76), type := 0, pos := "ring.go:38", after := #[{ on := 2, ground := Ground.data }, { on := 7, ground := Ground.data }], guard := none }) (v := ?_) rfl (by kernel_rfl) (by kernel_rfl) (by kernel_rfl) (fun _ _ _ h => h) (Or.inl ⟨by rfl, ?_⟩) (by assumption) ?_
                rotate_left
                · (intro w hSw; (try dsimp only at hSw); go_simp); (try with_reducible rfl)
                try simp only [Act.put, List.setIfInBounds_toArray, List.set_cons_zero, List.set_cons_succ]
                refine wpAnyH_take (i := 9) (oi := { dst := some 78, op := Op.load 3 (Operand.tmp 77), type := 3, pos := "ring.go:38", after := #[{ on := 8, ground := Ground.data }], guard := none }) (v := ?_) rfl (by kernel_rfl) (by kernel_rfl) (by kernel_rfl) (fun _ _ _ h => h) (Or.inl ⟨by rfl, ?_⟩) (by assumption) ?_
                rotate_left
                · (intro w hSw; (try dsimp only at hSw); go_simp); (try with_reducible rfl)
                try simp only [Act.put, List.setIfInBounds_toArray, List.set_cons_zero, List.set_cons_succ]
                refine wpAnyH_take (i := 10) (oi := { dst := some 79, op := Op.binOp BinOp.mul 3 (Operand.tmp 70) (Operand.tmp 78) 3, type := 3, pos := "ring.go:38", after := #[{ on := 1, ground := Ground.data }, { on := 9, ground := Ground.data }], guard := none }) (v := ?_) rfl (by kernel_rfl) (by kernel_rfl) (by kernel_rfl) (fun _ _ _ h => h) (Or.inl ⟨by rfl, ?_⟩) (by assumption) ?_
                rotate_left
                · (intro w hSw; (try dsimp only at hSw); go_simp); (try with_reducible rfl)
                try simp only [Act.put, List.setIfInBounds_toArray, List.set_cons_zero, List.set_cons_succ]
                refine wpAnyH_take (i := 11) (oi := { dst := some 80, op := Op.move (Operand.tmp 0), type := 65, pos := "ring.go:38", after := #[], guard := none }) (v := ?_) rfl (by kernel_rfl) (by kernel_rfl) (by kernel_rfl) (fun _ _ _ h => h) (Or.inl ⟨by rfl, ?_⟩) (by assumption) ?_
                rotate_left
                · (intro w hSw; (try dsimp only at hSw); go_simp); (try with_reducible rfl)
                try simp only [Act.put, List.setIfInBounds_toArray, List.set_cons_zero, List.set_cons_succ]
                refine wpAnyH_take (i := 12) (oi := { dst := some 81, op := Op.move (Operand.tmp 9), type := 3, pos := "ring.go:38", after := #[], guard := none }) (v := ?_) rfl (by kernel_rfl) (by kernel_rfl) (by kernel_rfl) (fun _ _ _ h => h) (Or.inl ⟨by rfl, ?_⟩) (by assumption) ?_
                rotate_left
                · (intro w hSw; (try dsimp only at hSw); go_simp); (try with_reducible rfl)
                try simp only [Act.put, List.setIfInBounds_toArray, List.set_cons_zero, List.set_cons_succ]
                refine wpAnyH_take (i := 13) (oi := { dst := some 82, op := Op.indexAddr 65 (Operand.tmp 80) (Operand.tmp 81), type := 0, pos := "ring.go:38", after := #[{ on := 11, ground := Ground.data }, { on := 12, ground := Ground.data }], guard := none }) (v := ?_) rfl (by kernel_rfl) (by kernel_rfl) (by kernel_rfl) (fun _ _ _ h => h) (Or.inl ⟨by rfl, ?_⟩) (by assumption) ?_
                rotate_left
                · (intro w hSw; (try dsimp only at hSw); go_simp); (try with_reducible rfl)
                try simp only [Act.put, List.setIfInBounds_toArray, List.set_cons_zero, List.set_cons_succ]
                refine wpAnyH_take (i := 14) (oi := { dst := some 83, op := Op.load 3 (Operand.tmp 82), type := 3, pos := "ring.go:38", after := #[{ on := 13, ground := Ground.data }], guard := none }) (v := ?_) rfl (by kernel_rfl) (by kernel_rfl) (by kernel_rfl) (fun _ _ _ h => h) (Or.inl ⟨by rfl, ?_⟩) (by assumption) ?_
                rotate_left
                · (intro w hSw; (try dsimp only at hSw); go_simp); (try with_reducible rfl)
                try simp only [Act.put, List.setIfInBounds_toArray, List.set_cons_zero, List.set_cons_succ]
                refine wpAnyH_take (i := 15) (oi := { dst := some 84, op := Op.move (Operand.tmp 9), type := 3, pos := "ring.go:38", after := #[], guard := none }) (v := ?_) rfl (by kernel_rfl) (by kernel_rfl) (by kernel_rfl) (fun _ _ _ h => h) (Or.inl ⟨by rfl, ?_⟩) (by assumption) ?_
                rotate_left
                · (intro w hSw; (try dsimp only at hSw); go_simp); (try with_reducible rfl)
                try simp only [Act.put, List.setIfInBounds_toArray, List.set_cons_zero, List.set_cons_succ]
                refine wpAnyH_take (i := 16) (oi := { dst := some 85, op := Op.move (Operand.tmp 14), type := 3, pos := "ring.go:38", after := #[], guard := none }) (v := ?_) rfl (by kernel_rfl) (by kernel_rfl) (by kernel_rfl) (fun _ _ _ h => h) (Or.inl ⟨by rfl, ?_⟩) (by assumption) ?_
                rotate_left
                · (intro w hSw; (try dsimp only at hSw); go_simp); (try with_reducible rfl)
                try simp only [Act.put, List.setIfInBounds_toArray, List.set_cons_zero, List.set_cons_succ]
                refine wpAnyH_take (i := 17) (oi := { dst := some 86, op := Op.binOp BinOp.sub 3 (Operand.tmp 84) (Operand.tmp 85) 3, type := 3, pos := "ring.go:38", after := #[{ on := 15, ground := Ground.data }, { on := 16, ground := Ground.data }], guard := none }) (v := ?_) rfl (by kernel_rfl) (by kernel_rfl) (by kernel_rfl) (fun _ _ _ h => h) (Or.inl ⟨by rfl, ?_⟩) (by assumption) ?_
                rotate_left
                · (intro w hSw; (try dsimp only at hSw); go_simp); (try with_reducible rfl)
                try simp only [Act.put, List.setIfInBounds_toArray, List.set_cons_zero, List.set_cons_succ]
                refine wpAnyH_take (i := 18) (oi := { dst := some 87, op := Op.binOp BinOp.sub 3 (Operand.tmp 86) (Operand.const (Value.int IntKind.i64 1)) 3, type := 3, pos := "ring.go:38", after := #[{ on := 17, ground := Ground.data }], guard := none }) (v := ?_) rfl (by kernel_rfl) (by kernel_rfl) (by kernel_rfl) (fun _ _ _ h => h) (Or.inl ⟨by rfl, ?_⟩) (by assumption) ?_
                rotate_left
                · (intro w hSw; (try dsimp only at hSw); go_simp); (try with_reducible rfl)
                try simp only [Act.put, List.setIfInBounds_toArray, List.set_cons_zero, List.set_cons_succ]
                refine wpAnyH_ready (rs := [19]) (by kernel_rfl) (by simp) ?_
                refine (AllReadyH.cons (o := { dst := some 88, op := Op.call { callee := Callee.value (Operand.func 54), args := #[Operand.tmp 83, Operand.tmp 87], argTypes := #[3, 3] }, type := 3, pos := "ring.go:38", after := #[{ on := 14, ground := Ground.data }, { on := 18, ground := Ground.data }], guard := none }) rfl (fun K hK => ?_) AllReadyH.nil)
                go_simp
                (go_at_call 54; (with_reducible refine (power_i _ _ _ ?_ ?_).mono ?_); omega; omega; rintro e w' ⟨rfl, rfl⟩)
                (try go_wp2_with fail)
                refine hK.out _ _ ?_ (fun hHeld1 => ?_)
                · (try dsimp only); go_keep
                clear hK K hHeld0
                try simp only [Act.put, List.setIfInBounds_toArray, List.set_cons_zero, List.set_cons_succ]
                refine wpAnyH_take (i := 20) (oi := { dst := some 89, op := Op.binOp BinOp.mul 3 (Operand.tmp 79) (Operand.tmp 88) 3, type := 3, pos := "ring.go:38", after := #[{ on := 10, ground := Ground.data }, { on := 19, ground := Ground.data }], guard := none }) (v := ?_) rfl (by kernel_rfl) (by kernel_rfl) (by kernel_rfl) (fun _ _ _ h => h) (Or.inl ⟨by rfl, ?_⟩) (by assumption) ?_
                rotate_left
                · (intro w hSw; (try dsimp only at hSw); go_simp); (try with_reducible rfl)
                try simp only [Act.put, List.setIfInBounds_toArray, List.set_cons_zero, List.set_cons_succ]
                refine wpAnyH_take (i := 21) (oi := { dst := some 90, op := Op.binOp BinOp.sub 3 (Operand.tmp 69) (Operand.tmp 89) 3, type := 3, pos := "ring.go:38", after := #[{ on := 0, ground := Ground.data }, { on := 20, ground := Ground.data }], guard := none }) (v := ?_) rfl (by kernel_rfl) (by kernel_rfl) (by kernel_rfl) (fun _ _ _ h => h) (Or.inl ⟨by rfl, ?_⟩) (by assumption) ?_
                rotate_left
                · (intro w hSw; (try dsimp only at hSw); go_simp); (try with_reducible rfl)
                try simp only [Act.put, List.setIfInBounds_toArray, List.set_cons_zero, List.set_cons_succ]
                refine wpAnyH_take (i := 22) (oi := { dst := some 13, op := Op.assign (Operand.tmp 90), type := 3, pos := "ring.go:38", after := #[{ on := 21, ground := Ground.data }, { on := 19, ground := Ground.chain }, { on := 0, ground := Ground.phase }, { on := 1, ground := Ground.phase }, { on := 2, ground := Ground.phase }, { on := 3, ground := Ground.phase }, { on := 4, ground := Ground.phase }, { on := 5, ground := Ground.phase }, { on := 6, ground := Ground.phase }, { on := 7, ground := Ground.phase }, { on := 8, ground := Ground.phase }, { on := 9, ground := Ground.phase }, { on := 10, ground := Ground.phase }, { on := 11, ground := Ground.phase }, { on := 12, ground := Ground.phase }, { on := 13, ground := Ground.phase }, { on := 14, ground := Ground.phase }, { on := 15, ground := Ground.phase }, { on := 16, ground := Ground.phase }, { on := 17, ground := Ground.phase }, { on := 18, ground := Ground.phase }, { on := 19, ground := Ground.phase }, { on := 20, ground := Ground.phase }, { on := 21, ground := Ground.phase }], guard := none }) (v := ?_) rfl (by kernel_rfl) (by kernel_rfl) (by kernel_rfl) (fun _ _ _ h => h) (Or.inl ⟨by rfl, ?_⟩) (by assumption) ?_
                rotate_left
                · (intro w hSw; (try dsimp only at hSw); go_simp); (try with_reducible rfl)
                try simp only [Act.put, List.setIfInBounds_toArray, List.set_cons_zero, List.set_cons_succ]
                refine wpAnyH_done (by kernel_rfl) ?_ _
                clear hHeld1
                rw [wrapEq, wrapEq, wrapEq, HNN.out]
                go_wp2
                go_roundw
                case rel => exact ⟨k + 1, by omega, by go_num, rfl, hb2.drew⟩
                case measure => simp [intOf]; omega
              · obtain rfl : k = n := by omega
                have hq := HQ0.out
                generalize hx : stepIn p out k out.length k = x at hq ⊢
                clear hx
                have hbx : Below w.heap.size w wr := bthen hbel hb2
                have hownx : wr.ownsRow w.heap.size 3 1 (.slice (some ⟨g, 0, none⟩) out.length cg) out.length (out.map (Value.int .i64)) := own_below hown hb2
                clear HQ0 hown hbel hgc hb2
                have HQ := Lib.hid hq
                clear hq
                by_cases hlo : x < -1073741824
                · go_wp2
                  go_ret2
                  have hno : stepL p l k (k + st) = none := stepL_none (stepL_no HO.out (by rw [HQ.out]; exact fun h => h.1 hlo)) (by omega)
                  exact ⟨⟨_, by rw [steppedE, if_neg (by rw [HC.out]; simp), if_neg (by rw [HE.out]; simp), HN1.out, Int.toNat_natCast, hno]; rfl, by rw [steppedR, if_neg (by rw [HC.out]; simp), if_neg (by rw [HE.out]; simp), HN1.out, Int.toNat_natCast, hno]; exact Ints.nil _⟩, hbx⟩
                · by_cases hhi : 1073741824 < x
                  · go_wp2
                    go_ret2
                    have hno : stepL p l k (k + st) = none := stepL_none (stepL_no HO.out (by rw [HQ.out]; exact fun h => h.2 hhi)) (by omega)
                    exact ⟨⟨_, by rw [steppedE, if_neg (by rw [HC.out]; simp), if_neg (by rw [HE.out]; simp), HN1.out, Int.toNat_natCast, hno]; rfl, by rw [steppedR, if_neg (by rw [HC.out]; simp), if_neg (by rw [HE.out]; simp), HN1.out, Int.toNat_natCast, hno]; exact Ints.nil _⟩, hbx⟩
                  · have hyes : stepL p l k (out.length + 1) = some (out ++ [x]) := by have := stepL_yes HO.out (by rw [HQ.out]; exact ⟨hlo, hhi⟩); rw [HQ.out] at this; exact this
                    have HY := Lib.hid hyes
                    clear hyes
                    go_wp2_with (at_builtin; refine wpList_append_own _ rfl _ _ 26 rfl w.heap.size 3 i0 (.int .i64 0) 1 8 Try.underlying26 hi hz0 hz1 hz2 rfl (by decide) _ _ _ rfl (hownx.alloc _) ⟨wr.heap.size, 0, none⟩ 1 1 [.int .i64 x] rfl rfl (cell_one_new _ _ _) (by simp [Value.oneCell']) (by unfold maxLen; omega) (by omega) (by have := hbx.size; simp; omega) ?_; intro v' w5 hown5 hgrow5 _)
                    have hb5 := below_own hbx hownx hgrow5
                    clear hownx hgrow5 hbx
                    go_wp2
                    go_roundw
                    case rel => exact ⟨out.length + 1, out ++ [x], by omega, by go_num, HY.out, by simp, by simpa using hown5, hb5⟩
                    case measure => simp [intOf]; omega
        · have htt : t = n + st := by omega
          subst htt
          have hi' : Ints wr u11 out := Ints.of_own hown HLE.out.symm
          go_wp2
          go_ret2
          exact ⟨⟨u11, by rw [steppedE, if_neg (by rw [HC.out]; simp), if_neg (by rw [HE.out]; simp), HN1.out, Int.toNat_natCast, HO.out]; rfl, by rw [steppedR, if_neg (by rw [HC.out]; simp), if_neg (by rw [HE.out]; simp), HN1.out, Int.toNat_natCast, HO.out]; exact hi'⟩, hbel⟩
    · have HE := Lib.hid he
      go_wp2
      go_ret2
      exact ⟨⟨_, by rw [steppedE, if_neg (by rw [HC.out]; simp), if_pos HE.out]; rfl, by rw [steppedR, if_neg (by rw [HC.out]; simp), if_pos HE.out]; exact Ints.nil _⟩, h3⟩
  · have tp := CheckPoly_any vp p w (by omega) hp
    go_enter Try.func18, Try.ntmps18
    go_wp2_with fail
    refine (tp).mono ?_
    rintro e w1 ⟨rfl, h1⟩
    go_wp2
    go_ret2
    exact ⟨⟨_, by rw [steppedE, if_pos hc]; rfl, by rw [steppedR, if_pos hc]; exact Ints.nil _⟩, h1⟩

end Go.Proofs.Ytipmjjnhdjcoiaa

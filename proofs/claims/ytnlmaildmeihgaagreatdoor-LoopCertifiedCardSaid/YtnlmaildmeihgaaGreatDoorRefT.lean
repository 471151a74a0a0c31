/- The reference's tables. -/
import Derived.Test.YtnlmaildmeihgaaGreatDoorRefB
import Derived.Test.YtnlmaildmeihgaaGreatDoorAwakeE
namespace Go.Proofs.YtnlmaildmeihgaaGreatDoor
open Go.RowKit

/-- only the last row of a table can fail. -/
theorem tableL_last (f : Nat) (r : List Int) : (tableL f r).any failsB = match (tableL f r).getLast? with | some l => failsB l | none => false := by
  induction f generalizing r with
  | zero => rfl
  | succ f ih =>
    rw [tableL]
    split
    · rfl
    · split
      · rename_i h; simp [h]
      · rename_i h
        have hr : failsB r = false := by simpa using h
        rw [List.any_cons, hr, Bool.false_or, ih]
        cases hq : tableL f (nextL r) with
        | nil => simp [hr]
        | cons a b => simp [List.getLast?_cons]

set_option maxHeartbeats 1000000 in
theorem failsR_any (v : Value) (l : List Int) (w : World) (hp : Ints w v l) (hl : l.length ≤ 1000000000) (h0 : 0 < l.length) :
    Calls Tryz.prog 128 #[v] w fun e W' => e = .returned (.bool (failsB l)) ∧ Below w.heap.size w W' := by
  obtain ⟨b, o, cap, rfl, hc⟩ := hp.head h0
  have c0 := hc 0 h0
  have c1 := hc (l.length - 1) (by omega)
  rw [Nat.add_zero] at c0
  obtain ⟨x, hx⟩ : ∃ x, x = l[0]?.getD 0 := ⟨_, rfl⟩
  obtain ⟨y, hy⟩ : ∃ y, y = l[l.length - 1]?.getD 0 := ⟨_, rfl⟩
  have hr : failsB l = decide (absW y ≤ absW x) := by rw [hx, hy]; rfl
  rw [hr]
  rw [← hx] at c0
  rw [← hy] at c1
  clear hx hy hr hc
  have a0 : (0 : Int) < (l.length : Int) := by omega
  have a1 : IntKind.i64.wrap ((l.length : Int) - 1) = (l.length : Int) - 1 := IntWalk.i64_in _ (by omega)
  have a2 : (1 : Int) ≤ (l.length : Int) := by omega
  have a4 : (l.length : Int) - 1 < (l.length : Int) := by omega
  have a3 : ((l.length : Int) - 1).toNat = l.length - 1 := by omega
  go_enter Tryz.func128, Tryz.ntmps128
  go_wp2_with fail
  refine wp_region_held_drew (S := (fun w' => w'.cell? ⟨b, o, none⟩ = some (.int .i64 x) ∧ w'.cell? ⟨b, o + (l.length - 1), none⟩ = some (.int .i64 y))) (by kernel_rfl) ?_ (fun hHeld0 => ?_)
  · (try dsimp only); go_keep
  refine wpAnyH_take (i := 0) (oi := { dst := some 5, op := Op.move (Operand.tmp 0), type := 22, pos := "ref.go:173", after := #[], guard := none }) (v := ?_) rfl (by kernel_rfl) (by kernel_rfl) (by kernel_rfl) (fun _ _ _ h => h) (Or.inl ⟨by rfl, ?_⟩) (by assumption) ?_
  rotate_left
  · (intro w hSw; (try dsimp only at hSw); go_simp); (try with_reducible rfl)
  try simp only [Act.put, List.setIfInBounds_toArray, List.set_cons_zero, List.set_cons_succ]
  refine wpAnyH_take (i := 1) (oi := { dst := some 6, op := Op.indexAddr 22 (Operand.tmp 5) (Operand.const (Value.int IntKind.i64 0)), type := 0, pos := "ref.go:173", after := #[{ on := 0, ground := Ground.data }], guard := none }) (v := ?_) rfl (by kernel_rfl) (by kernel_rfl) (by kernel_rfl) (fun _ _ _ h => h) (Or.inl ⟨by rfl, ?_⟩) (by assumption) ?_
  rotate_left
  · (intro w hSw; (try dsimp only at hSw); go_simp); (try with_reducible rfl)
  try simp only [Act.put, List.setIfInBounds_toArray, List.set_cons_zero, List.set_cons_succ]
  refine wpAnyH_take (i := 2) (oi := { dst := some 7, op := Op.load 3 (Operand.tmp 6), type := 3, pos := "ref.go:173", after := #[{ on := 1, ground := Ground.data }], guard := none }) (v := ?_) rfl (by kernel_rfl) (by kernel_rfl) (by kernel_rfl) (fun _ _ _ h => h) (Or.inl ⟨by rfl, ?_⟩) (by assumption) ?_
  rotate_left
  · (intro w hSw; (try dsimp only at hSw); go_simp); (try with_reducible rfl)
  try simp only [Act.put, List.setIfInBounds_toArray, List.set_cons_zero, List.set_cons_succ]
  refine wpAnyH_take (i := 3) (oi := { dst := some 8, op := Op.move (Operand.tmp 0), type := 22, pos := "ref.go:173", after := #[{ on := 9, ground := Ground.gcOnly Departure.lateStores }], guard := none }) (v := ?_) rfl (by kernel_rfl) (by kernel_rfl) (by kernel_rfl) (fun _ _ _ h => h) (Or.inl ⟨by rfl, ?_⟩) (by assumption) ?_
  rotate_left
  · (intro w hSw; (try dsimp only at hSw); go_simp); (try with_reducible rfl)
  try simp only [Act.put, List.setIfInBounds_toArray, List.set_cons_zero, List.set_cons_succ]
  refine wpAnyH_take (i := 4) (oi := { dst := some 9, op := Op.move (Operand.tmp 0), type := 22, pos := "ref.go:173", after := #[], guard := none }) (v := ?_) rfl (by kernel_rfl) (by kernel_rfl) (by kernel_rfl) (fun _ _ _ h => h) (Or.inl ⟨by rfl, ?_⟩) (by assumption) ?_
  rotate_left
  · (intro w hSw; (try dsimp only at hSw); go_simp); (try with_reducible rfl)
  try simp only [Act.put, List.setIfInBounds_toArray, List.set_cons_zero, List.set_cons_succ]
  refine wpAnyH_take (i := 5) (oi := { dst := some 10, op := Op.call { callee := Callee.builtin Builtin.len, args := #[Operand.tmp 9], argTypes := #[22] }, type := 3, pos := "ref.go:173", after := #[{ on := 4, ground := Ground.data }], guard := none }) (v := ?_) rfl (by kernel_rfl) (by kernel_rfl) (by kernel_rfl) (fun _ _ _ h => h) (Or.inl ⟨by rfl, ?_⟩) (by assumption) ?_
  rotate_left
  · (intro w hSw; (try dsimp only at hSw); go_simp); (try with_reducible rfl)
  try simp only [Act.put, List.setIfInBounds_toArray, List.set_cons_zero, List.set_cons_succ]
  refine wpAnyH_take (i := 6) (oi := { dst := some 11, op := Op.binOp BinOp.sub 3 (Operand.tmp 10) (Operand.const (Value.int IntKind.i64 1)) 3, type := 3, pos := "ref.go:173", after := #[{ on := 5, ground := Ground.data }, { on := 9, ground := Ground.gcOnly Departure.lateStores }], guard := none }) (v := ?_) rfl (by kernel_rfl) (by kernel_rfl) (by kernel_rfl) (fun _ _ _ h => h) (Or.inl ⟨by rfl, ?_⟩) (by assumption) ?_
  rotate_left
  · (intro w hSw; (try dsimp only at hSw); go_simp); (try with_reducible rfl)
  try simp only [Act.put, List.setIfInBounds_toArray, List.set_cons_zero, List.set_cons_succ]
  refine wpAnyH_take (i := 7) (oi := { dst := some 12, op := Op.indexAddr 22 (Operand.tmp 8) (Operand.tmp 11), type := 0, pos := "ref.go:173", after := #[{ on := 3, ground := Ground.data }, { on := 6, ground := Ground.data }, { on := 9, ground := Ground.gcOnly Departure.lateStores }], guard := none }) (v := ?_) rfl (by kernel_rfl) (by kernel_rfl) (by kernel_rfl) (fun _ _ _ h => h) (Or.inl ⟨by rfl, ?_⟩) (by assumption) ?_
  rotate_left
  · (intro w hSw; (try dsimp only at hSw); go_simp); (try with_reducible rfl)
  try simp only [Act.put, List.setIfInBounds_toArray, List.set_cons_zero, List.set_cons_succ]
  refine wpAnyH_take (i := 8) (oi := { dst := some 13, op := Op.load 3 (Operand.tmp 12), type := 3, pos := "ref.go:173", after := #[{ on := 7, ground := Ground.data }, { on := 9, ground := Ground.gcOnly Departure.lateStores }], guard := none }) (v := ?_) rfl (by kernel_rfl) (by kernel_rfl) (by kernel_rfl) (fun _ _ _ h => h) (Or.inl ⟨by rfl, ?_⟩) (by assumption) ?_
  rotate_left
  · (intro w hSw; (try dsimp only at hSw); go_simp); (try with_reducible rfl)
  try simp only [Act.put, List.setIfInBounds_toArray, List.set_cons_zero, List.set_cons_succ]
  refine wpAnyH_take (i := 9) (oi := { dst := some 3, op := Op.assign (Operand.tmp 7), type := 3, pos := "ref.go:173", after := #[{ on := 2, ground := Ground.data }, { on := 0, ground := Ground.phase }, { on := 1, ground := Ground.phase }, { on := 2, ground := Ground.phase }, { on := 3, ground := Ground.textOnly Departure.lateStores }, { on := 4, ground := Ground.textOnly Departure.lateStores }, { on := 5, ground := Ground.textOnly Departure.lateStoresUnsure }, { on := 6, ground := Ground.textOnly Departure.lateStores }, { on := 7, ground := Ground.textOnly Departure.lateStores }, { on := 8, ground := Ground.textOnly Departure.lateStores }], guard := none }) (v := ?_) rfl (by kernel_rfl) (by kernel_rfl) (by kernel_rfl) (fun _ _ _ h => h) (Or.inl ⟨by rfl, ?_⟩) (by assumption) ?_
  rotate_left
  · (intro w hSw; (try dsimp only at hSw); go_simp); (try with_reducible rfl)
  try simp only [Act.put, List.setIfInBounds_toArray, List.set_cons_zero, List.set_cons_succ]
  refine wpAnyH_take (i := 10) (oi := { dst := some 4, op := Op.assign (Operand.tmp 13), type := 3, pos := "ref.go:173", after := #[{ on := 8, ground := Ground.data }, { on := 9, ground := Ground.chain }, { on := 0, ground := Ground.phase }, { on := 1, ground := Ground.phase }, { on := 2, ground := Ground.phase }, { on := 3, ground := Ground.phase }, { on := 4, ground := Ground.phase }, { on := 5, ground := Ground.phase }, { on := 6, ground := Ground.phase }, { on := 7, ground := Ground.phase }, { on := 8, ground := Ground.phase }, { on := 9, ground := Ground.phase }], guard := none }) (v := ?_) rfl (by kernel_rfl) (by kernel_rfl) (by kernel_rfl) (fun _ _ _ h => h) (Or.inl ⟨by rfl, ?_⟩) (by assumption) ?_
  rotate_left
  · (intro w hSw; (try dsimp only at hSw); go_simp); (try with_reducible rfl)
  try simp only [Act.put, List.setIfInBounds_toArray, List.set_cons_zero, List.set_cons_succ]
  refine wpAnyH_done (by kernel_rfl) ?_ _
  clear hHeld0
  clear a0 a1 a2 a3 a4 c0 c1 hp
  go_wp2
  go_ret
  exact ⟨ret_bool (by unfold absW; rfl), (Below.refl _ _).drew⟩

theorem rowK_le (p : List Int) (k : Nat) : (rowK p k).length ≤ p.length := by rw [rowK_length]; omega

set_option maxRecDepth 100000 in
set_option maxHeartbeats 8000000 in
theorem TableR_any (v : Value) (p : List Int) (w : World) (hv : Ints w v p) (hl : p.length ≤ 100000) :
    Calls Tryz.prog 77 #[v] w fun e w' => (∃ u, e = .returned u ∧ RowsOf w' u (tableW p)) ∧ Below w.heap.size w w' := by
  have hv' := hv
  obtain ⟨pa, pc, rfl, _⟩ := hv'
  obtain ⟨i0, hi, hz0, hz1, hz2⟩ := info_parts Tryz.infoInt
  obtain ⟨j0, hj, jz0, jz1, jz2⟩ := info_parts Tryz.infoInts
  have kW1 := below_new w (Obj.cells #[] 3)
  go_enter Tryz.func77, Tryz.ntmps77
  go_wp2_with (at_builtin; refine wpList_append_freshI rfl (.tmp 8) (.tmp 9) 22 22 3 rfl i0 (.int .i64 0) Tryz.underlying22 Tryz.underlying22 hi hz0 hz1 hz2 rfl w.heap.size (Blk.new w _ []) rfl _ p rfl (hv.carry kW1) (by omega) ?_; intro u w2 hu hb2)
  have hB2 := bthen kW1 hb2
  clear kW1 hb2
  go_loopw [3, 4] (fun vo vr wr => ∃ (k : Nat) (us : List Value) (rk : List Int), us.length = k ∧ k ≤ p.length ∧ (∀ j, j < k → failsB (rowK p j) = false) ∧ wr.ownsRow w.heap.size 22 1 vo k us ∧ (∀ (j : Nat) (y : Value), us[j]? = some y → OwnI 3 0 wr y (rowK p j)) ∧ OwnI 3 0 wr vr rk ∧ (rk = rowK p k ∨ rk = [] ∧ (rowK p k).length ≤ 1) ∧ Below w.heap.size w wr) (fun _ vr _ => lenV vr)
  case atStart => exact ⟨0, [], p, rfl, Nat.zero_le _, fun j h => by omega, World.ownsRow_nil _ _ _ _, fun j y h => by simp at h, hu, .inl rfl, hB2⟩
  case round =>
    obtain ⟨k, us, rk, hlen, hkp, hnf, hown, hus, hrow, hrk, hbr⟩ := hrel
    have HLN := Lib.hid hlen
    have HNF := Lib.hid hnf
    have hrow' := hrow.ints
    obtain ⟨ra, rc, rfl, _⟩ := hrow'
    clear hlen hnf
    by_cases h1 : 1 < rk.length
    · obtain rfl : rk = rowK p k := by
        rcases hrk with h | ⟨h, _⟩
        · exact h
        · rw [h] at h1; simp at h1
      have hle := rowK_le p k
      have HKL := Lib.hid (rowK_length p k)
      have hk1 : k + 1 ≤ p.length := by have := HKL.out; omega
      have d1 : (1 : Int) < ((rowK p k).length : Int) := by omega
      have hsz := hbr.size
      clear hrk
      go_wp2_with (at_builtin; refine wpList_append_own _ rfl _ _ 104 rfl w.heap.size 22 j0 (.slice none 0 0) 1 24 Tryz.underlying104 hj jz0 jz1 jz2 rfl (by decide) _ _ _ rfl (hown.alloc _) ⟨wr.heap.size, 0, none⟩ 1 1 [.slice ra (rowK p k).length rc] rfl rfl (cell_one_new _ _ _) (by simp [Value.oneCell']) (by unfold maxLen; omega) (by omega) (by simp; omega) ?_; intro v' w5 hown5 hgrow5 _)
      have hb5 := below_own hbr hown hgrow5
      have hk5 := kint_append hown (by decide) hgrow5
      have hrow5 := hrow.kint hk5
      have hus5 : ∀ (j : Nat) (y : Value), (us ++ [.slice ra (rowK p k).length rc])[j]? = some y → OwnI 3 0 w5 y (rowK p j) := by
        intro j y hy
        by_cases hj : j < us.length
        · rw [List.getElem?_append_left hj] at hy
          exact (hus j y hy).kint hk5
        · rw [List.getElem?_append_right (by omega)] at hy
          have hjl : ¬ us.length < j := fun hne => by
            rw [List.getElem?_eq_none (by simp; omega)] at hy
            cases hy
          obtain rfl : j = us.length := by omega
          simp at hy
          subst hy
          rw [HLN.out]
          exact hrow5
      have hlen5 : (us ++ [Value.slice ra (rowK p k).length rc]).length = k + 1 := by simp [HLN.out]
      generalize us ++ [Value.slice ra (rowK p k).length rc] = us5 at hown5 hus5 hlen5
      have HLN5 := Lib.hid hlen5
      clear hown hus hgrow5 hk5 hrow hbr hlen5 HLN
      refine (failsR_any _ (rowK p k) w5 hrow5.ints (by omega) (by omega)).mono ?_
      rintro e w7 ⟨rfl, hb7⟩
      have hB7 := bthen hb5 hb7
      have hown7 := own_below hown5 hb7
      have hrow7 := hrow5.carry hb7
      have hus7 : ∀ (j : Nat) (y : Value), us5[j]? = some y → OwnI 3 0 w7 y (rowK p j) := fun j y hy => (hus5 j y hy).carry hb7
      clear hown5 hrow5 hus5 hb5 hb7
      by_cases hf : failsB (rowK p k) = true
      · have hT := table_fails p k HNF.out h1 hf
        have hout : RowsOf w7 v' (tableW p) := by
          rw [hT]
          exact ⟨us5, Vals.of_own (by rw [HLN5.out]; exact hown7), by rw [HLN5.out, upto_length], fun j y l h1 h2 => by
            have hjl := (List.getElem?_eq_some_iff.1 h2).1
            rw [upto_length] at hjl
            have h3 : l = rowK p j := by
              rw [upto, List.getElem?_map, List.getElem?_range hjl] at h2
              exact (Option.some.inj h2).symm
            rw [h3]
            exact (hus7 j y h1).ints⟩
        have HO := Lib.hid hout
        rw [hf]
        clear hT hout hf hown7 hus7
        go_wp2
        go_ret
        exact ⟨⟨_, rfl, HO.out⟩, hB7⟩
      · have hf' : failsB (rowK p k) = false := by simpa using hf
        rw [hf']
        have HF := Lib.hid hf'
        clear hf hf'
        have hri := hrow7.ints
        obtain ⟨b, o, _, hba, hcs⟩ := hri.head (by omega)
        cases hba
        generalize hr : rowK p k = r at h1 hle HKL d1 hrow7 hcs HF ⊢
        have HR := Lib.hid hr
        clear hr
        have e0 : IntKind.i64.wrap ((r.length : Int) - 1) = (r.length : Int) - 1 := IntWalk.i64_in _ (by omega)
        obtain ⟨wo, rfl⟩ : ∃ wo, wo = w7 := ⟨_, rfl⟩
        go_wp2
        go_loopw [6, 7] (fun vn vi wr2 => ∃ i : Nat, i ≤ r.length - 1 ∧ vi = .int .i64 i ∧ (r.length = 2 → i = 0) ∧ OwnI 3 wo.heap.size wr2 vn (upto (nextAt r) i) ∧ Below wo.heap.size wo wr2) (fun _ vi _ => r.length - (intOf vi).toNat)
        case atStart => exact ⟨0, Nat.zero_le _, rfl, fun _ => rfl, World.ownsRow_nil _ _ _ _, Below.refl _ _⟩
        case round =>
          obtain ⟨i, hir, rfl, hi2, hni, hbi⟩ := hrel
          by_cases hlt : i < r.length - 1 ∧ 2 < r.length
          · obtain ⟨hlt, hr2⟩ := hlt
            have d2 : (1 : Int) < (r.length : Int) - 1 := by omega
            have d3 : (i : Int) < (r.length : Int) - 1 := by omega
            have cA := hcs (r.length - 1) (by omega)
            have cB := hcs (i + 1) (by omega)
            have cC := hcs 0 (by omega)
            have cD := hcs (r.length - 2 - i) (by omega)
            rw [Nat.add_zero] at cC
            have hX : nextAt r i = wrap64 (wrap64 (r[r.length - 1]?.getD 0 * r[i + 1]?.getD 0) - wrap64 (r[0]?.getD 0 * r[r.length - 2 - i]?.getD 0)) := rfl
            have hS : upto (nextAt r) (i + 1) = upto (nextAt r) i ++ [nextAt r i] := upto_succ _ _
            have hLen : (upto (nextAt r) i).length = i := upto_length _ _
            generalize r[r.length - 1]?.getD 0 = A at cA hX
            generalize r[i + 1]?.getD 0 = B at cB hX
            generalize r[0]?.getD 0 = C at cC hX
            generalize r[r.length - 2 - i]?.getD 0 = D at cD hX
            rw [hX] at hS
            generalize upto (nextAt r) i = L at hS hLen hni
            have HS := Lib.hid hS
            have HL := Lib.hid hLen
            clear hS hLen hX
            have f1 : IntKind.i64.wrap ((i : Int) + 1) = (i : Int) + 1 := IntWalk.i64_in _ (by omega)
            have f2 : IntKind.i64.wrap ((r.length : Int) - 1 - 1) = (r.length : Int) - 1 - 1 := IntWalk.i64_in _ (by omega)
            have f3 : IntKind.i64.wrap ((r.length : Int) - 1 - 1 - (i : Int)) = (r.length : Int) - 1 - 1 - (i : Int) := IntWalk.i64_in _ (by omega)
            have g1 : (1 : Int) ≤ (r.length : Int) := by omega
            have g2 : (r.length : Int) - 1 < (r.length : Int) := by omega
            have g3 : (0 : Int) ≤ (i : Int) + 1 := by omega
            have g4 : (i : Int) + 1 < (r.length : Int) := by omega
            have g5 : (i : Int) ≤ (r.length : Int) - 1 - 1 := by omega
            have g6 : (r.length : Int) - 1 - 1 - (i : Int) < (r.length : Int) := by omega
            have g7 : 0 < r.length := by omega
            have t1 : ((r.length : Int) - 1).toNat = r.length - 1 := by omega
            have t2 : ((i : Int) + 1).toNat = i + 1 := by omega
            have t3 : ((r.length : Int) - 1 - 1 - (i : Int)).toNat = r.length - 2 - i := by omega
            go_wp2_with fail
            refine wp_region_held_drew (S := (fun w' => w'.cell? ⟨b, o + (r.length - 1), none⟩ = some (.int .i64 A) ∧ w'.cell? ⟨b, o + (i + 1), none⟩ = some (.int .i64 B) ∧ w'.cell? ⟨b, o, none⟩ = some (.int .i64 C) ∧ w'.cell? ⟨b, o + (r.length - 2 - i), none⟩ = some (.int .i64 D))) (by kernel_rfl) ⟨cellb cA hbi.drew, cellb cB hbi.drew, cellb cC hbi.drew, cellb cD hbi.drew⟩ (fun hHeld0 => ?_)
            obtain ⟨wzd, hwz⟩ : ∃ v, v = wr.drew := ⟨_, rfl⟩
            rw [← hwz] at hHeld0 ⊢
            have hbzd : Below wo.heap.size wo wzd := by rw [hwz]; exact hbi.drew
            have hlzd : Below wr.heap.size wr wzd := by rw [hwz]; exact (Below.refl _ _).drew
            have hni := hni.carry hlzd
            clear hwz hlzd
            refine wpAnyH_take (i := 0) (oi := { dst := some 33, op := Op.move (Operand.tmp 6), type := 22, pos := "ref.go:189", after := #[], guard := none }) (v := ?_) rfl (by kernel_rfl) (by kernel_rfl) (by kernel_rfl) (fun _ _ _ h => h) (Or.inl ⟨by rfl, ?_⟩) (by assumption) ?_
            rotate_left
            · (intro w hSw; (try dsimp only at hSw); go_simp); (try with_reducible rfl)
            try simp only [Act.put, List.setIfInBounds_toArray, List.set_cons_zero, List.set_cons_succ]
            refine wpAnyH_take (i := 1) (oi := { dst := some 34, op := Op.move (Operand.tmp 4), type := 22, pos := "ref.go:189", after := #[], guard := none }) (v := ?_) rfl (by kernel_rfl) (by kernel_rfl) (by kernel_rfl) (fun _ _ _ h => h) (Or.inl ⟨by rfl, ?_⟩) (by assumption) ?_
            rotate_left
            · (intro w hSw; (try dsimp only at hSw); go_simp); (try with_reducible rfl)
            try simp only [Act.put, List.setIfInBounds_toArray, List.set_cons_zero, List.set_cons_succ]
            refine wpAnyH_take (i := 2) (oi := { dst := some 35, op := Op.move (Operand.tmp 5), type := 3, pos := "ref.go:189", after := #[], guard := none }) (v := ?_) rfl (by kernel_rfl) (by kernel_rfl) (by kernel_rfl) (fun _ _ _ h => h) (Or.inl ⟨by rfl, ?_⟩) (by assumption) ?_
            rotate_left
            · (intro w hSw; (try dsimp only at hSw); go_simp); (try with_reducible rfl)
            try simp only [Act.put, List.setIfInBounds_toArray, List.set_cons_zero, List.set_cons_succ]
            refine wpAnyH_take (i := 3) (oi := { dst := some 36, op := Op.indexAddr 22 (Operand.tmp 34) (Operand.tmp 35), type := 0, pos := "ref.go:189", after := #[{ on := 1, ground := Ground.data }, { on := 2, ground := Ground.data }], guard := none }) (v := ?_) rfl (by kernel_rfl) (by kernel_rfl) (by kernel_rfl) (fun _ _ _ h => h) (Or.inl ⟨by rfl, ?_⟩) (by assumption) ?_
            rotate_left
            · (intro w hSw; (try dsimp only at hSw); go_simp); (try with_reducible rfl)
            try simp only [Act.put, List.setIfInBounds_toArray, List.set_cons_zero, List.set_cons_succ]
            refine wpAnyH_take (i := 4) (oi := { dst := some 37, op := Op.load 3 (Operand.tmp 36), type := 3, pos := "ref.go:189", after := #[{ on := 3, ground := Ground.data }], guard := none }) (v := ?_) rfl (by kernel_rfl) (by kernel_rfl) (by kernel_rfl) (fun _ _ _ h => h) (Or.inl ⟨by rfl, ?_⟩) (by assumption) ?_
            rotate_left
            · (intro w hSw; (try dsimp only at hSw); go_simp); (try with_reducible rfl)
            try simp only [Act.put, List.setIfInBounds_toArray, List.set_cons_zero, List.set_cons_succ]
            refine wpAnyH_take (i := 5) (oi := { dst := some 38, op := Op.move (Operand.tmp 4), type := 22, pos := "ref.go:189", after := #[], guard := none }) (v := ?_) rfl (by kernel_rfl) (by kernel_rfl) (by kernel_rfl) (fun _ _ _ h => h) (Or.inl ⟨by rfl, ?_⟩) (by assumption) ?_
            rotate_left
            · (intro w hSw; (try dsimp only at hSw); go_simp); (try with_reducible rfl)
            try simp only [Act.put, List.setIfInBounds_toArray, List.set_cons_zero, List.set_cons_succ]
            refine wpAnyH_take (i := 6) (oi := { dst := some 39, op := Op.move (Operand.tmp 7), type := 3, pos := "ref.go:189", after := #[], guard := none }) (v := ?_) rfl (by kernel_rfl) (by kernel_rfl) (by kernel_rfl) (fun _ _ _ h => h) (Or.inl ⟨by rfl, ?_⟩) (by assumption) ?_
            rotate_left
            · (intro w hSw; (try dsimp only at hSw); go_simp); (try with_reducible rfl)
            try simp only [Act.put, List.setIfInBounds_toArray, List.set_cons_zero, List.set_cons_succ]
            refine wpAnyH_take (i := 7) (oi := { dst := some 40, op := Op.binOp BinOp.add 3 (Operand.tmp 39) (Operand.const (Value.int IntKind.i64 1)) 3, type := 3, pos := "ref.go:189", after := #[{ on := 6, ground := Ground.data }], guard := none }) (v := ?_) rfl (by kernel_rfl) (by kernel_rfl) (by kernel_rfl) (fun _ _ _ h => h) (Or.inl ⟨by rfl, ?_⟩) (by assumption) ?_
            rotate_left
            · (intro w hSw; (try dsimp only at hSw); go_simp); (try with_reducible rfl)
            try simp only [Act.put, List.setIfInBounds_toArray, List.set_cons_zero, List.set_cons_succ]
            refine wpAnyH_take (i := 8) (oi := { dst := some 41, op := Op.indexAddr 22 (Operand.tmp 38) (Operand.tmp 40), type := 0, pos := "ref.go:189", after := #[{ on := 5, ground := Ground.data }, { on := 7, ground := Ground.data }], guard := none }) (v := ?_) rfl (by kernel_rfl) (by kernel_rfl) (by kernel_rfl) (fun _ _ _ h => h) (Or.inl ⟨by rfl, ?_⟩) (by assumption) ?_
            rotate_left
            · (intro w hSw; (try dsimp only at hSw); go_simp); (try with_reducible rfl)
            try simp only [Act.put, List.setIfInBounds_toArray, List.set_cons_zero, List.set_cons_succ]
            refine wpAnyH_take (i := 9) (oi := { dst := some 42, op := Op.load 3 (Operand.tmp 41), type := 3, pos := "ref.go:189", after := #[{ on := 8, ground := Ground.data }], guard := none }) (v := ?_) rfl (by kernel_rfl) (by kernel_rfl) (by kernel_rfl) (fun _ _ _ h => h) (Or.inl ⟨by rfl, ?_⟩) (by assumption) ?_
            rotate_left
            · (intro w hSw; (try dsimp only at hSw); go_simp); (try with_reducible rfl)
            try simp only [Act.put, List.setIfInBounds_toArray, List.set_cons_zero, List.set_cons_succ]
            refine wpAnyH_take (i := 10) (oi := { dst := some 43, op := Op.binOp BinOp.mul 3 (Operand.tmp 37) (Operand.tmp 42) 3, type := 3, pos := "ref.go:189", after := #[{ on := 4, ground := Ground.data }, { on := 9, ground := Ground.data }], guard := none }) (v := ?_) rfl (by kernel_rfl) (by kernel_rfl) (by kernel_rfl) (fun _ _ _ h => h) (Or.inl ⟨by rfl, ?_⟩) (by assumption) ?_
            rotate_left
            · (intro w hSw; (try dsimp only at hSw); go_simp); (try with_reducible rfl)
            try simp only [Act.put, List.setIfInBounds_toArray, List.set_cons_zero, List.set_cons_succ]
            refine wpAnyH_take (i := 11) (oi := { dst := some 44, op := Op.move (Operand.tmp 4), type := 22, pos := "ref.go:189", after := #[], guard := none }) (v := ?_) rfl (by kernel_rfl) (by kernel_rfl) (by kernel_rfl) (fun _ _ _ h => h) (Or.inl ⟨by rfl, ?_⟩) (by assumption) ?_
            rotate_left
            · (intro w hSw; (try dsimp only at hSw); go_simp); (try with_reducible rfl)
            try simp only [Act.put, List.setIfInBounds_toArray, List.set_cons_zero, List.set_cons_succ]
            refine wpAnyH_take (i := 12) (oi := { dst := some 45, op := Op.indexAddr 22 (Operand.tmp 44) (Operand.const (Value.int IntKind.i64 0)), type := 0, pos := "ref.go:189", after := #[{ on := 11, ground := Ground.data }], guard := none }) (v := ?_) rfl (by kernel_rfl) (by kernel_rfl) (by kernel_rfl) (fun _ _ _ h => h) (Or.inl ⟨by rfl, ?_⟩) (by assumption) ?_
            rotate_left
            · (intro w hSw; (try dsimp only at hSw); go_simp); (try with_reducible rfl)
            try simp only [Act.put, List.setIfInBounds_toArray, List.set_cons_zero, List.set_cons_succ]
            refine wpAnyH_take (i := 13) (oi := { dst := some 46, op := Op.load 3 (Operand.tmp 45), type := 3, pos := "ref.go:189", after := #[{ on := 12, ground := Ground.data }], guard := none }) (v := ?_) rfl (by kernel_rfl) (by kernel_rfl) (by kernel_rfl) (fun _ _ _ h => h) (Or.inl ⟨by rfl, ?_⟩) (by assumption) ?_
            rotate_left
            · (intro w hSw; (try dsimp only at hSw); go_simp); (try with_reducible rfl)
            try simp only [Act.put, List.setIfInBounds_toArray, List.set_cons_zero, List.set_cons_succ]
            refine wpAnyH_take (i := 14) (oi := { dst := some 47, op := Op.move (Operand.tmp 4), type := 22, pos := "ref.go:189", after := #[], guard := none }) (v := ?_) rfl (by kernel_rfl) (by kernel_rfl) (by kernel_rfl) (fun _ _ _ h => h) (Or.inl ⟨by rfl, ?_⟩) (by assumption) ?_
            rotate_left
            · (intro w hSw; (try dsimp only at hSw); go_simp); (try with_reducible rfl)
            try simp only [Act.put, List.setIfInBounds_toArray, List.set_cons_zero, List.set_cons_succ]
            refine wpAnyH_take (i := 15) (oi := { dst := some 48, op := Op.move (Operand.tmp 5), type := 3, pos := "ref.go:189", after := #[], guard := none }) (v := ?_) rfl (by kernel_rfl) (by kernel_rfl) (by kernel_rfl) (fun _ _ _ h => h) (Or.inl ⟨by rfl, ?_⟩) (by assumption) ?_
            rotate_left
            · (intro w hSw; (try dsimp only at hSw); go_simp); (try with_reducible rfl)
            try simp only [Act.put, List.setIfInBounds_toArray, List.set_cons_zero, List.set_cons_succ]
            refine wpAnyH_take (i := 16) (oi := { dst := some 49, op := Op.binOp BinOp.sub 3 (Operand.tmp 48) (Operand.const (Value.int IntKind.i64 1)) 3, type := 3, pos := "ref.go:189", after := #[{ on := 15, ground := Ground.data }], guard := none }) (v := ?_) rfl (by kernel_rfl) (by kernel_rfl) (by kernel_rfl) (fun _ _ _ h => h) (Or.inl ⟨by rfl, ?_⟩) (by assumption) ?_
            rotate_left
            · (intro w hSw; (try dsimp only at hSw); go_simp); (try with_reducible rfl)
            try simp only [Act.put, List.setIfInBounds_toArray, List.set_cons_zero, List.set_cons_succ]
            refine wpAnyH_take (i := 17) (oi := { dst := some 50, op := Op.move (Operand.tmp 7), type := 3, pos := "ref.go:189", after := #[], guard := none }) (v := ?_) rfl (by kernel_rfl) (by kernel_rfl) (by kernel_rfl) (fun _ _ _ h => h) (Or.inl ⟨by rfl, ?_⟩) (by assumption) ?_
            rotate_left
            · (intro w hSw; (try dsimp only at hSw); go_simp); (try with_reducible rfl)
            try simp only [Act.put, List.setIfInBounds_toArray, List.set_cons_zero, List.set_cons_succ]
            refine wpAnyH_take (i := 18) (oi := { dst := some 51, op := Op.binOp BinOp.sub 3 (Operand.tmp 49) (Operand.tmp 50) 3, type := 3, pos := "ref.go:189", after := #[{ on := 16, ground := Ground.data }, { on := 17, ground := Ground.data }], guard := none }) (v := ?_) rfl (by kernel_rfl) (by kernel_rfl) (by kernel_rfl) (fun _ _ _ h => h) (Or.inl ⟨by rfl, ?_⟩) (by assumption) ?_
            rotate_left
            · (intro w hSw; (try dsimp only at hSw); go_simp); (try with_reducible rfl)
            try simp only [Act.put, List.setIfInBounds_toArray, List.set_cons_zero, List.set_cons_succ]
            refine wpAnyH_take (i := 19) (oi := { dst := some 52, op := Op.indexAddr 22 (Operand.tmp 47) (Operand.tmp 51), type := 0, pos := "ref.go:189", after := #[{ on := 14, ground := Ground.data }, { on := 18, ground := Ground.data }], guard := none }) (v := ?_) rfl (by kernel_rfl) (by kernel_rfl) (by kernel_rfl) (fun _ _ _ h => h) (Or.inl ⟨by rfl, ?_⟩) (by assumption) ?_
            rotate_left
            · (intro w hSw; (try dsimp only at hSw); go_simp); (try with_reducible rfl)
            try simp only [Act.put, List.setIfInBounds_toArray, List.set_cons_zero, List.set_cons_succ]
            refine wpAnyH_take (i := 20) (oi := { dst := some 53, op := Op.load 3 (Operand.tmp 52), type := 3, pos := "ref.go:189", after := #[{ on := 19, ground := Ground.data }], guard := none }) (v := ?_) rfl (by kernel_rfl) (by kernel_rfl) (by kernel_rfl) (fun _ _ _ h => h) (Or.inl ⟨by rfl, ?_⟩) (by assumption) ?_
            rotate_left
            · (intro w hSw; (try dsimp only at hSw); go_simp); (try with_reducible rfl)
            try simp only [Act.put, List.setIfInBounds_toArray, List.set_cons_zero, List.set_cons_succ]
            refine wpAnyH_take (i := 21) (oi := { dst := some 54, op := Op.binOp BinOp.mul 3 (Operand.tmp 46) (Operand.tmp 53) 3, type := 3, pos := "ref.go:189", after := #[{ on := 13, ground := Ground.data }, { on := 20, ground := Ground.data }], guard := none }) (v := ?_) rfl (by kernel_rfl) (by kernel_rfl) (by kernel_rfl) (fun _ _ _ h => h) (Or.inl ⟨by rfl, ?_⟩) (by assumption) ?_
            rotate_left
            · (intro w hSw; (try dsimp only at hSw); go_simp); (try with_reducible rfl)
            try simp only [Act.put, List.setIfInBounds_toArray, List.set_cons_zero, List.set_cons_succ]
            refine wpAnyH_take (i := 22) (oi := { dst := some 55, op := Op.binOp BinOp.sub 3 (Operand.tmp 43) (Operand.tmp 54) 3, type := 3, pos := "ref.go:189", after := #[{ on := 10, ground := Ground.data }, { on := 21, ground := Ground.data }], guard := none }) (v := ?_) rfl (by kernel_rfl) (by kernel_rfl) (by kernel_rfl) (fun _ _ _ h => h) (Or.inl ⟨by rfl, ?_⟩) (by assumption) ?_
            rotate_left
            · (intro w hSw; (try dsimp only at hSw); go_simp); (try with_reducible rfl)
            try simp only [Act.put, List.setIfInBounds_toArray, List.set_cons_zero, List.set_cons_succ]
            refine wpAnyH_ready (rs := [23]) (by kernel_rfl) (by simp) ?_
            refine (AllReadyH.cons (o := { dst := some 56, op := Op.buildSlice 22 1 #[(0, Operand.tmp 55)], type := 22, pos := "ref.go:189", after := #[{ on := 22, ground := Ground.data }], guard := none }) rfl (fun K hK => ?_) AllReadyH.nil)
            go_simp
            obtain ⟨wz23, hwz⟩ : ∃ v, v = wzd.alloc (Obj.cells #[.int .i64 (IntKind.i64.wrap (IntKind.i64.wrap (A * B) - IntKind.i64.wrap (C * D)))] 3) := ⟨_, rfl⟩
            rw [← hwz]
            have hl : Below wzd.heap.size wzd wz23 := by rw [hwz]; exact below_new _ _
            have hbz23 := bthen hbzd hl
            have bs : Blk wz23 wzd.heap.size 3 [.int .i64 (IntKind.i64.wrap (IntKind.i64.wrap (A * B) - IntKind.i64.wrap (C * D)))] := by rw [hwz]; exact Blk.new _ _ _
            generalize wzd.heap.size = G at bs ⊢
            clear hwz
            have hni := hni.carry hl
            clear hl
            refine hK.out _ _ ⟨cellb cA hbz23, cellb cB hbz23, cellb cC hbz23, cellb cD hbz23⟩ (fun hHeld1 => ?_)
            clear hK K hHeld0
            try simp only [Act.put, List.setIfInBounds_toArray, List.set_cons_zero, List.set_cons_succ]
            refine wpAnyH_ready (rs := [24]) (by kernel_rfl) (by simp) ?_
            refine (AllReadyH.cons (o := { dst := some 57, op := Op.call { callee := Callee.builtin Builtin.append, args := #[Operand.tmp 33, Operand.tmp 56], argTypes := #[22, 22] }, type := 22, pos := "ref.go:189", after := #[{ on := 0, ground := Ground.data }, { on := 23, ground := Ground.data }], guard := none }) rfl (fun K hK => ?_) AllReadyH.nil)
            have hsz24 := (hbz23).size
            refine wp_append_own wz23 (.tmp 33) (.tmp 56) 22 rfl wo.heap.size 3 i0 (.int .i64 0) 1 8 Tryz.underlying22 hi hz0 hz1 hz2 rfl (by decide) _ L.length _ rfl hni ⟨G, 0, none⟩ 1 1 [.int .i64 (IntKind.i64.wrap (IntKind.i64.wrap (A * B) - IntKind.i64.wrap (C * D)))] rfl rfl bs.one (by simp [Value.oneCell']) (by unfold maxLen; have := HL.out; omega) (by have := HL.out; omega) hsz24 ?_
            intro v9 wz24 hown9 hgrow9 _
            have hbz24 := OwnI.grow_below hni hbz23 hgrow9
            refine hK.out _ _ ⟨cellb cA hbz24, cellb cB hbz24, cellb cC hbz24, cellb cD hbz24⟩ (fun hHeld2 => ?_)
            clear hK K hHeld1
            try simp only [Act.put, List.setIfInBounds_toArray, List.set_cons_zero, List.set_cons_succ]
            refine wpAnyH_take (i := 25) (oi := { dst := some 6, op := Op.assign (Operand.tmp 57), type := 22, pos := "ref.go:189", after := #[{ on := 24, ground := Ground.data }, { on := 24, ground := Ground.chain }, { on := 0, ground := Ground.phase }, { on := 1, ground := Ground.phase }, { on := 2, ground := Ground.phase }, { on := 3, ground := Ground.phase }, { on := 4, ground := Ground.phase }, { on := 5, ground := Ground.phase }, { on := 6, ground := Ground.phase }, { on := 7, ground := Ground.phase }, { on := 8, ground := Ground.phase }, { on := 9, ground := Ground.phase }, { on := 10, ground := Ground.phase }, { on := 11, ground := Ground.phase }, { on := 12, ground := Ground.phase }, { on := 13, ground := Ground.phase }, { on := 14, ground := Ground.phase }, { on := 15, ground := Ground.phase }, { on := 16, ground := Ground.phase }, { on := 17, ground := Ground.phase }, { on := 18, ground := Ground.phase }, { on := 19, ground := Ground.phase }, { on := 20, ground := Ground.phase }, { on := 21, ground := Ground.phase }, { on := 22, ground := Ground.phase }, { on := 23, ground := Ground.phase }, { on := 24, ground := Ground.phase }], guard := none }) (v := ?_) rfl (by kernel_rfl) (by kernel_rfl) (by kernel_rfl) (fun _ _ _ h => h) (Or.inl ⟨by rfl, ?_⟩) (by assumption) ?_
            rotate_left
            · (intro w hSw; (try dsimp only at hSw); go_simp); (try with_reducible rfl)
            try simp only [Act.put, List.setIfInBounds_toArray, List.set_cons_zero, List.set_cons_succ]
            refine wpAnyH_done (by kernel_rfl) ?_ _
            clear hHeld2
            skip
            have hn9 : OwnI 3 wo.heap.size wz24 v9 (upto (nextAt r) (i + 1)) := by
              simp only [wrapEq] at hown9; rw [HS.out]; unfold OwnI; rw [List.length_append, List.map_append]; exact hown9
            go_wp2
            go_roundw
            case rel => exact ⟨i + 1, by omega, by go_num, by omega, hn9, hbz24⟩
            case measure => simp [intOf]; omega
          · have hown9 := own_below hown7 hbi
            have hus9 : ∀ (j : Nat) (y : Value), us5[j]? = some y → OwnI 3 0 wr y (rowK p j) := fun j y hy => (hus7 j y hy).carry hbi
            have hB9 := bthen hB7 hbi
            have hn9 := OwnI.base hni (Nat.zero_le _)
            have hnf9 : ∀ j, j < k + 1 → failsB (rowK p j) = false := fun j hj => by
              rcases Nat.lt_or_ge j k with h | h
              · exact HNF.out j h
              · obtain rfl : j = k := by omega
                rw [HR.out]; exact HF.out
            have hNext : rowK p (k + 1) = nextL r := by rw [← HR.out]; rfl
            have hrk9 : upto (nextAt r) i = rowK p (k + 1) ∨ upto (nextAt r) i = [] ∧ (rowK p (k + 1)).length ≤ 1 := by
              by_cases h2 : r.length = 2
              · right
                rw [hi2 h2]
                exact ⟨rfl, by rw [hNext, nextL, upto_length]; omega⟩
              · left
                obtain rfl : i = r.length - 1 := by omega
                rw [hNext]; rfl
            have hLen : (upto (nextAt r) i).length = i := upto_length _ _
            have hsh := hn9.ints
            obtain ⟨na, nc, rfl, _⟩ := hsh
            have hcond : ((i : Int) < (r.length : Int) - 1 ∧ ¬ (1 : Int) < (r.length : Int) - 1) ∨ ¬ (i : Int) < (r.length : Int) - 1 := by
              by_cases h2 : r.length = 2
              · rcases Nat.lt_or_ge i (r.length - 1) with h | h
                · left; omega
                · right; omega
              · right; omega
            generalize hL : upto (nextAt r) i = L at hn9 hrk9 hLen ⊢
            have HLL := Lib.hid hLen
            have HRK := Lib.hid hrk9
            have HNF9 := Lib.hid hnf9
            clear hni hL hrk9 hnf9 hLen hNext hown7 hus7 hrow7 hri hcs
            rcases hcond with ⟨d3, d2⟩ | d3
            all_goals
              go_wp2
              go_roundw
              case rel => exact ⟨k + 1, us5, L, HLN5.out, hk1, HNF9.out, hown9, hus9, hn9, HRK.out, hB9⟩
              case measure => (have := HLL.out; rw [HR.out]; show L.length < r.length; omega)
    · have hrk1 : (rowK p k).length ≤ 1 := by
        rcases hrk with h | ⟨_, h⟩
        · rw [← h]; omega
        · exact h
      have hT := table_done p k HNF.out hkp hrk1
      have hout : RowsOf wr u3 (tableW p) := by
        rw [hT]
        exact ⟨us, Vals.of_own (by rw [HLN.out]; exact hown), by rw [HLN.out, upto_length], fun j y l h1 h2 => by
          have hjl := (List.getElem?_eq_some_iff.1 h2).1
          rw [upto_length] at hjl
          have h3 : l = rowK p j := by
            rw [upto, List.getElem?_map, List.getElem?_range hjl] at h2
            exact (Option.some.inj h2).symm
          rw [h3]
          exact (hus j y h1).ints⟩
      have HO := Lib.hid hout
      have d1 : ¬ (1 : Int) < (rk.length : Int) := by omega
      clear hT hout hown hus hrk1 hrk
      go_wp2
      go_ret
      exact ⟨⟨_, rfl, HO.out⟩, hbr⟩

set_option maxHeartbeats 1000000 in
set_option maxRecDepth 100000 in
theorem StableR_any (v : Value) (p : List Int) (w : World) (hv : Ints w v p) (hl : p.length ≤ 100000) :
    Calls Tryz.prog 78 #[v] w fun e w' => e = .returned (.bool (stableB p)) ∧ Below w.heap.size w w' := by
  have htl := tableL_length p.length p
  have hS : stableB p = !(match (tableW p).getLast? with | some l => failsB l | none => false) := by rw [stableB, tableW, tableL_last]
  have hmem : ∀ l ∈ tableW p, 0 < l.length ∧ l.length ≤ p.length := fun l h => by
    have := table_mem h; omega
  obtain ⟨a, cap, rfl, _⟩ := id hv
  go_enter Tryz.func78, Tryz.ntmps78
  go_wp2_with fail
  refine (TableR_any _ p w hv hl).mono ?_
  rintro e w1 ⟨⟨u, rfl, hu⟩, hb⟩
  generalize hT : tableW p = T at hu hS hmem
  have hTl : T.length ≤ p.length := by rw [← hT]; exact htl
  clear htl hT
  obtain ⟨us, ⟨xa, xc, rfl, hcap, hcs⟩, hlen, hr⟩ := hu
  rw [hlen] at hcap hcs ⊢
  have HLEN := Lib.hid hlen
  clear hlen
  by_cases h0 : T.length = 0
  · skip
    have hT0 : T = [] := List.length_eq_zero_iff.1 h0
    have HS := Lib.hid (show stableB p = true by rw [hS, hT0]; rfl)
    have b0 : ((T.length : Int) == 0) = true := by rw [beq_iff_eq]; omega
    clear hS hmem hr hcs hT0 h0
    go_wp2
    go_ret
    exact ⟨ret_bool HS.out.symm, hb⟩
  · obtain ⟨b, o, rfl, hd⟩ := hcs (by omega)
    obtain ⟨l, hlast⟩ : ∃ l, T[T.length - 1]? = some l := ⟨_, List.getElem?_eq_getElem (by omega)⟩
    obtain ⟨y, hy⟩ : ∃ y, us[T.length - 1]? = some y := ⟨_, List.getElem?_eq_getElem (by rw [HLEN.out]; omega)⟩
    have hml := hmem l (List.mem_of_getElem? hlast)
    have HS := Lib.hid (show stableB p = !failsB l by rw [hS, List.getLast?_eq_getElem?, hlast])
    have iy := hr (T.length - 1) y l hy hlast
    have cy := hd (T.length - 1) y hy
    have b0 : ((T.length : Int) == 0) = false := by rw [beq_eq_false_iff_ne]; omega
    have a1 : IntKind.i64.wrap ((T.length : Int) - 1) = (T.length : Int) - 1 := IntWalk.i64_in _ (by omega)
    have g1 : (1 : Int) ≤ (T.length : Int) := by omega
    have g2 : (T.length : Int) - 1 < (T.length : Int) := by omega
    have t1 : ((T.length : Int) - 1).toNat = T.length - 1 := by omega
    have TF := Lib.hid (failsR_any y l w1 iy (by omega) hml.1)
    obtain ⟨ya, yc, rfl, _⟩ := iy
    clear hS hmem hr hcs hd hlast hy
    go_wp2_with fail
    refine TF.out.mono ?_
    rintro e w2 ⟨rfl, hb2⟩
    go_wp2
    go_ret
    exact ⟨ret_bool HS.out.symm, bthen hb hb2⟩

end Go.Proofs.YtnlmaildmeihgaaGreatDoor

/- The package harmonic: the extreme corner of a polygon; the greatest number of a list and its place. -/
import Derived.Test.YtlohcnecehlljaaGreatDoorHarZ
namespace Go.Proofs.YtlohcnecehlljaaGreatDoor
set_option linter.unusedSimpArgs false
set_option linter.unusedVariables false
open Go.RowKit

def maxN (l : List Int) : Nat → Int
  | 0 => l[0]?.getD 0
  | k + 1 => if maxN l k < l[k + 1]?.getD 0 then l[k + 1]?.getD 0 else maxN l k
def maxW (l : List Int) : Int := maxN l (l.length - 1)
def pickI (b : Bool) (x y : Int) : Int := bif b then x else y
set_option maxHeartbeats 1000000 in
theorem Max_any (v : Value) (l : List Int) (w : World) (hv : Ints w v l) (hl : l.length ≤ 1000000) (h0 : 0 < l.length) :
    Calls Tryz.prog 109 #[v] w fun e w' => e = .returned (.int .i64 (maxW l)) ∧ w = w' := by
  obtain ⟨n, hn⟩ : ∃ n, n = l.length := ⟨_, rfl⟩
  obtain ⟨b, off, cp, rfl, hcs⟩ := hv.head h0
  have c0 := hcs 0 h0
  rw [Nat.add_zero] at c0
  have hm0 : l[0]?.getD 0 = maxN l 0 := rfl
  rw [hm0] at c0
  have HR := Lib.hid (show maxW l = maxN l (n - 1) by rw [hn]; rfl)
  rw [← hn] at hcs h0 hl ⊢
  generalize maxW l = R at HR ⊢
  have HC := Lib.hid hcs
  have a1 : ¬ ((n : Int) < 1) := by omega
  have a2 : (0 : Int) < (n : Int) := by omega
  clear hcs hv hn hm0
  go_enter Tryz.func109, Tryz.ntmps109
  go_wp2_with fail
  clear c0
  go_loop [3, 4] (fun m i => ∃ k : Nat, 1 ≤ k ∧ k ≤ n ∧ i = .int .i64 k ∧ m = .int .i64 (maxN l (k - 1))) (fun _ i => n - (intOf i).toNat)
  case atStart => exact ⟨1, by omega, by omega, rfl, rfl⟩
  case round =>
    obtain ⟨k, hk1, hk, rfl, rfl⟩ := hrel
    by_cases hlt : k < n
    · have c0 := HC.out k hlt
      have hs : maxN l k = if maxN l (k - 1) < l[k]?.getD 0 then l[k]?.getD 0 else maxN l (k - 1) := by
        obtain ⟨j, rfl⟩ : ∃ j, k = j + 1 := ⟨k - 1, by omega⟩
        rfl
      generalize l[k]?.getD 0 = x at c0 hs
      generalize maxN l (k - 1) = m at hs ⊢
      have HS := Lib.hid hs
      clear hs
      have d1 : (k : Int) < n := by omega
      by_cases hc : m < x
      all_goals
        go_wp2
        go_round
        case rel => exact ⟨k + 1, by omega, by omega, by go_num, by rw [Nat.add_sub_cancel, HS.out]; simp [hc]⟩
        case measure => simp [intOf]; omega
    · obtain rfl : k = n := by omega
      go_wp2
      go_ret
      exact ⟨ret_int HR.out.symm, rfl⟩

set_option maxHeartbeats 1000000 in
theorem Index_any (v : Value) (l : List Int) (x : Int) (w : World) (hl : l.length ≤ 1000000000) (hv : Ints w v l) :
    Calls Tryz.prog 108 #[v, .int .i64 x] w fun r w' => r = .returned (.int .i64 (findX (fun y => x == y) l)) ∧ w = w' := by
  rcases Nat.eq_zero_or_pos l.length with h0 | h0
  · obtain rfl : l = [] := List.length_eq_zero_iff.1 h0
    obtain ⟨a, cp, rfl, _, _⟩ := hv
    go_enter Tryz.func108, Tryz.ntmps108
    go_wp2
    go_loop [8] (fun i => i = .int .i64 0) (fun _ => 0)
    case atStart => rfl
    case round =>
      obtain rfl := hrel
      go_wp2
      go_ret
      exact ⟨rfl, rfl⟩
  · obtain ⟨b, off, cp, rfl, hcs⟩ := hv.head h0
    clear hv
    go_enter Tryz.func108, Tryz.ntmps108
    go_wp2
    go_loop [8] (fun i => ∃ k : Nat, k ≤ l.length ∧ i = .int .i64 k ∧ (l.take k).any (fun y => x == y) = false) (fun i => l.length - (intOf i).toNat)
    case atStart => exact ⟨0, by omega, rfl, rfl⟩
    case round =>
      obtain ⟨k, hk, rfl, hf0⟩ := hrel
      have HF := Lib.hid hf0
      clear hf0
      by_cases hlt : k < l.length
      · obtain ⟨y, hy⟩ : ∃ y, l[k]? = some y := ⟨_, List.getElem?_eq_getElem hlt⟩
        have c0 := hcs k hlt
        rw [hy, Option.getD_some] at c0
        have HX := Lib.hid hy
        clear hcs hy
        by_cases hg : x = y
        · subst hg
          have hg' : (x == x) = true := by simp
          have HG := Lib.hid hg'
          clear hg'
          go_wp2
          go_ret
          exact ⟨ret_int (findX_some HX.out HF.out HG.out).symm, rfl⟩
        · have hg' : (x == y) = false := by simpa using hg
          have HG := Lib.hid hg'
          clear hg'
          go_wp2
          go_round
          case rel => exact ⟨k + 1, by omega, by go_num, anyX_take_succ HX.out HF.out HG.out⟩
          case measure => simp [intOf]; omega
      · obtain rfl : k = l.length := by omega
        go_wp2
        go_ret
        exact ⟨ret_int (findX_none (by have := HF.out; rwa [List.take_length] at this)).symm, rfl⟩

def sumG (d p : Int × Int) : Int := wrap64 (wrap64 (p.1 * d.1) + wrap64 (p.2 * d.2))
theorem Tryz.enterExtreme1 (args : Array Value) (w : World) : Sem.run Tryz.prog (callFunc 107 args) w = .ok (.enter 107 args) w :=
  MuLone.run_callFunc_enter Tryz.func107 (by kernel_rfl) rfl args w
set_option maxRecDepth 100000 in
set_option maxHeartbeats 1000000 in
theorem extreme1_any (d p : Int × Int) (B : Nat) (w : World) (hb : Blk w B 98 [.int .i64 d.1, .int .i64 d.2]) :
    Calls Tryz.prog 107 #[.agg #[.int .i64 p.1, .int .i64 p.2], .pointer (some ⟨B, 0, none⟩)] w fun e w' => e = .returned (.int .i64 (sumG d p)) ∧ Below w.heap.size w w' := by
  obtain ⟨r, hr⟩ : ∃ r, r = sumG d p := ⟨_, rfl⟩
  rw [← hr]
  rw [sumG] at hr
  obtain ⟨d0, d1⟩ := d
  obtain ⟨pr, qi⟩ := p
  simp only at hr hb ⊢
  have HR := Lib.hid hr
  clear hr
  have b0 := hb.cell (j := 0) (v := .int .i64 d0) rfl
  have b1 := hb.cell (j := 1) (v := .int .i64 d1) rfl
  clear hb
  go_enter Tryz.func107, Tryz.ntmps107
  go_upto_region 1 with fail
  obtain ⟨W1, hW1⟩ : ∃ v, v = World.alloc w (Obj.cells #[.int .i64 pr, .int .i64 qi] 98) := ⟨_, rfl⟩
  have kW1 : Below w.heap.size w W1 := by rw [hW1]; exact below_new _ _
  have iW1 : Blk W1 (w.heap.size) 98 [.int .i64 pr, .int .i64 qi] := by rw [hW1]; exact Blk.new _ _ _
  have sW1 : W1.heap.size = w.heap.size + 1 := by rw [hW1]; simp
  rw [← hW1]
  clear hW1
  have a0 := iW1.cell (j := 0) (v := .int .i64 pr) rfl
  have a1 := iW1.cell (j := 1) (v := .int .i64 qi) rfl
  have b0 := cellb b0 kW1
  have b1 := cellb b1 kW1
  go_wp2_with fail
  go_ret
  exact ⟨ret_int HR.out.symm, kW1⟩

def extE (l : List (Int × Int)) (d : Int × Int) : Int := firstE [polE l, pointE d, whenE (d.1 == 0 && d.2 == 0) 6]
def extL (l : List (Int × Int)) (d : Int × Int) : Int := findX (fun y => maxW (l.map (sumG d)) == y) (l.map (sumG d))
theorem polE_zero {l : List (Int × Int)} (h : polE l = 0) : 3 ≤ l.length ∧ l.length ≤ 8 := by
  have h1 : polN l = 0 := by
    unfold polE orE at h
    split at h
    · assumption
    · exact h
  unfold polN firstE whenE at h1
  by_cases a : (l.length : Int) < 3
  · simp [a] at h1
  · by_cases b : (8 : Int) < l.length
    · simp [a, b, firstE] at h1
    · omega
theorem firstE_head {a : Int} {l : List Int} (h : firstE (a :: l) = 0) : a = 0 := by
  unfold firstE at h
  by_cases ha : a = 0
  · exact ha
  · simp [ha] at h
set_option maxRecDepth 100000 in
set_option maxHeartbeats 1000000 in
theorem Extreme_any (v : Value) (l : List (Int × Int)) (d : Int × Int) (w : World) (hv : Pairs w v l) (hl : l.length ≤ 1000000) :
    Calls Tryz.prog 47 #[v, .agg #[.int .i64 d.1, .int .i64 d.2]] w fun e w' => e = .returned (.tuple #[.int .i64 (iOr (extE l d) (extL l d)), .int .i64 (extE l d)]) ∧ Below w.heap.size w w' := by
  have HV := Lib.hid hv
  have TP := Lib.hid (fun W h => CheckPolygon_any v l W h hl)
  have TC := Lib.hid (fun W => checkPoint_any d W)
  have TW := Lib.hid (fun W => whenH_any (d.1 == 0 && d.2 == 0) 6 W)
  have heq := fun W => eqGauss d.1 d.2 0 0 W
  have hlen : extE l d = 0 → 3 ≤ l.length := fun h => by
    unfold extE at h
    exact (polE_zero (firstE_head h)).1
  rw [extL]
  rw [extE] at hlen ⊢
  generalize polE l = e1 at TP hlen ⊢
  generalize pointE d = e2 at TC hlen ⊢
  generalize hgb : (d.1 == 0 && d.2 == 0) = bb at TW heq hlen ⊢
  generalize whenE bb 6 = e3 at TW hlen ⊢
  have TF := Lib.hid (fun (u : Value) (W : World) (h : Ints W u [e1, e2, e3]) => firstH_any u [e1, e2, e3] W (by simp [maxLen]) h)
  generalize firstE [e1, e2, e3] = E at TF hlen ⊢
  have HLN := Lib.hid hlen
  obtain ⟨a, cp, rfl, _, _⟩ := id hv
  have TX := Lib.hid (fun (B : Nat) (W : World) (h : Pairs W (.slice a l.length cp) l) (hb : Blk W B 98 [.int .i64 d.1, .int .i64 d.2]) => mappedGI_any 107 #[.pointer (some ⟨B, 0, none⟩)] Tryz.enterExtreme1 (sumG d) _ l W (by omega) h (fun p _ w1 hb1 => extreme1_any d p B w1 (hb.carry hb1)))
  obtain ⟨R, hR⟩ : ∃ R, R = findX (fun y => maxW (l.map (sumG d)) == y) (l.map (sumG d)) := ⟨_, rfl⟩
  rw [← hR]
  have HR := Lib.hid hR
  have hml : (l.map (sumG d)).length = l.length := List.length_map _
  have HML := Lib.hid hml
  obtain ⟨d0, d1⟩ := d
  simp only at TC TX heq hgb ⊢
  clear hv hgb hlen hR hml
  go_enter Tryz.func47, Tryz.ntmps47
  go_upto_region 1 with fail
  obtain ⟨W1, hW1⟩ : ∃ v, v = World.alloc w (Obj.cells #[.int .i64 d0, .int .i64 d1] 98) := ⟨_, rfl⟩
  have kW1 : Below w.heap.size w W1 := by rw [hW1]; exact below_new _ _
  have iW1 : Blk W1 (w.heap.size) 98 [.int .i64 d0, .int .i64 d1] := by rw [hW1]; exact Blk.new _ _ _
  have sW1 : W1.heap.size = w.heap.size + 1 := by rw [hW1]; simp
  rw [← hW1]
  clear hW1
  have b0 := iW1.cell (j := 0) (v := .int .i64 d0) rfl
  have b1 := iW1.cell (j := 1) (v := .int .i64 d1) rfl
  have hB := kW1
  have i1 := iW1
  have hP := HV.out.carry kW1
  clear iW1 kW1 sW1
  refine wp_region_E 10 (by kernel_rfl) ?_
  obtain ⟨wz, hwz⟩ : ∃ v, v = W1.drew := ⟨_, rfl⟩
  rw [← hwz]
  have hlz : Below W1.heap.size W1 wz := by rw [hwz]; exact (Below.refl _ _).drew
  have hbz := bthen hB hlz
  have b0 := cellb b0 hlz
  have b1 := cellb b1 hlz
  have hP := hP.carry hlz
  have i1 := i1.carry hlz
  clear hwz hlz
  refine wpAnyE_take (i := 0) (oi := { dst := some 8, op := Op.move (Operand.tmp 0), type := 48, pos := "filter.go:170", after := #[], guard := none }) (v := ?_) rfl (by kernel_rfl) (by kernel_rfl) (by kernel_rfl) (by kernel_rfl) (fun _ _ _ h => h) (Or.inl ⟨by rfl, ?_⟩) ?_
  rotate_left
  · (intro w hE; have b0 := cellb b0 hE; have b1 := cellb b1 hE; (try dsimp only); go_simp); (try with_reducible rfl)
  try simp only [Act.put, List.setIfInBounds_toArray, List.set_cons_zero, List.set_cons_succ]
  refine wpAnyE_take (i := 2) (oi := { dst := some 10, op := Op.load 98 (Operand.tmp 3), type := 98, pos := "filter.go:170", after := #[], guard := none }) (v := ?_) rfl (by kernel_rfl) (by kernel_rfl) (by kernel_rfl) (by kernel_rfl) (fun _ _ _ h => h) (Or.inl ⟨by rfl, ?_⟩) ?_
  rotate_left
  · (intro w hE; have b0 := cellb b0 hE; have b1 := cellb b1 hE; (try dsimp only); go_simp); (try with_reducible rfl)
  try simp only [Act.put, List.setIfInBounds_toArray, List.set_cons_zero, List.set_cons_succ]
  refine wpAnyE_take (i := 4) (oi := { dst := some 12, op := Op.load 98 (Operand.tmp 3), type := 98, pos := "filter.go:170", after := #[], guard := none }) (v := ?_) rfl (by kernel_rfl) (by kernel_rfl) (by kernel_rfl) (by kernel_rfl) (fun _ _ _ h => h) (Or.inl ⟨by rfl, ?_⟩) ?_
  rotate_left
  · (intro w hE; have b0 := cellb b0 hE; have b1 := cellb b1 hE; (try dsimp only); go_simp); (try with_reducible rfl)
  try simp only [Act.put, List.setIfInBounds_toArray, List.set_cons_zero, List.set_cons_succ]
  refine wpAnyE_take (i := 5) (oi := { dst := some 13, op := Op.build 98 #[], type := 98, pos := "filter.go:170", after := #[], guard := none }) (v := ?_) rfl (by kernel_rfl) (by kernel_rfl) (by kernel_rfl) (by kernel_rfl) (fun _ _ _ h => h) (Or.inl ⟨by rfl, ?_⟩) ?_
  rotate_left
  · (intro w hE; have b0 := cellb b0 hE; have b1 := cellb b1 hE; (try dsimp only); go_simp); (try with_reducible rfl)
  try simp only [Act.put, List.setIfInBounds_toArray, List.set_cons_zero, List.set_cons_succ]
  refine wpAnyE_take (i := 6) (oi := { dst := some 14, op := Op.binOp BinOp.eql 98 (Operand.tmp 12) (Operand.tmp 13) 98, type := 4, pos := "filter.go:170", after := #[{ on := 4, ground := Ground.data }, { on := 5, ground := Ground.data }], guard := none }) (v := ?_) rfl (by kernel_rfl) (by kernel_rfl) (by kernel_rfl) (by kernel_rfl) (fun _ _ _ h => h) (Or.inl ⟨by rfl, ?_⟩) ?_
  rotate_left
  · (intro w hE; have b0 := cellb b0 hE; have b1 := cellb b1 hE; (try dsimp only); go_simp); (try with_reducible rfl)
  try simp only [Act.put, List.setIfInBounds_toArray, List.set_cons_zero, List.set_cons_succ]
  refine wpAnyE_call (i := 1) (oi := { dst := some 9, op := Op.call { callee := Callee.value (Operand.func 87), args := #[Operand.tmp 8], argTypes := #[48] }, type := 28, pos := "filter.go:170", after := #[{ on := 0, ground := Ground.data }], guard := none }) (fun w hE => TP.out w (hP.carry hE)) rfl (by kernel_rfl) (by kernel_rfl) (by kernel_rfl) (by kernel_rfl) (fun _ _ _ h => h) (by rfl) (fun w hE => by (try dsimp only); go_simp) ?_
  try simp only [Act.put, List.setIfInBounds_toArray, List.set_cons_zero, List.set_cons_succ]
  refine wpAnyE_call (i := 3) (oi := { dst := some 11, op := Op.call { callee := Callee.value (Operand.func 104), args := #[Operand.tmp 10], argTypes := #[98] }, type := 28, pos := "filter.go:170", after := #[{ on := 2, ground := Ground.data }, { on := 1, ground := Ground.chain }], guard := none }) (fun w hE => TC.out w) rfl (by kernel_rfl) (by kernel_rfl) (by kernel_rfl) (by kernel_rfl) (fun _ _ _ h => h) (by rfl) (fun w hE => by (try dsimp only); go_simp) ?_
  try simp only [Act.put, List.setIfInBounds_toArray, List.set_cons_zero, List.set_cons_succ]
  refine wpAnyE_call (i := 7) (oi := { dst := some 15, op := Op.call { callee := Callee.value (Operand.func 85), args := #[Operand.tmp 14, Operand.const (Value.int IntKind.i64 6)], argTypes := #[4, 28] }, type := 28, pos := "filter.go:170", after := #[{ on := 6, ground := Ground.data }, { on := 3, ground := Ground.chain }], guard := none }) (fun w hE => ofPure (TW.out w)) rfl (by kernel_rfl) (by kernel_rfl) (by kernel_rfl) (by kernel_rfl) (fun _ _ _ h => h) (by rfl) (fun w hE => by (try dsimp only); go_simp) ?_
  try simp only [Act.put, List.setIfInBounds_toArray, List.set_cons_zero, List.set_cons_succ]
  refine wpAnyE_one (i := 8) (o := { dst := some 16, op := Op.buildSlice 175 3 #[(0, Operand.tmp 9), (1, Operand.tmp 11), (2, Operand.tmp 15)], type := 175, pos := "filter.go:170", after := #[{ on := 1, ground := Ground.data }, { on := 3, ground := Ground.data }, { on := 7, ground := Ground.data }], guard := none }) (by kernel_rfl) rfl (fun wy1 hE K hK => ?_)
  have b0 := cellb b0 hE
  have b1 := cellb b1 hE
  have hP := hP.carry hE
  have i1 := i1.carry hE
  have hbz1 := bthen hbz hE
  clear hE
  go_simp
  obtain ⟨wx1, hwz⟩ : ∃ v, v = wy1.alloc (Obj.cells #[.int .i64 e1, .int .i64 e2, .int .i64 e3] 28) := ⟨_, rfl⟩
  rw [← hwz]
  have hl : Below wy1.heap.size wy1 wx1 := by rw [hwz]; exact below_new _ _
  have hcz1 := bthen hbz1 hl
  have iN : BlkI wx1 wy1.heap.size 28 [e1, e2, e3] := by rw [hwz]; exact Blk.new _ _ _
  generalize wy1.heap.size = G at iN ⊢
  have b0 := cellb b0 hl
  have b1 := cellb b1 hl
  have hP := hP.carry hl
  have i1 := i1.carry hl
  clear hwz
  refine hK _ _ (fun _ => hl) ?_
  clear hK K hl
  try simp only [Act.put, List.setIfInBounds_toArray, List.set_cons_zero, List.set_cons_succ]
  refine wpAnyE_call (i := 9) (oi := { dst := some 17, op := Op.call { callee := Callee.value (Operand.func 65), args := #[Operand.tmp 16], argTypes := #[175] }, type := 28, pos := "filter.go:170", after := #[{ on := 8, ground := Ground.data }, { on := 7, ground := Ground.chain }], guard := none }) (fun w hE => ofPure (TF.out _ w ((BlkI.ints iN rfl).carry hE))) rfl (by kernel_rfl) (by kernel_rfl) (by kernel_rfl) (by kernel_rfl) (fun _ _ _ h => h) (by rfl) (fun w hE => by (try dsimp only); go_simp) ?_
  try simp only [Act.put, List.setIfInBounds_toArray, List.set_cons_zero, List.set_cons_succ]
  refine wpAnyE_one (i := 10) (o := { dst := some 6, op := Op.assign (Operand.tmp 17), type := 28, pos := "filter.go:170", after := #[{ on := 9, ground := Ground.data }, { on := 9, ground := Ground.chain }, { on := 0, ground := Ground.phase }, { on := 1, ground := Ground.phase }, { on := 2, ground := Ground.phase }, { on := 3, ground := Ground.phase }, { on := 4, ground := Ground.phase }, { on := 5, ground := Ground.phase }, { on := 6, ground := Ground.phase }, { on := 7, ground := Ground.phase }, { on := 8, ground := Ground.phase }, { on := 9, ground := Ground.phase }], guard := none }) (by kernel_rfl) rfl (fun wy2 hE K hK => ?_)
  have b0 := cellb b0 hE
  have b1 := cellb b1 hE
  have hP := hP.carry hE
  have i1 := i1.carry hE
  have hbz2 := bthen hcz1 hE
  go_simp
  refine hK _ _ (fun _ => Below.refl _ _) ?_
  clear hK K hE
  try simp only [Act.put, List.setIfInBounds_toArray, List.set_cons_zero, List.set_cons_succ]
  refine wpAnyE_done (by kernel_rfl) (fun wy3 hE => ?_) _
  have hbz3 := bthen hbz2 hE
  have b0 := cellb b0 hE
  have b1 := cellb b1 hE
  have hP := hP.carry hE
  have i1 := i1.carry hE
  clear hE
  have hB := hbz3
  obtain ⟨W5, hW5⟩ : ∃ v, v = wy3 := ⟨_, rfl⟩
  rw [← hW5] at hB b0 b1 hP i1 ⊢
  clear hW5
  by_cases he : E = 0
  · subst he
    have hn3 := HLN.out rfl
    have TM := Lib.hid (TX.out w.heap.size W5 hP i1)
    clear TX hP b0 b1 i1
    go_wp2_with fail
    refine TM.out.mono ?_
    rintro e w6 ⟨⟨u, rfl, hu⟩, hb⟩
    replace hB := bthen hB hb
    clear hb TM
    have TMX := Lib.hid (Max_any u _ w6 hu (by have := HML.out; omega) (by have := HML.out; omega))
    have TIX := Lib.hid (Index_any u _ (maxW (l.map (sumG (d0, d1)))) w6 (by have := HML.out; omega) hu)
    clear hu
    go_wp2_with fail
    refine TMX.out.mono ?_
    rintro e w' ⟨rfl, rfl⟩
    go_wp2_with fail
    refine TIX.out.mono ?_
    rintro e w' ⟨rfl, rfl⟩
    go_wp2_with fail
    go_ret2
    exact ⟨by rw [iOr, if_pos rfl, HR.out]; rfl, hB⟩
  · have z : (E == 0) = false := by rw [beq_eq_false_iff_ne]; exact he
    have HNE := Lib.hid he
    go_wp2_with fail
    go_ret2
    exact ⟨by rw [iOr, if_neg HNE.out]; rfl, hB⟩
end Go.Proofs.YtlohcnecehlljaaGreatDoor

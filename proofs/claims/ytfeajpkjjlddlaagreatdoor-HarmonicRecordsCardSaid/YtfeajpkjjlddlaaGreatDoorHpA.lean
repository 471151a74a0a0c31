/- The package harmonic: the extreme corner of a polygon; the greatest number of a list and its place. -/
import Derived.Test.YtfeajpkjjlddlaaGreatDoorHarZ
namespace Go.Proofs.YtfeajpkjjlddlaaGreatDoor
section
set_option linter.unusedSimpArgs false
set_option linter.unusedVariables false
open Go.RowKit

def maxN (l : List Int) : Nat → Int
  | 0 => l[0]?.getD 0
  | k + 1 => if maxN l k < l[k + 1]?.getD 0 then l[k + 1]?.getD 0 else maxN l k
def maxW (l : List Int) : Int := maxN l (l.length - 1)
def pickI (b : Bool) (x y : Int) : Int := bif b then x else y
set_option maxHeartbeats 1000000 in
theorem Max_any (v : Value) (l : List Int) (w : World) (hv : Ints w v l) (hl : l.length ≤ 1000000) (h0 : 0 < l.length) :
    Calls Tryz.prog 92 #[v] w fun e w' => e = .returned (.int .i64 (maxW l)) ∧ w = w' := by
  obtain ⟨n, hn⟩ : ∃ n, n = l.length := ⟨_, rfl⟩
  obtain ⟨b, off, cp, rfl, hcs⟩ := hv.head h0
  have c0 := hcs 0 h0
  rw [Nat.add_zero] at c0
  have hm0 : l[0]?.getD 0 = maxN l 0 := rfl
  rw [hm0] at c0
  have HR := Lib.hid (show maxW l = maxN l (n - 1) by rw [hn]; rfl)
  rw [← hn] at hcs h0 hl ⊢
  generalize maxW l = R at HR ⊢
  have HC := Lib.hid hcs
  have a1 : ¬ ((n : Int) < 1) := by omega
  have a2 : (0 : Int) < (n : Int) := by omega
  clear hcs hv hn hm0
  go_enter Tryz.func92, Tryz.ntmps92
  go_wp2_with fail
  clear c0
  go_loop [3, 4] (fun m i => ∃ k : Nat, 1 ≤ k ∧ k ≤ n ∧ i = .int .i64 k ∧ m = .int .i64 (maxN l (k - 1))) (fun _ i => n - (intOf i).toNat)
  case atStart => exact ⟨1, by omega, by omega, rfl, rfl⟩
  case round =>
    obtain ⟨k, hk1, hk, rfl, rfl⟩ := hrel
    by_cases hlt : k < n
    · have c0 := HC.out k hlt
      have hs : maxN l k = if maxN l (k - 1) < l[k]?.getD 0 then l[k]?.getD 0 else maxN l (k - 1) := by
        obtain ⟨j, rfl⟩ : ∃ j, k = j + 1 := ⟨k - 1, by omega⟩
        rfl
      generalize l[k]?.getD 0 = x at c0 hs
      generalize maxN l (k - 1) = m at hs ⊢
      have HS := Lib.hid hs
      clear hs
      have d1 : (k : Int) < n := by omega
      by_cases hc : m < x
      all_goals
        go_wp2
        go_round
        case rel => exact ⟨k + 1, by omega, by omega, by go_num, by rw [Nat.add_sub_cancel, HS.out]; simp [hc]⟩
        case measure => simp [intOf]; omega
    · obtain rfl : k = n := by omega
      go_wp2
      go_ret
      exact ⟨ret_int HR.out.symm, rfl⟩

set_option maxHeartbeats 1000000 in
theorem Index_any (v : Value) (l : List Int) (x : Int) (w : World) (hl : l.length ≤ 1000000000) (hv : Ints w v l) :
    Calls Tryz.prog 91 #[v, .int .i64 x] w fun r w' => r = .returned (.int .i64 (findX (fun y => x == y) l)) ∧ w = w' := by
  rcases Nat.eq_zero_or_pos l.length with h0 | h0
  · obtain rfl : l = [] := List.length_eq_zero_iff.1 h0
    obtain ⟨a, cp, rfl, _, _⟩ := hv
    go_enter Tryz.func91, Tryz.ntmps91
    go_wp2
    go_loop [8] (fun i => i = .int .i64 0) (fun _ => 0)
    case atStart => rfl
    case round =>
      obtain rfl := hrel
      go_wp2
      go_ret
      exact ⟨rfl, rfl⟩
  · obtain ⟨b, off, cp, rfl, hcs⟩ := hv.head h0
    clear hv
    go_enter Tryz.func91, Tryz.ntmps91
    go_wp2
    go_loop [8] (fun i => ∃ k : Nat, k ≤ l.length ∧ i = .int .i64 k ∧ (l.take k).any (fun y => x == y) = false) (fun i => l.length - (intOf i).toNat)
    case atStart => exact ⟨0, by omega, rfl, rfl⟩
    case round =>
      obtain ⟨k, hk, rfl, hf0⟩ := hrel
      have HF := Lib.hid hf0
      clear hf0
      by_cases hlt : k < l.length
      · obtain ⟨y, hy⟩ : ∃ y, l[k]? = some y := ⟨_, List.getElem?_eq_getElem hlt⟩
        have c0 := hcs k hlt
        rw [hy, Option.getD_some] at c0
        have HX := Lib.hid hy
        clear hcs hy
        by_cases hg : x = y
        · subst hg
          have hg' : (x == x) = true := by simp
          have HG := Lib.hid hg'
          clear hg'
          go_wp2
          go_ret
          exact ⟨ret_int (findX_some HX.out HF.out HG.out).symm, rfl⟩
        · have hg' : (x == y) = false := by simpa using hg
          have HG := Lib.hid hg'
          clear hg'
          go_wp2
          go_round
          case rel => exact ⟨k + 1, by omega, by go_num, anyX_take_succ HX.out HF.out HG.out⟩
          case measure => simp [intOf]; omega
      · obtain rfl : k = l.length := by omega
        go_wp2
        go_ret
        exact ⟨ret_int (findX_none (by have := HF.out; rwa [List.take_length] at this)).symm, rfl⟩

def sumG (d p : Int × Int) : Int := wrap64 (wrap64 (p.1 * d.1) + wrap64 (p.2 * d.2))
theorem Tryz.enterExtreme1 (args : Array Value) (w : World) : Sem.run Tryz.prog (callFunc 90 args) w = .ok (.enter 90 args) w :=
  MuLone.run_callFunc_enter Tryz.func90 (by kernel_rfl) rfl args w
set_option maxRecDepth 100000 in
set_option maxHeartbeats 1000000 in
theorem extreme1_any (d p : Int × Int) (B : Nat) (w : World) (hb : Blk w B 86 [.int .i64 d.1, .int .i64 d.2]) :
    Calls Tryz.prog 90 #[.agg #[.int .i64 p.1, .int .i64 p.2], .pointer (some ⟨B, 0, none⟩)] w fun e w' => e = .returned (.int .i64 (sumG d p)) ∧ Below w.heap.size w w' := by
  obtain ⟨r, hr⟩ : ∃ r, r = sumG d p := ⟨_, rfl⟩
  rw [← hr]
  rw [sumG] at hr
  obtain ⟨d0, d1⟩ := d
  obtain ⟨pr, qi⟩ := p
  simp only at hr hb ⊢
  have HR := Lib.hid hr
  clear hr
  have b0 := hb.cell (j := 0) (v := .int .i64 d0) rfl
  have b1 := hb.cell (j := 1) (v := .int .i64 d1) rfl
  clear hb
  go_enter Tryz.func90, Tryz.ntmps90
  go_upto_region 1 with fail
  obtain ⟨W1, hW1⟩ : ∃ v, v = World.alloc w (Obj.cells #[.int .i64 pr, .int .i64 qi] 86) := ⟨_, rfl⟩
  have kW1 : Below w.heap.size w W1 := by rw [hW1]; exact below_new _ _
  have iW1 : Blk W1 (w.heap.size) 86 [.int .i64 pr, .int .i64 qi] := by rw [hW1]; exact Blk.new _ _ _
  have sW1 : W1.heap.size = w.heap.size + 1 := by rw [hW1]; simp
  rw [← hW1]
  clear hW1
  have a0 := iW1.cell (j := 0) (v := .int .i64 pr) rfl
  have a1 := iW1.cell (j := 1) (v := .int .i64 qi) rfl
  have b0 := cellb b0 kW1
  have b1 := cellb b1 kW1
  go_wp2_with fail
  go_ret
  exact ⟨ret_int HR.out.symm, kW1⟩

def extE (l : List (Int × Int)) (d : Int × Int) : Int := firstE [polE l, pointE d, whenE (d.1 == 0 && d.2 == 0) 6]
def extL (l : List (Int × Int)) (d : Int × Int) : Int := findX (fun y => maxW (l.map (sumG d)) == y) (l.map (sumG d))
theorem polE_zero {l : List (Int × Int)} (h : polE l = 0) : 3 ≤ l.length ∧ l.length ≤ 8 := by
  have h1 : polN l = 0 := by
    unfold polE orE at h
    split at h
    · assumption
    · exact h
  unfold polN firstE whenE at h1
  by_cases a : (l.length : Int) < 3
  · simp [a] at h1
  · by_cases b : (8 : Int) < l.length
    · simp [a, b, firstE] at h1
    · omega
theorem firstE_head {a : Int} {l : List Int} (h : firstE (a :: l) = 0) : a = 0 := by
  unfold firstE at h
  by_cases ha : a = 0
  · exact ha
  · simp [ha] at h
set_option maxRecDepth 100000 in
set_option maxHeartbeats 1000000 in
theorem Extreme_any (v : Value) (l : List (Int × Int)) (d : Int × Int) (w : World) (hv : Pairs w v l) (hl : l.length ≤ 1000000) :
    Calls Tryz.prog 35 #[v, .agg #[.int .i64 d.1, .int .i64 d.2]] w fun e w' => e = .returned (.tuple #[.int .i64 (iOr (extE l d) (extL l d)), .int .i64 (extE l d)]) ∧ Below w.heap.size w w' := by
  have HV := Lib.hid hv
  have TP := Lib.hid (fun W h => CheckPolygon_any v l W h hl)
  have TC := Lib.hid (fun W => checkPoint_any d W)
  have TW := Lib.hid (fun W => whenH_any (d.1 == 0 && d.2 == 0) 6 W)
  have heq := fun W => eqGauss d.1 d.2 0 0 W
  have hlen : extE l d = 0 → 3 ≤ l.length := fun h => by
    unfold extE at h
    exact (polE_zero (firstE_head h)).1
  rw [extL]
  rw [extE] at hlen ⊢
  generalize polE l = e1 at TP hlen ⊢
  generalize pointE d = e2 at TC hlen ⊢
  generalize hgb : (d.1 == 0 && d.2 == 0) = bb at TW heq hlen ⊢
  generalize whenE bb 6 = e3 at TW hlen ⊢
  have TF := Lib.hid (fun (u : Value) (W : World) (h : Ints W u [e1, e2, e3]) => firstH_any u [e1, e2, e3] W (by simp [maxLen]) h)
  generalize firstE [e1, e2, e3] = E at TF hlen ⊢
  have HLN := Lib.hid hlen
  obtain ⟨a, cp, rfl, _, _⟩ := id hv
  have TX := Lib.hid (fun (B : Nat) (W : World) (h : Pairs W (.slice a l.length cp) l) (hb : Blk W B 86 [.int .i64 d.1, .int .i64 d.2]) => mappedGI_any 90 #[.pointer (some ⟨B, 0, none⟩)] Tryz.enterExtreme1 (sumG d) _ l W (by omega) h (fun p _ w1 hb1 => extreme1_any d p B w1 (hb.carry hb1)))
  obtain ⟨R, hR⟩ : ∃ R, R = findX (fun y => maxW (l.map (sumG d)) == y) (l.map (sumG d)) := ⟨_, rfl⟩
  rw [← hR]
  have HR := Lib.hid hR
  have hml : (l.map (sumG d)).length = l.length := List.length_map _
  have HML := Lib.hid hml
  obtain ⟨d0, d1⟩ := d
  simp only at TC TX heq hgb ⊢
  clear hv hgb hlen hR hml
  go_enter Tryz.func35, Tryz.ntmps35
  go_upto_region 1 with fail
  obtain ⟨W1, hW1⟩ : ∃ v, v = World.alloc w (Obj.cells #[.int .i64 d0, .int .i64 d1] 86) := ⟨_, rfl⟩
  have kW1 : Below w.heap.size w W1 := by rw [hW1]; exact below_new _ _
  have iW1 : Blk W1 (w.heap.size) 86 [.int .i64 d0, .int .i64 d1] := by rw [hW1]; exact Blk.new _ _ _
  have sW1 : W1.heap.size = w.heap.size + 1 := by rw [hW1]; simp
  rw [← hW1]
  clear hW1
  have b0 := iW1.cell (j := 0) (v := .int .i64 d0) rfl
  have b1 := iW1.cell (j := 1) (v := .int .i64 d1) rfl
  have hB := kW1
  have i1 := iW1
  have hP := HV.out.carry kW1
  clear iW1 kW1 sW1
  refine wp_region_E 10 (by kernel_rfl) ?_
  obtain ⟨wz, hwz⟩ : ∃ v, v = W1.drew := ⟨_, rfl⟩
  rw [← hwz]
  have hlz : Below W1.heap.size W1 wz := by rw [hwz]; exact (Below.refl _ _).drew
  have hbz := bthen hB hlz
  have b0 := cellb b0 hlz
  have b1 := cellb b1 hlz
  have hP := hP.carry hlz
  have i1 := i1.carry hlz
  clear hwz hlz
  refine wpAnyE_take (i := 0) (oi := { dst := some 8, op := Op.move (Operand.tmp 0), type := 80, pos := "filter.go:170", after := #[], guard := none }) (v := ?_) rfl (by kernel_rfl) (by kernel_rfl) (by kernel_rfl) (by kernel_rfl) (fun _ _ _ h => h) (Or.inl ⟨by rfl, ?_⟩) ?_
  rotate_left
  · (intro w hE; have b0 := cellb b0 hE; have b1 := cellb b1 hE; (try dsimp only); go_simp); (try with_reducible rfl)
  try simp only [Act.put, List.setIfInBounds_toArray, List.set_cons_zero, List.set_cons_succ]
  refine wpAnyE_take (i := 2) (oi := { dst := some 10, op := Op.load 86 (Operand.tmp 3), type := 86, pos := "filter.go:170", after := #[], guard := none }) (v := ?_) rfl (by kernel_rfl) (by kernel_rfl) (by kernel_rfl) (by kernel_rfl) (fun _ _ _ h => h) (Or.inl ⟨by rfl, ?_⟩) ?_
  rotate_left
  · (intro w hE; have b0 := cellb b0 hE; have b1 := cellb b1 hE; (try dsimp only); go_simp); (try with_reducible rfl)
  try simp only [Act.put, List.setIfInBounds_toArray, List.set_cons_zero, List.set_cons_succ]
  refine wpAnyE_take (i := 4) (oi := { dst := some 12, op := Op.load 86 (Operand.tmp 3), type := 86, pos := "filter.go:170", after := #[], guard := none }) (v := ?_) rfl (by kernel_rfl) (by kernel_rfl) (by kernel_rfl) (by kernel_rfl) (fun _ _ _ h => h) (Or.inl ⟨by rfl, ?_⟩) ?_
  rotate_left
  · (intro w hE; have b0 := cellb b0 hE; have b1 := cellb b1 hE; (try dsimp only); go_simp); (try with_reducible rfl)
  try simp only [Act.put, List.setIfInBounds_toArray, List.set_cons_zero, List.set_cons_succ]
  refine wpAnyE_take (i := 5) (oi := { dst := some 13, op := Op.build 86 #[], type := 86, pos := "filter.go:170", after := #[], guard := none }) (v := ?_) rfl (by kernel_rfl) (by kernel_rfl) (by kernel_rfl) (by kernel_rfl) (fun _ _ _ h => h) (Or.inl ⟨by rfl, ?_⟩) ?_
  rotate_left
  · (intro w hE; have b0 := cellb b0 hE; have b1 := cellb b1 hE; (try dsimp only); go_simp); (try with_reducible rfl)
  try simp only [Act.put, List.setIfInBounds_toArray, List.set_cons_zero, List.set_cons_succ]
  refine wpAnyE_take (i := 6) (oi := { dst := some 14, op := Op.binOp BinOp.eql 86 (Operand.tmp 12) (Operand.tmp 13) 86, type := 4, pos := "filter.go:170", after := #[{ on := 4, ground := Ground.data }, { on := 5, ground := Ground.data }], guard := none }) (v := ?_) rfl (by kernel_rfl) (by kernel_rfl) (by kernel_rfl) (by kernel_rfl) (fun _ _ _ h => h) (Or.inl ⟨by rfl, ?_⟩) ?_
  rotate_left
  · (intro w hE; have b0 := cellb b0 hE; have b1 := cellb b1 hE; (try dsimp only); go_simp); (try with_reducible rfl)
  try simp only [Act.put, List.setIfInBounds_toArray, List.set_cons_zero, List.set_cons_succ]
  refine wpAnyE_call (i := 1) (oi := { dst := some 9, op := Op.call { callee := Callee.value (Operand.func 81), args := #[Operand.tmp 8], argTypes := #[80] }, type := 31, pos := "filter.go:170", after := #[{ on := 0, ground := Ground.data }], guard := none }) (fun w hE => TP.out w (hP.carry hE)) rfl (by kernel_rfl) (by kernel_rfl) (by kernel_rfl) (by kernel_rfl) (fun _ _ _ h => h) (by rfl) (fun w hE => by (try dsimp only); go_simp) ?_
  try simp only [Act.put, List.setIfInBounds_toArray, List.set_cons_zero, List.set_cons_succ]
  refine wpAnyE_call (i := 3) (oi := { dst := some 11, op := Op.call { callee := Callee.value (Operand.func 88), args := #[Operand.tmp 10], argTypes := #[86] }, type := 31, pos := "filter.go:170", after := #[{ on := 2, ground := Ground.data }, { on := 1, ground := Ground.chain }], guard := none }) (fun w hE => TC.out w) rfl (by kernel_rfl) (by kernel_rfl) (by kernel_rfl) (by kernel_rfl) (fun _ _ _ h => h) (by rfl) (fun w hE => by (try dsimp only); go_simp) ?_
  try simp only [Act.put, List.setIfInBounds_toArray, List.set_cons_zero, List.set_cons_succ]
  refine wpAnyE_call (i := 7) (oi := { dst := some 15, op := Op.call { callee := Callee.value (Operand.func 43), args := #[Operand.tmp 14, Operand.const (Value.int IntKind.i64 6)], argTypes := #[4, 31] }, type := 31, pos := "filter.go:170", after := #[{ on := 6, ground := Ground.data }, { on := 3, ground := Ground.chain }], guard := none }) (fun w hE => ofPure (TW.out w)) rfl (by kernel_rfl) (by kernel_rfl) (by kernel_rfl) (by kernel_rfl) (fun _ _ _ h => h) (by rfl) (fun w hE => by (try dsimp only); go_simp) ?_
  try simp only [Act.put, List.setIfInBounds_toArray, List.set_cons_zero, List.set_cons_succ]
  refine wpAnyE_one (i := 8) (o := { dst := some 16, op := Op.buildSlice 90 3 #[(0, Operand.tmp 9), (1, Operand.tmp 11), (2, Operand.tmp 15)], type := 90, pos := "filter.go:170", after := #[{ on := 1, ground := Ground.data }, { on := 3, ground := Ground.data }, { on := 7, ground := Ground.data }], guard := none }) (by kernel_rfl) rfl (fun wy1 hE K hK => ?_)
  have b0 := cellb b0 hE
  have b1 := cellb b1 hE
  have hP := hP.carry hE
  have i1 := i1.carry hE
  have hbz1 := bthen hbz hE
  clear hE
  go_simp
  obtain ⟨wx1, hwz⟩ : ∃ v, v = wy1.alloc (Obj.cells #[.int .i64 e1, .int .i64 e2, .int .i64 e3] 31) := ⟨_, rfl⟩
  rw [← hwz]
  have hl : Below wy1.heap.size wy1 wx1 := by rw [hwz]; exact below_new _ _
  have hcz1 := bthen hbz1 hl
  have iN : BlkI wx1 wy1.heap.size 31 [e1, e2, e3] := by rw [hwz]; exact Blk.new _ _ _
  generalize wy1.heap.size = G at iN ⊢
  have b0 := cellb b0 hl
  have b1 := cellb b1 hl
  have hP := hP.carry hl
  have i1 := i1.carry hl
  clear hwz
  refine hK _ _ (fun _ => hl) ?_
  clear hK K hl
  try simp only [Act.put, List.setIfInBounds_toArray, List.set_cons_zero, List.set_cons_succ]
  refine wpAnyE_call (i := 9) (oi := { dst := some 17, op := Op.call { callee := Callee.value (Operand.func 37), args := #[Operand.tmp 16], argTypes := #[90] }, type := 31, pos := "filter.go:170", after := #[{ on := 8, ground := Ground.data }, { on := 7, ground := Ground.chain }], guard := none }) (fun w hE => ofPure (TF.out _ w ((BlkI.ints iN rfl).carry hE))) rfl (by kernel_rfl) (by kernel_rfl) (by kernel_rfl) (by kernel_rfl) (fun _ _ _ h => h) (by rfl) (fun w hE => by (try dsimp only); go_simp) ?_
  try simp only [Act.put, List.setIfInBounds_toArray, List.set_cons_zero, List.set_cons_succ]
  refine wpAnyE_one (i := 10) (o := { dst := some 6, op := Op.assign (Operand.tmp 17), type := 31, pos := "filter.go:170", after := #[{ on := 9, ground := Ground.data }, { on := 9, ground := Ground.chain }, { on := 0, ground := Ground.phase }, { on := 1, ground := Ground.phase }, { on := 2, ground := Ground.phase }, { on := 3, ground := Ground.phase }, { on := 4, ground := Ground.phase }, { on := 5, ground := Ground.phase }, { on := 6, ground := Ground.phase }, { on := 7, ground := Ground.phase }, { on := 8, ground := Ground.phase }, { on := 9, ground := Ground.phase }], guard := none }) (by kernel_rfl) rfl (fun wy2 hE K hK => ?_)
  have b0 := cellb b0 hE
  have b1 := cellb b1 hE
  have hP := hP.carry hE
  have i1 := i1.carry hE
  have hbz2 := bthen hcz1 hE
  go_simp
  refine hK _ _ (fun _ => Below.refl _ _) ?_
  clear hK K hE
  try simp only [Act.put, List.setIfInBounds_toArray, List.set_cons_zero, List.set_cons_succ]
  refine wpAnyE_done (by kernel_rfl) (fun wy3 hE => ?_) _
  have hbz3 := bthen hbz2 hE
  have b0 := cellb b0 hE
  have b1 := cellb b1 hE
  have hP := hP.carry hE
  have i1 := i1.carry hE
  clear hE
  have hB := hbz3
  obtain ⟨W5, hW5⟩ : ∃ v, v = wy3 := ⟨_, rfl⟩
  rw [← hW5] at hB b0 b1 hP i1 ⊢
  clear hW5
  by_cases he : E = 0
  · subst he
    have hn3 := HLN.out rfl
    have TM := Lib.hid (TX.out w.heap.size W5 hP i1)
    clear TX hP b0 b1 i1
    go_wp2_with fail
    refine TM.out.mono ?_
    rintro e w6 ⟨⟨u, rfl, hu⟩, hb⟩
    replace hB := bthen hB hb
    clear hb TM
    have TMX := Lib.hid (Max_any u _ w6 hu (by have := HML.out; omega) (by have := HML.out; omega))
    have TIX := Lib.hid (Index_any u _ (maxW (l.map (sumG (d0, d1)))) w6 (by have := HML.out; omega) hu)
    clear hu
    go_wp2_with fail
    refine TMX.out.mono ?_
    rintro e w' ⟨rfl, rfl⟩
    go_wp2_with fail
    refine TIX.out.mono ?_
    rintro e w' ⟨rfl, rfl⟩
    go_wp2_with fail
    go_ret2
    exact ⟨by rw [iOr, if_pos rfl, HR.out]; rfl, hB⟩
  · have z : (E == 0) = false := by rw [beq_eq_false_iff_ne]; exact he
    have HNE := Lib.hid he
    go_wp2_with fail
    go_ret2
    exact ⟨by rw [iOr, if_neg HNE.out]; rfl, hB⟩
end

section
set_option linter.unusedSimpArgs false
set_option linter.unusedVariables false
open Go.RowKit

theorem mulBd {x y A B : Int} (hx : -A ≤ x ∧ x ≤ A) (hy : -B ≤ y ∧ y ≤ B) : -(A * B) ≤ x * y ∧ x * y ≤ A * B := by
  have h1 : x.natAbs ≤ A.toNat := by omega
  have h2 : y.natAbs ≤ B.toNat := by omega
  have h3 : (x * y).natAbs ≤ A.toNat * B.toNat := by rw [Int.natAbs_mul]; exact Nat.mul_le_mul h1 h2
  have h4 : ((A.toNat * B.toNat : Nat) : Int) = A * B := by
    rw [Int.natCast_mul, Int.toNat_of_nonneg (by omega), Int.toNat_of_nonneg (by omega)]
  omega
theorem wrapSm {x : Int} (h : -4611686018427387904 ≤ x ∧ x ≤ 4611686018427387904) : wrap64 x = x := by unfold wrap64; omega
theorem firstE_mapOk {α : Type} {g : α → Int} {l : List α} (h : firstE (l.map g) = 0) : ∀ x ∈ l, g x = 0 := by
  induction l with
  | nil => simp
  | cons a l ih =>
    rw [List.map_cons] at h
    obtain ⟨h1, h2⟩ := firstE_cons_ok h
    intro x hx
    rcases List.mem_cons.1 hx with rfl | hx
    · exact h1
    · exact ih h2 x hx
theorem brE_zero {x : Int × Int} (h : brE x = 0) : (0 ≤ x.1 ∧ x.1 ≤ 50) ∧ (0 ≤ x.2 ∧ x.2 ≤ 2000) := by
  unfold brE at h
  obtain ⟨h1, h⟩ := firstE_cons_ok h
  obtain ⟨h2, _⟩ := firstE_cons_ok h
  unfold withinE at h1 h2
  constructor
  · by_cases c : x.1 < 0 ∨ 50 < x.1
    · simp [c] at h1
    · omega
  · by_cases c : x.2 < 0 ∨ 2000 < x.2
    · simp [c] at h2
    · omega
theorem fltE_zero {ls : List (Int × Int)} (h : fltE ls = 0) : (0 < ls.length ∧ ls.length ≤ 3) ∧ ∀ x ∈ ls, brE x = 0 := by
  unfold fltE orE at h
  by_cases hn : fltN ls = 0
  · rw [if_pos hn] at h
    refine ⟨?_, firstE_mapOk h⟩
    unfold fltN at hn
    obtain ⟨h1, hn⟩ := firstE_cons_ok hn
    obtain ⟨h2, _⟩ := firstE_cons_ok hn
    unfold whenE at h1 h2
    by_cases c : ((ls.length : Int) == 0) = true
    · simp [c] at h1
    · by_cases d : (3 : Int) < ls.length
      · simp [d] at h2
      · simp at c
        have : 0 < ls.length := List.length_pos_iff.2 c
        omega
  · rw [if_neg hn] at h; exact absurd h hn
theorem left_bd {x : Int × Int} {h : Int} (hx : brE x = 0) (hh : 0 ≤ h ∧ h ≤ 13) : leftB x h = x.2 - h * h * x.1 ∧ (-8450 ≤ leftB x h ∧ leftB x h ≤ 8450) := by
  obtain ⟨h1, h2⟩ := brE_zero hx
  have a1 := mulBd (x := h) (y := h) (A := 13) (B := 13) (by omega) (by omega)
  have a0 : 0 ≤ h * h := Int.mul_nonneg hh.1 hh.1
  generalize hq : h * h = q at a1 a0
  have b1 := mulBd (x := q) (y := x.1) (A := 169) (B := 50) (by omega) (by omega)
  have b0 : 0 ≤ q * x.1 := Int.mul_nonneg a0 h1.1
  have e : leftB x h = x.2 - q * x.1 := by
    unfold leftB
    rw [hq, wrapSm (x := q) (by omega), wrapSm (x := q * x.1) (by omega), wrapSm (by omega)]
  rw [e]
  omega
/-- a fraction whose parts are small. -/
def St (B : Int) (p : Int × Int) : Prop := (-B ≤ p.1 ∧ p.1 ≤ B) ∧ (-B ≤ p.2 ∧ p.2 ≤ B) ∧ p.2 ≠ 0
theorem susT_st {B : Int} {p x : Int × Int} {h : Int} (hp : St B p) (hB : 0 ≤ B ∧ B ≤ 100000000) (hx : brE x = 0) (hh : 0 ≤ h ∧ h ≤ 13) (ht : leftB x h ≠ 0) :
    St (10000 * B) (susT h p x) ∧ susT h p x = (p.1 * leftB x h + h * p.2, p.2 * leftB x h) := by
  obtain ⟨_, hl⟩ := left_bd hx hh
  obtain ⟨h1, h2, h3⟩ := hp
  have a := mulBd h1 hl
  have b := mulBd (x := h) (A := 13) (by omega) h2
  have c := mulBd h2 hl
  have d : p.2 * leftB x h ≠ 0 := Int.mul_ne_zero h3 ht
  have e : susT h p x = (p.1 * leftB x h + h * p.2, p.2 * leftB x h) := by
    unfold susT
    rw [wrapSm (x := p.1 * leftB x h) (by omega), wrapSm (x := h * p.2) (by omega), wrapSm (x := p.2 * leftB x h) (by omega), wrapSm (by omega)]
  refine ⟨?_, e⟩
  rw [e]
  exact ⟨by omega, by omega, d⟩
theorem susOk_of {ls : List (Int × Int)} {h : Int} (hf : fltE ls = 0) (hh : 0 ≤ h ∧ h ≤ 13) (ht : tunedB ls h = false) : SusOk ls h := by
  obtain ⟨⟨hl1, hl2⟩, hb⟩ := fltE_zero hf
  have ht' : ∀ x ∈ ls, leftB x h ≠ 0 := fun x hx => by
    unfold tunedB at ht
    rw [List.any_eq_false] at ht
    simpa using ht x hx
  have h0 : St 1 (0, 1) := ⟨by simp, by simp, by simp⟩
  have fin : ∀ B, B ≤ 1000000000000 → St B (susL ls h) → SusOk ls h := fun B hB hs => ⟨by have := hs.1; omega, by have := hs.2.1; omega, hs.2.2⟩
  match ls, hl1, hl2, hb, ht', fin with
  | [a], _, _, hb, ht', fin =>
    have s1 := (susT_st h0 (by omega) (hb a (by simp)) hh (ht' a (by simp))).1
    exact fin _ (by omega) s1
  | [a, b], _, _, hb, ht', fin =>
    have s1 := (susT_st h0 (by omega) (hb a (by simp)) hh (ht' a (by simp))).1
    have s2 := (susT_st s1 (by omega) (hb b (by simp)) hh (ht' b (by simp))).1
    exact fin _ (by omega) s2
  | [a, b, c], _, _, hb, ht', fin =>
    have s1 := (susT_st h0 (by omega) (hb a (by simp)) hh (ht' a (by simp))).1
    have s2 := (susT_st s1 (by omega) (hb b (by simp)) hh (ht' b (by simp))).1
    have s3 := (susT_st s2 (by omega) (hb c (by simp)) hh (ht' c (by simp))).1
    exact fin _ (by omega) s3

set_option maxHeartbeats 400000 in
theorem checkOrder_any (h : Int) (w : World) :
    Calls Tryz.prog 70 #[.int .i64 h] w fun r w' => r = .returned (.int .i64 (withinE h 1 12)) ∧ w = w' := by
  go_enter Tryz.func70, Tryz.ntmps70
  go_wp2_with fail
  refine (withinH_any _ _ _ _).mono ?_
  rintro e w' ⟨rfl, rfl⟩
  go_wp2_with fail
  go_ret
  exact ⟨rfl, rfl⟩
theorem withinE_zero {n lo hi : Int} (h : withinE n lo hi = 0) : lo ≤ n ∧ n ≤ hi := by
  unfold withinE at h
  by_cases c : n < lo ∨ hi < n
  · simp [c] at h
  · omega
def susE (ls : List (Int × Int)) (h : Int) : Int := firstE [fltE ls, withinE h 1 12]
/-- what Susceptance returns. -/
def susX (ls : List (Int × Int)) (h : Int) : (Int × Int) × Int := bif susE ls h == 0 then (bif tunedB ls h then ((0, 0), 17) else (susR ls h, 0)) else ((0, 0), susE ls h)
set_option maxRecDepth 100000 in
set_option maxHeartbeats 2000000 in
theorem Susceptance_any (v : Value) (ls : List (Int × Int)) (h : Int) (w : World) (hv : Pairs w v ls) (hl : ls.length ≤ 1000000) :
    Calls Tryz.prog 28 #[.agg #[v], .int .i64 h] w fun e w' => e = .returned (.tuple #[.agg #[.int .i64 (susX ls h).1.1, .int .i64 (susX ls h).1.2], .int .i64 (susX ls h).2]) ∧ Below w.heap.size w w' := by
  obtain ⟨r, hr⟩ : ∃ r, r = susX ls h := ⟨_, rfl⟩
  rw [← hr]
  have TC := Lib.hid (fun W hP => CheckFilter_any v ls W hP hl)
  have TH := Lib.hid (fun W => checkOrder_any h W)
  have TT := Lib.hid (fun W hP => tuned_any v ls h W hP hl)
  have hso : susE ls h = 0 → tunedB ls h = false → SusOk ls h := fun h1 h2 => by
    unfold susE at h1
    obtain ⟨f1, h1⟩ := firstE_cons_ok h1
    obtain ⟨f2, _⟩ := firstE_cons_ok h1
    have := withinE_zero f2
    exact susOk_of f1 (by omega) h2
  have TS := Lib.hid (fun W hP hS => susceptance_any v ls h W hP hl hS)
  rw [susX] at hr
  rw [susE] at hr hso
  generalize fltE ls = e1 at TC hr hso
  generalize withinE h 1 12 = e2 at TH hr hso
  generalize tunedB ls h = tb at TT hr hso
  generalize susR ls h = sr at TS hr
  have TF := Lib.hid (fun (u : Value) (W : World) (h : Ints W u [e1, e2]) => firstH_any u [e1, e2] W (by simp [maxLen]) h)
  generalize firstE [e1, e2] = E at TF hr hso
  have HV := Lib.hid hv
  have HR := Lib.hid hr
  have HSO := Lib.hid hso
  obtain ⟨a, cp, rfl, _, _⟩ := id hv
  clear hv hr hso
  go_enter Tryz.func28, Tryz.ntmps28
  go_upto_region 1 with fail
  obtain ⟨W1, hW1⟩ : ∃ v, v = World.alloc w (Obj.cells #[.slice a ls.length cp] 75) := ⟨_, rfl⟩
  have kW1 : Below w.heap.size w W1 := by rw [hW1]; exact below_new _ _
  have iW1 : Blk W1 (w.heap.size) 75 [.slice a ls.length cp] := by rw [hW1]; exact Blk.new _ _ _
  have sW1 : W1.heap.size = w.heap.size + 1 := by rw [hW1]; simp
  rw [← hW1]
  clear hW1
  obtain ⟨W2, hW2⟩ : ∃ v, v = World.alloc W1 (Obj.cells #[.int .i64 0, .int .i64 0] 70) := ⟨_, rfl⟩
  have kW2 : Below W1.heap.size W1 W2 := by rw [hW2]; exact below_new _ _
  have iW2 : BlkI W2 (w.heap.size + 1) 70 (List.replicate 2 0) := by rw [hW2, ← sW1]; exact BlkI.new W1 70 (List.replicate 2 0)
  have sW2 : W2.heap.size = w.heap.size + 1 + 1 := by rw [hW2]; simp [sW1]
  rw [← hW2]
  clear hW2
  have i1 := iW1.carry kW2
  have i4 := iW2
  have hB := bthen kW1 kW2
  clear iW1 iW2 kW1 kW2 sW1 sW2
  have a0 := i1.cell (j := 0) (v := .slice a ls.length cp) rfl
  go_wp2_with fail
  refine (TC.out W2 (HV.out.carry hB)).mono ?_
  rintro e w3 ⟨rfl, hb⟩
  replace i1 := i1.carry hb
  replace i4 := i4.carry hb
  have a0 := cellb a0 hb
  replace hB := bthen hB hb
  clear hb
  go_wp2_with fail
  refine (TH.out w3).mono ?_
  rintro e w' ⟨rfl, rfl⟩
  go_wp2_with fail
  obtain ⟨W4, hW4⟩ : ∃ v, v = World.alloc w3 (Obj.cells #[.int .i64 e1, .int .i64 e2] 31) := ⟨_, rfl⟩
  have kW4 : Below w3.heap.size w3 W4 := by rw [hW4]; exact below_new _ _
  have iW4 : Blk W4 (w3.heap.size) 31 [.int .i64 e1, .int .i64 e2] := by rw [hW4]; exact Blk.new _ _ _
  have sW4 : W4.heap.size = w3.heap.size + 1 := by rw [hW4]; simp
  rw [← hW4]
  clear hW4
  refine (TF.out _ W4 (BlkI.ints (l := [e1, e2]) iW4 rfl)).mono ?_
  rintro e w' ⟨rfl, rfl⟩
  replace i4 := i4.carry kW4
  have a0 := cellb a0 kW4
  replace hB := bthen hB kW4
  have hs4 : w.heap.size + 1 < W4.heap.size := Blk.lt i4
  clear i1 kW4 iW4 sW4
  by_cases he : E = 0
  · subst he
    go_wp2_with fail
    refine (TT.out W4 (HV.out.carry hB)).mono ?_
    rintro e w5 ⟨rfl, hb⟩
    replace i4 := i4.carry hb
    have a0 := cellb a0 hb
    replace hB := bthen hB hb
    clear hb
    cases tb
    · have TS2 := Lib.hid (TS.out w5 (HV.out.carry hB) (HSO.out (by trivial) (by trivial)))
      clear TS HSO
      go_wp2_with fail
      refine TS2.out.mono ?_
      rintro e w6 ⟨rfl, hb⟩
      replace i4 := i4.carry hb
      replace hB := bthen hB hb
      clear hb a0
      go_wp2_with (refine wpList_storeA rfl _ _ _ rfl (w.heap.size + 1) [sr.1, sr.2] (List.replicate 2 0) rfl rfl i4 rfl Tryz.infoRatio ?_)
      have i9 := BlkI.setRowA i4 [sr.1, sr.2]
      have z0 : (w6.setRow (w.heap.size + 1) (ia [sr.1, sr.2])).cell? ⟨w.heap.size + 1, 0, none⟩ = some (.int .i64 sr.1) := BlkI.cell i9 (j := 0) (by simp)
      have z1 : (w6.setRow (w.heap.size + 1) (ia [sr.1, sr.2])).cell? ⟨w.heap.size + 1, 1, none⟩ = some (.int .i64 sr.2) := BlkI.cell i9 (j := 1) (by simp)
      exact bodyPost_ret (v := .tuple #[.agg #[.int .i64 sr.1, .int .i64 sr.2], .int .i64 0]) (by simp [results, Tryz.f28, go_sem, z0, z1]) rfl ⟨by rw [HR.out]; rfl, below_rowA hB (by omega) _⟩
    · clear TS HSO
      go_wp2_with (refine wpList_storeA rfl _ _ _ rfl (w.heap.size + 1) [0, 0] (List.replicate 2 0) rfl rfl i4 rfl Tryz.infoRatio ?_)
      have i9 := BlkI.setRowA i4 [0, 0]
      have z0 : (w5.setRow (w.heap.size + 1) (ia [0, 0])).cell? ⟨w.heap.size + 1, 0, none⟩ = some (.int .i64 0) := BlkI.cell i9 (j := 0) (by simp)
      have z1 : (w5.setRow (w.heap.size + 1) (ia [0, 0])).cell? ⟨w.heap.size + 1, 1, none⟩ = some (.int .i64 0) := BlkI.cell i9 (j := 1) (by simp)
      exact bodyPost_ret (v := .tuple #[.agg #[.int .i64 0, .int .i64 0], .int .i64 17]) (by simp [results, Tryz.f28, go_sem, z0, z1]) rfl ⟨by rw [HR.out]; rfl, below_rowA hB (by omega) _⟩
  · have z : (E == 0) = false := by rw [beq_eq_false_iff_ne]; exact he
    have HNE := Lib.hid z
    go_wp2_with (refine wpList_storeA rfl _ _ _ rfl (w.heap.size + 1) [0, 0] (List.replicate 2 0) rfl rfl i4 rfl Tryz.infoRatio ?_)
    have i9 := BlkI.setRowA i4 [0, 0]
    have z0 : (W4.setRow (w.heap.size + 1) (ia [0, 0])).cell? ⟨w.heap.size + 1, 0, none⟩ = some (.int .i64 0) := BlkI.cell i9 (j := 0) (by simp)
    have z1 : (W4.setRow (w.heap.size + 1) (ia [0, 0])).cell? ⟨w.heap.size + 1, 1, none⟩ = some (.int .i64 0) := BlkI.cell i9 (j := 1) (by simp)
    exact bodyPost_ret (v := .tuple #[.agg #[.int .i64 0, .int .i64 0], .int .i64 E]) (by simp [results, Tryz.f28, go_sem, z0, z1]) rfl ⟨by rw [HR.out, HNE.out]; rfl, below_rowA hB (by omega) _⟩
end

section
set_option linter.unusedSimpArgs false
set_option linter.unusedVariables false
open Go.RowKit

theorem fieldR0 (a b : Int) (w : World) : Sem.run Tryz.prog (Instr.field 70 (.agg #[.int .i64 a, .int .i64 b]) 0) w = .ok (.int .i64 a) w := by kernel_rfl
/-- a resonance between an order and the next one. -/
def crossB (a b : Int) : Bool := a == 0 || (negB a && decide (0 < b)) || (decide (0 < a) && negB b)
def resB (ls : List (Int × Int)) (h : Int) : Bool := bif tunedB ls h then false else bif tunedB ls (h + 1) then false else crossB (susR ls h).1 (susR ls (h + 1)).1
theorem Tryz.enterResonances1 (args : Array Value) (w : World) : Sem.run Tryz.prog (callFunc 73 args) w = .ok (.enter 73 args) w :=
  MuLone.run_callFunc_enter Tryz.func73 (by kernel_rfl) rfl args w
set_option maxRecDepth 100000 in
set_option maxHeartbeats 2000000 in
theorem resonances1_any (v : Value) (ls : List (Int × Int)) (h : Int) (B : Nat) (w : World) (hv : Pairs w v ls) (hl : ls.length ≤ 1000000) (hf : fltE ls = 0) (hh : 1 ≤ h ∧ h ≤ 11) (hb : Blk w B 75 [v]) :
    Calls Tryz.prog 73 #[.int .i64 h, .pointer (some ⟨B, 0, none⟩)] w fun e w' => e = .returned (.bool (resB ls h)) ∧ Below w.heap.size w w' := by
  obtain ⟨r, hr⟩ : ∃ r, r = resB ls h := ⟨_, rfl⟩
  rw [← hr]
  have T1 := Lib.hid (fun W hP => tuned_any v ls h W hP hl)
  have T2 := Lib.hid (fun W hP => tuned_any v ls (h + 1) W hP hl)
  have S1 := Lib.hid (fun W hP ht => susceptance_any v ls h W hP hl (susOk_of hf (by omega) ht))
  have S2 := Lib.hid (fun W hP ht => susceptance_any v ls (h + 1) W hP hl (susOk_of hf (by omega) ht))
  rw [resB] at hr
  generalize tunedB ls h = t1 at T1 S1 hr
  generalize tunedB ls (h + 1) = t2 at T2 S2 hr
  generalize susR ls h = s1 at S1 hr
  generalize susR ls (h + 1) = s2 at S2 hr
  have HR := Lib.hid hr
  have ew : IntKind.i64.wrap (h + 1) = h + 1 := IntWalk.i64_in _ (by omega)
  clear hr hf
  have a0 := hb.cell (j := 0) (v := v) rfl
  have hP := hv
  obtain ⟨a, cp, rfl, _, _⟩ := id hv
  clear hv hb
  have hB : Below w.heap.size w w := Below.refl _ _
  cases t1
  · have HS1 := Lib.hid (fun W hP => S1.out W hP rfl)
    cases t2
    · have HS2 := Lib.hid (fun W hP => S2.out W hP rfl)
      obtain ⟨p1, q1⟩ := s1
      obtain ⟨p2, q2⟩ := s2
      simp only at HS1 HS2
      clear S1 S2
      go_enter Tryz.func73, Tryz.ntmps73
      go_wp2_with fail
      refine (T1.out w hP).mono ?_
      rintro e w1 ⟨rfl, hb⟩
      replace hP := hP.carry hb
      have a0 := cellb a0 hb
      replace hB := bthen hB hb
      clear hb
      go_wp2_with fail
      refine (T2.out w1 hP).mono ?_
      rintro e w2 ⟨rfl, hb⟩
      replace hP := hP.carry hb
      have a0 := cellb a0 hb
      replace hB := bthen hB hb
      clear hb
      go_upto_region 3 with fail
      have hf1 := fun W => fieldR0 p1 q1 W
      have hf2 := fun W => fieldR0 p2 q2 W
      refine wp_region_E 99 (by kernel_rfl) ?_
      obtain ⟨wz, hwz⟩ : ∃ v, v = w2.drew := ⟨_, rfl⟩
      rw [← hwz]
      have hlz : Below w2.heap.size w2 wz := by rw [hwz]; exact (Below.refl _ _).drew
      have hbz := bthen hB hlz
      have a0 := cellb a0 hlz
      have hP := hP.carry hlz
      clear hwz hlz
      refine wpAnyE_take (i := 0) (oi := { dst := some 15, op := Op.load 75 (Operand.tmp 1), type := 75, pos := "filter.go:83", after := #[], guard := none }) (v := ?_) rfl (by kernel_rfl) (by kernel_rfl) (by kernel_rfl) (by kernel_rfl) (fun _ _ _ h => h) (Or.inl ⟨by rfl, ?_⟩) ?_
      rotate_left
      · (intro w hE; have a0 := cellb a0 hE; (try dsimp only); go_simp); (try with_reducible rfl)
      try simp only [Act.put, List.setIfInBounds_toArray, List.set_cons_zero, List.set_cons_succ]
      refine wpAnyE_take (i := 1) (oi := { dst := some 16, op := Op.move (Operand.tmp 0), type := 3, pos := "filter.go:83", after := #[], guard := none }) (v := ?_) rfl (by kernel_rfl) (by kernel_rfl) (by kernel_rfl) (by kernel_rfl) (fun _ _ _ h => h) (Or.inl ⟨by rfl, ?_⟩) ?_
      rotate_left
      · (intro w hE; have a0 := cellb a0 hE; (try dsimp only); go_simp); (try with_reducible rfl)
      try simp only [Act.put, List.setIfInBounds_toArray, List.set_cons_zero, List.set_cons_succ]
      refine wpAnyE_take (i := 4) (oi := { dst := some 19, op := Op.load 75 (Operand.tmp 1), type := 75, pos := "filter.go:83", after := #[], guard := none }) (v := ?_) rfl (by kernel_rfl) (by kernel_rfl) (by kernel_rfl) (by kernel_rfl) (fun _ _ _ h => h) (Or.inl ⟨by rfl, ?_⟩) ?_
      rotate_left
      · (intro w hE; have a0 := cellb a0 hE; (try dsimp only); go_simp); (try with_reducible rfl)
      try simp only [Act.put, List.setIfInBounds_toArray, List.set_cons_zero, List.set_cons_succ]
      refine wpAnyE_take (i := 5) (oi := { dst := some 20, op := Op.move (Operand.tmp 0), type := 3, pos := "filter.go:83", after := #[], guard := none }) (v := ?_) rfl (by kernel_rfl) (by kernel_rfl) (by kernel_rfl) (by kernel_rfl) (fun _ _ _ h => h) (Or.inl ⟨by rfl, ?_⟩) ?_
      rotate_left
      · (intro w hE; have a0 := cellb a0 hE; (try dsimp only); go_simp); (try with_reducible rfl)
      try simp only [Act.put, List.setIfInBounds_toArray, List.set_cons_zero, List.set_cons_succ]
      refine wpAnyE_take (i := 6) (oi := { dst := some 21, op := Op.binOp BinOp.add 3 (Operand.tmp 20) (Operand.const (Value.int IntKind.i64 1)) 3, type := 3, pos := "filter.go:83", after := #[{ on := 5, ground := Ground.data }], guard := none }) (v := ?_) rfl (by kernel_rfl) (by kernel_rfl) (by kernel_rfl) (by kernel_rfl) (fun _ _ _ h => h) (Or.inl ⟨by rfl, ?_⟩) ?_
      rotate_left
      · (intro w hE; have a0 := cellb a0 hE; (try dsimp only); go_simp); (try with_reducible rfl)
      try simp only [Act.put, List.setIfInBounds_toArray, List.set_cons_zero, List.set_cons_succ]
      refine wpAnyE_call (i := 2) (oi := { dst := some 17, op := Op.call { callee := Callee.value (Operand.func 72), args := #[Operand.tmp 15, Operand.tmp 16], argTypes := #[75, 3] }, type := 70, pos := "filter.go:83", after := #[{ on := 0, ground := Ground.data }, { on := 1, ground := Ground.data }], guard := none }) (fun w hE => HS1.out w (hP.carry hE)) rfl (by kernel_rfl) (by kernel_rfl) (by kernel_rfl) (by kernel_rfl) (fun _ _ _ h => h) (by rfl) (fun w hE => by (try dsimp only); go_simp) ?_
      try simp only [Act.put, List.setIfInBounds_toArray, List.set_cons_zero, List.set_cons_succ]
      refine wpAnyE_take (i := 3) (oi := { dst := some 18, op := Op.field 70 (Operand.tmp 17) 0, type := 3, pos := "filter.go:83", after := #[{ on := 2, ground := Ground.data }], guard := none }) (v := ?_) rfl (by kernel_rfl) (by kernel_rfl) (by kernel_rfl) (by kernel_rfl) (fun _ _ _ h => h) (Or.inl ⟨by rfl, ?_⟩) ?_
      rotate_left
      · (intro w hE; have a0 := cellb a0 hE; (try dsimp only); go_simp); (try with_reducible rfl)
      try simp only [Act.put, List.setIfInBounds_toArray, List.set_cons_zero, List.set_cons_succ]
      refine wpAnyE_call (i := 7) (oi := { dst := some 22, op := Op.call { callee := Callee.value (Operand.func 72), args := #[Operand.tmp 19, Operand.tmp 21], argTypes := #[75, 3] }, type := 70, pos := "filter.go:83", after := #[{ on := 4, ground := Ground.data }, { on := 6, ground := Ground.data }, { on := 2, ground := Ground.chain }], guard := none }) (fun w hE => HS2.out w (hP.carry hE)) rfl (by kernel_rfl) (by kernel_rfl) (by kernel_rfl) (by kernel_rfl) (fun _ _ _ h => h) (by rfl) (fun w hE => by (try dsimp only); go_simp) ?_
      try simp only [Act.put, List.setIfInBounds_toArray, List.set_cons_zero, List.set_cons_succ]
      refine wpAnyE_take (i := 8) (oi := { dst := some 23, op := Op.field 70 (Operand.tmp 22) 0, type := 3, pos := "filter.go:83", after := #[{ on := 7, ground := Ground.data }, { on := 9, ground := Ground.gcOnly Departure.lateStores }], guard := none }) (v := ?_) rfl (by kernel_rfl) (by kernel_rfl) (by kernel_rfl) (by kernel_rfl) (fun _ _ _ h => h) (Or.inl ⟨by rfl, ?_⟩) ?_
      rotate_left
      · (intro w hE; have a0 := cellb a0 hE; (try dsimp only); go_simp); (try with_reducible rfl)
      try simp only [Act.put, List.setIfInBounds_toArray, List.set_cons_zero, List.set_cons_succ]
      refine wpAnyE_take (i := 9) (oi := { dst := some 4, op := Op.assign (Operand.tmp 18), type := 3, pos := "filter.go:83", after := #[{ on := 3, ground := Ground.data }, { on := 7, ground := Ground.chain }, { on := 0, ground := Ground.phase }, { on := 1, ground := Ground.phase }, { on := 2, ground := Ground.phase }, { on := 3, ground := Ground.phase }, { on := 4, ground := Ground.textOnly Departure.lateStores }, { on := 5, ground := Ground.textOnly Departure.lateStores }, { on := 6, ground := Ground.textOnly Departure.lateStores }, { on := 7, ground := Ground.textOnly Departure.lateStoresUnsure }, { on := 8, ground := Ground.textOnly Departure.lateStores }], guard := none }) (v := ?_) rfl (by kernel_rfl) (by kernel_rfl) (by kernel_rfl) (by kernel_rfl) (fun _ _ _ h => h) (Or.inl ⟨by rfl, ?_⟩) ?_
      rotate_left
      · (intro w hE; have a0 := cellb a0 hE; (try dsimp only); go_simp); (try with_reducible rfl)
      try simp only [Act.put, List.setIfInBounds_toArray, List.set_cons_zero, List.set_cons_succ]
      refine wpAnyE_take (i := 10) (oi := { dst := some 5, op := Op.assign (Operand.tmp 23), type := 3, pos := "filter.go:83", after := #[{ on := 8, ground := Ground.data }, { on := 9, ground := Ground.chain }, { on := 0, ground := Ground.phase }, { on := 1, ground := Ground.phase }, { on := 2, ground := Ground.phase }, { on := 3, ground := Ground.phase }, { on := 4, ground := Ground.phase }, { on := 5, ground := Ground.phase }, { on := 6, ground := Ground.phase }, { on := 7, ground := Ground.phase }, { on := 8, ground := Ground.phase }, { on := 9, ground := Ground.phase }], guard := none }) (v := ?_) rfl (by kernel_rfl) (by kernel_rfl) (by kernel_rfl) (by kernel_rfl) (fun _ _ _ h => h) (Or.inl ⟨by rfl, ?_⟩) ?_
      rotate_left
      · (intro w hE; have a0 := cellb a0 hE; (try dsimp only); go_simp); (try with_reducible rfl)
      try simp only [Act.put, List.setIfInBounds_toArray, List.set_cons_zero, List.set_cons_succ]
      refine wpAnyE_done (by kernel_rfl) (fun wy1 hE => ?_) _
      have hbz1 := bthen hbz hE
      have a0 := cellb a0 hE
      have hP := hP.carry hE
      clear hE
      have hB := hbz1
      obtain ⟨W5, hW5⟩ : ∃ v, v = wy1 := ⟨_, rfl⟩
      rw [← hW5] at hB ⊢
      clear hW5 hP a0
      have hr2 : r = crossB p1 p2 := HR.out
      rw [crossB, negB, negB] at hr2
      have HR2 := Lib.hid hr2
      clear hr2
      by_cases c1 : p1 = 0
      · subst c1
        go_wp2
        go_ret
        exact ⟨ret_bool (by rw [HR2.out]; simp), hB⟩
      · by_cases c2 : p1 < 0
        · have c3 : ¬ 0 < p1 := by omega
          by_cases c4 : 0 < p2
          all_goals
            go_wp2
            go_ret
            exact ⟨ret_bool (by rw [HR2.out, Bool.eq_iff_iff]; simp; omega), hB⟩
        · have c3 : 0 < p1 := by omega
          by_cases c4 : p2 < 0
          all_goals
            go_wp2
            go_ret
            exact ⟨ret_bool (by rw [HR2.out, Bool.eq_iff_iff]; simp; omega), hB⟩
    · clear S1 S2 HS1
      go_enter Tryz.func73, Tryz.ntmps73
      go_wp2_with fail
      refine (T1.out w hP).mono ?_
      rintro e w1 ⟨rfl, hb⟩
      replace hP := hP.carry hb
      have a0 := cellb a0 hb
      replace hB := bthen hB hb
      clear hb
      go_wp2_with fail
      refine (T2.out w1 hP).mono ?_
      rintro e w2 ⟨rfl, hb⟩
      go_wp2
      go_ret
      exact ⟨ret_bool (by rw [HR.out]; rfl), bthen hB hb⟩
  · clear S1 S2 T2
    go_enter Tryz.func73, Tryz.ntmps73
    go_wp2_with fail
    refine (T1.out w hP).mono ?_
    rintro e w1 ⟨rfl, hb⟩
    go_wp2
    go_ret
    exact ⟨ret_bool (by rw [HR.out]; rfl), bthen hB hb⟩

def resL (ls : List (Int × Int)) : List Int := chosenL (resB ls) 1 11
set_option maxRecDepth 100000 in
set_option maxHeartbeats 1000000 in
theorem Resonances_any (v : Value) (ls : List (Int × Int)) (w : World) (hv : Pairs w v ls) (hl : ls.length ≤ 1000000) :
    Calls Tryz.prog 30 #[.agg #[v]] w fun e w' => (∃ u, e = .returned (.tuple #[u, .int .i64 (fltE ls)]) ∧ Ints w' u (lsOr (fltE ls) (resL ls))) ∧ Below w.heap.size w w' := by
  have HV := Lib.hid hv
  have TC := Lib.hid (fun W hP => CheckFilter_any v ls W hP hl)
  obtain ⟨a, cp, hva, _, _⟩ := id hv
  have TX := Lib.hid (fun (B : Nat) (W : World) (hf : fltE ls = 0) (hP : Pairs W v ls) (hb : Blk W B 75 [v]) => chosen_any 73 #[.pointer (some ⟨B, 0, none⟩)] Tryz.enterResonances1 (resB ls) 1 11 11 W (by omega) (by omega) (by omega) (fun x h1 h2 W1 hb1 => resonances1_any v ls x B W1 (hP.carry hb1) hl hf (by omega) (hb.carry hb1)))
  subst hva
  rw [resL]
  generalize chosenL (resB ls) 1 11 = L at TX ⊢
  generalize fltE ls = E at TC TX ⊢
  clear hv
  go_enter Tryz.func30, Tryz.ntmps30
  go_upto_region 1 with fail
  obtain ⟨W1, hW1⟩ : ∃ v, v = World.alloc w (Obj.cells #[.slice a ls.length cp] 75) := ⟨_, rfl⟩
  have kW1 : Below w.heap.size w W1 := by rw [hW1]; exact below_new _ _
  have iW1 : Blk W1 (w.heap.size) 75 [.slice a ls.length cp] := by rw [hW1]; exact Blk.new _ _ _
  have sW1 : W1.heap.size = w.heap.size + 1 := by rw [hW1]; simp
  rw [← hW1]
  clear hW1
  have i1 := iW1
  have hB := kW1
  clear iW1 kW1 sW1
  have a0 := i1.cell (j := 0) (v := .slice a ls.length cp) rfl
  go_wp2_with fail
  refine (TC.out W1 (HV.out.carry hB)).mono ?_
  rintro e w3 ⟨rfl, hb⟩
  replace i1 := i1.carry hb
  have a0 := cellb a0 hb
  replace hB := bthen hB hb
  clear hb
  by_cases he : E = 0
  · subst he
    have TXX := Lib.hid (TX.out w.heap.size w3 (by trivial) (HV.out.carry hB) i1)
    clear TX
    go_wp2_with fail
    refine TXX.out.mono ?_
    rintro e w6 ⟨⟨u, rfl, hu⟩, hb6⟩
    go_wp2_with fail
    go_ret2
    exact ⟨⟨_, rfl, by rw [lsOr, if_pos rfl]; exact hu⟩, bthen hB hb6⟩
  · have z : (E == 0) = false := by rw [beq_eq_false_iff_ne]; exact he
    have HNE := Lib.hid he
    go_wp2_with fail
    go_ret2
    exact ⟨⟨_, rfl, by rw [lsOr, if_neg HNE.out]; exact Ints.nil _⟩, hB⟩
end

section
set_option linter.unusedSimpArgs false
set_option linter.unusedVariables false
open Go.RowKit

theorem Tryz.infoGauss : (Tryz.prog.info? 86).map (·.size) = some 2 := by kernel_rfl
def negI (x : Int) : Int := wrap64 (-x)
set_option maxRecDepth 100000 in
set_option maxHeartbeats 2000000 in
theorem point_any (v : Value) (ls : List (Int × Int)) (h : Int) (w : World) (hv : Pairs w v ls) (hl : ls.length ≤ 1000000) (hS : SusOk ls h) :
    Calls Tryz.prog 118 #[.agg #[v], .int .i64 h] w fun e w' => e = .returned (.tuple #[.agg #[.int .i64 0, .int .i64 (negI (susR ls h).1)], .int .i64 (susR ls h).2]) ∧ Below w.heap.size w w' := by
  have TS := Lib.hid (fun W hP => susceptance_any v ls h W hP hl hS)
  generalize susR ls h = s at TS ⊢
  obtain ⟨n, d⟩ := s
  obtain ⟨m, hm⟩ : ∃ m, m = negI n := ⟨_, rfl⟩
  simp only at TS ⊢
  rw [← hm]
  have em : IntKind.i64.wrap (-n) = m := by rw [hm, negI, wrapEq]
  have HV := Lib.hid hv
  obtain ⟨a, cp, rfl, _, _⟩ := id hv
  clear hv hS hm
  go_enter Tryz.func118, Tryz.ntmps118
  go_upto_region 1 with fail
  obtain ⟨W1, hW1⟩ : ∃ v, v = World.alloc w (Obj.cells #[.slice a ls.length cp] 75) := ⟨_, rfl⟩
  have kW1 : Below w.heap.size w W1 := by rw [hW1]; exact below_new _ _
  have iW1 : Blk W1 (w.heap.size) 75 [.slice a ls.length cp] := by rw [hW1]; exact Blk.new _ _ _
  have sW1 : W1.heap.size = w.heap.size + 1 := by rw [hW1]; simp
  rw [← hW1]
  clear hW1
  obtain ⟨W2, hW2⟩ : ∃ v, v = World.alloc W1 (Obj.cells #[.int .i64 0, .int .i64 0] 86) := ⟨_, rfl⟩
  have kW2 : Below W1.heap.size W1 W2 := by rw [hW2]; exact below_new _ _
  have iW2 : BlkI W2 (w.heap.size + 1) 86 (List.replicate 2 0) := by rw [hW2, ← sW1]; exact BlkI.new W1 86 (List.replicate 2 0)
  have sW2 : W2.heap.size = w.heap.size + 1 + 1 := by rw [hW2]; simp [sW1]
  rw [← hW2]
  clear hW2
  have i1 := iW1.carry kW2
  have i4 := iW2
  have hB := bthen kW1 kW2
  clear iW1 iW2 kW1 kW2 sW1 sW2
  have a0 := i1.cell (j := 0) (v := .slice a ls.length cp) rfl
  go_wp2_with fail
  refine (TS.out W2 (HV.out.carry hB)).mono ?_
  rintro e w3 ⟨rfl, hb⟩
  replace i4 := i4.carry hb
  replace hB := bthen hB hb
  clear hb a0 i1
  go_upto_region 2 with (refine wpList_storeA rfl _ _ _ rfl w3.heap.size [n, d] (List.replicate 2 0) rfl rfl (BlkI.new w3 70 (List.replicate 2 0)) rfl Tryz.infoRatio ?_)
  obtain ⟨W4, hW4⟩ : ∃ v, v = World.setRow (World.alloc w3 (Obj.cells #[.int .i64 0, .int .i64 0] 70)) w3.heap.size (ia ([n, d])) := ⟨_, rfl⟩
  have kW4 : Below w3.heap.size w3 W4 := by rw [hW4]; exact zrow_below _ _ _ _
  have iW4 : BlkI W4 w3.heap.size 70 ([n, d]) := by rw [hW4]; exact zrow_blk w3 _ (List.replicate 2 0) _
  rw [← hW4]
  clear hW4
  have i4p := i4
  replace i4 := i4.carry kW4
  replace hB := bthen hB kW4
  have hs4 : w.heap.size + 1 < w3.heap.size := Blk.lt i4p
  have hs5 : w.heap.size + 1 < W4.heap.size := Blk.lt i4
  obtain ⟨G, hG⟩ : ∃ G, G = w3.heap.size := ⟨_, rfl⟩
  have i6 := iW4
  rw [← hG] at i6 hs4 ⊢
  clear iW4 kW4 hG i4p
  refine wp_region_held_drew (S := (fun W => W.cell? ⟨G, 0, none⟩ = some (.int .i64 n) ∧ W.cell? ⟨G, 1, none⟩ = some (.int .i64 d))) (by kernel_rfl) ⟨BlkI.cell i6 (j := 0) (by simp), BlkI.cell i6 (j := 1) (by simp)⟩ (fun hHeld0 => ?_)
  obtain ⟨wzd, hwz⟩ : ∃ v, v = W4.drew := ⟨_, rfl⟩
  rw [← hwz] at hHeld0 ⊢
  have hbzd : Below w.heap.size w wzd := by rw [hwz]; exact hB.drew
  have hlzd : Below W4.heap.size W4 wzd := by rw [hwz]; exact (Below.refl _ _).drew
  have i4 := i4.carry hlzd
  have i6 := i6.carry hlzd
  clear hwz hlzd
  refine wpAnyH_take (i := 0) (oi := { dst := some 10, op := Op.fieldAddr 70 (Operand.tmp 6) 0, type := 0, pos := "filter.go:180", after := #[], guard := none }) (v := ?_) rfl (by kernel_rfl) (by kernel_rfl) (by kernel_rfl) (fun _ _ _ h => h) (Or.inl ⟨by rfl, ?_⟩) (by assumption) ?_
  rotate_left
  · (intro w hSw; (try dsimp only at hSw); go_simp); (try with_reducible rfl)
  try simp only [Act.put, List.setIfInBounds_toArray, List.set_cons_zero, List.set_cons_succ]
  refine wpAnyH_take (i := 1) (oi := { dst := some 11, op := Op.load 3 (Operand.tmp 10), type := 3, pos := "filter.go:180", after := #[{ on := 0, ground := Ground.data }], guard := none }) (v := ?_) rfl (by kernel_rfl) (by kernel_rfl) (by kernel_rfl) (fun _ _ _ h => h) (Or.inl ⟨by rfl, ?_⟩) (by assumption) ?_
  rotate_left
  · (intro w hSw; (try dsimp only at hSw); go_simp); (try with_reducible rfl)
  try simp only [Act.put, List.setIfInBounds_toArray, List.set_cons_zero, List.set_cons_succ]
  refine wpAnyH_take (i := 2) (oi := { dst := some 12, op := Op.unOp UnOp.neg 3 (Operand.tmp 11), type := 3, pos := "filter.go:180", after := #[{ on := 1, ground := Ground.data }], guard := none }) (v := ?_) rfl (by kernel_rfl) (by kernel_rfl) (by kernel_rfl) (fun _ _ _ h => h) (Or.inl ⟨by rfl, ?_⟩) (by assumption) ?_
  rotate_left
  · (intro w hSw; (try dsimp only at hSw); go_simp); (try with_reducible rfl)
  try simp only [Act.put, List.setIfInBounds_toArray, List.set_cons_zero, List.set_cons_succ]
  refine wpAnyH_take (i := 3) (oi := { dst := some 13, op := Op.build 86 #[(1, Operand.tmp 12)], type := 86, pos := "filter.go:180", after := #[{ on := 2, ground := Ground.data }], guard := none }) (v := ?_) rfl (by kernel_rfl) (by kernel_rfl) (by kernel_rfl) (fun _ _ _ h => h) (Or.inl ⟨by rfl, ?_⟩) (by assumption) ?_
  rotate_left
  · (intro w hSw; (try dsimp only at hSw); go_simp); (try with_reducible rfl)
  try simp only [Act.put, List.setIfInBounds_toArray, List.set_cons_zero, List.set_cons_succ]
  refine wpAnyH_take (i := 4) (oi := { dst := some 14, op := Op.fieldAddr 70 (Operand.tmp 6) 1, type := 0, pos := "filter.go:180", after := #[{ on := 6, ground := Ground.gcOnly Departure.lateStores }], guard := none }) (v := ?_) rfl (by kernel_rfl) (by kernel_rfl) (by kernel_rfl) (fun _ _ _ h => h) (Or.inl ⟨by rfl, ?_⟩) (by assumption) ?_
  rotate_left
  · (intro w hSw; (try dsimp only at hSw); go_simp); (try with_reducible rfl)
  try simp only [Act.put, List.setIfInBounds_toArray, List.set_cons_zero, List.set_cons_succ]
  refine wpAnyH_take (i := 5) (oi := { dst := some 15, op := Op.load 3 (Operand.tmp 14), type := 3, pos := "filter.go:180", after := #[{ on := 4, ground := Ground.data }, { on := 6, ground := Ground.gcOnly Departure.lateStores }], guard := none }) (v := ?_) rfl (by kernel_rfl) (by kernel_rfl) (by kernel_rfl) (fun _ _ _ h => h) (Or.inl ⟨by rfl, ?_⟩) (by assumption) ?_
  rotate_left
  · (intro w hSw; (try dsimp only at hSw); go_simp); (try with_reducible rfl)
  try simp only [Act.put, List.setIfInBounds_toArray, List.set_cons_zero, List.set_cons_succ]
  refine wpAnyH_ready (rs := [6]) (by kernel_rfl) (by simp) ?_
  refine (AllReadyH.cons (o := { dst := none, op := Op.store 86 (Operand.tmp 4) (Operand.tmp 13), type := 0, pos := "filter.go:180", after := #[{ on := 3, ground := Ground.data }, { on := 0, ground := Ground.phase }, { on := 1, ground := Ground.phase }, { on := 2, ground := Ground.phase }, { on := 3, ground := Ground.phase }, { on := 4, ground := Ground.textOnly Departure.lateStores }, { on := 5, ground := Ground.textOnly Departure.lateStores }], guard := none }) rfl (fun K hK => ?_) AllReadyH.nil)
  refine wp_storeA _ _ _ rfl (w.heap.size + 1) [0, m] [0, 0] rfl rfl i4 rfl Tryz.infoGauss ?_
  obtain ⟨wz6, hwz⟩ : ∃ v, v = World.setRow wzd (w.heap.size + 1) (ia [0, m]) := ⟨_, rfl⟩
  rw [← hwz]
  have hbz6 : Below w.heap.size w wz6 := by rw [hwz]; exact below_rowA hbzd (by omega) _
  replace i4 := BlkI.setRowA i4 [0, m]
  rw [← hwz] at i4
  replace i6 := BlkI.setRowO i6 (B' := w.heap.size + 1) (by omega) (ia [0, m])
  rw [← hwz] at i6
  clear hwz
  refine hK.out _ _ ⟨BlkI.cell i6 (j := 0) (by simp), BlkI.cell i6 (j := 1) (by simp)⟩ (fun hHeld1 => ?_)
  clear hK K hHeld0
  try simp only [Act.put, List.setIfInBounds_toArray, List.set_cons_zero, List.set_cons_succ]
  refine wpAnyH_take (i := 7) (oi := { dst := some 5, op := Op.assign (Operand.tmp 15), type := 3, pos := "filter.go:180", after := #[{ on := 5, ground := Ground.data }, { on := 6, ground := Ground.chain }, { on := 0, ground := Ground.phase }, { on := 1, ground := Ground.phase }, { on := 2, ground := Ground.phase }, { on := 3, ground := Ground.phase }, { on := 4, ground := Ground.phase }, { on := 5, ground := Ground.phase }, { on := 6, ground := Ground.phase }], guard := none }) (v := ?_) rfl (by kernel_rfl) (by kernel_rfl) (by kernel_rfl) (fun _ _ _ h => h) (Or.inl ⟨by rfl, ?_⟩) (by assumption) ?_
  rotate_left
  · (intro w hSw; (try dsimp only at hSw); go_simp); (try with_reducible rfl)
  try simp only [Act.put, List.setIfInBounds_toArray, List.set_cons_zero, List.set_cons_succ]
  refine wpAnyH_done (by kernel_rfl) ?_ _
  clear hHeld1
  have hB := hbz6
  obtain ⟨W5, hW5⟩ : ∃ v, v = wz6 := ⟨_, rfl⟩
  rw [← hW5] at hB i4 ⊢
  clear hW5
  go_wp2_with fail
  have z0 : W5.cell? ⟨w.heap.size + 1, 0, none⟩ = some (.int .i64 0) := BlkI.cell i4 (j := 0) (by simp)
  have z1 : W5.cell? ⟨w.heap.size + 1, 1, none⟩ = some (.int .i64 m) := BlkI.cell i4 (j := 1) (by simp)
  exact bodyPost_ret (v := .tuple #[.agg #[.int .i64 0, .int .i64 m], .int .i64 d]) (by simp [results, Tryz.f118, go_sem, z0, z1]) rfl ⟨rfl, hB⟩

/-- a filter meets a polygon. -/
def meetB (ls l : List (Int × Int)) (h : Int) : Bool := bif tunedB ls h then false else negB (outL l (0, negI (susR ls h).1) (susR ls h).2)
set_option maxRecDepth 100000 in
set_option maxHeartbeats 2000000 in
theorem meets_any (v u : Value) (ls l : List (Int × Int)) (h : Int) (w : World) (hv : Pairs w v ls) (hl : ls.length ≤ 1000000) (hu : Pairs w u l) (hlu : l.length ≤ 1000000) (hS : tunedB ls h = false → SusOk ls h) :
    Calls Tryz.prog 75 #[.agg #[v], u, .int .i64 h] w fun e w' => e = .returned (.bool (meetB ls l h)) ∧ Below w.heap.size w w' := by
  obtain ⟨r, hr⟩ : ∃ r, r = meetB ls l h := ⟨_, rfl⟩
  rw [← hr]
  rw [meetB] at hr
  have TT := Lib.hid (fun W hP => tuned_any v ls h W hP hl)
  have TP := Lib.hid (fun W hP hS => point_any v ls h W hP hl hS)
  generalize tunedB ls h = t at TT hr hS
  generalize susR ls h = s at TP hr
  obtain ⟨n, d⟩ := s
  simp only at TP hr
  generalize negI n = m at TP hr
  have TO := Lib.hid (fun W hP => outside_any u l (0, m) d W hP hlu)
  generalize outL l (0, m) d = o at TO hr
  have HR := Lib.hid hr
  have HV := Lib.hid hv
  have HU := Lib.hid hu
  obtain ⟨a, cp, rfl, _, _⟩ := id hv
  obtain ⟨a2, cp2, rfl, _, _⟩ := id hu
  clear hv hu hr
  go_enter Tryz.func75, Tryz.ntmps75
  go_upto_region 1 with fail
  obtain ⟨W1, hW1⟩ : ∃ v, v = World.alloc w (Obj.cells #[.slice a ls.length cp] 75) := ⟨_, rfl⟩
  have kW1 : Below w.heap.size w W1 := by rw [hW1]; exact below_new _ _
  have iW1 : Blk W1 (w.heap.size) 75 [.slice a ls.length cp] := by rw [hW1]; exact Blk.new _ _ _
  have sW1 : W1.heap.size = w.heap.size + 1 := by rw [hW1]; simp
  rw [← hW1]
  clear hW1
  have i1 := iW1
  have hB := kW1
  clear iW1 kW1 sW1
  have a0 := i1.cell (j := 0) (v := .slice a ls.length cp) rfl
  go_wp2_with fail
  refine (TT.out W1 (HV.out.carry hB)).mono ?_
  rintro e w3 ⟨rfl, hb⟩
  have a0 := cellb a0 hb
  replace hB := bthen hB hb
  clear hb i1
  cases t
  · have TP2 := Lib.hid (TP.out w3 (HV.out.carry hB) (hS rfl))
    clear hS TP
    go_wp2_with fail
    refine TP2.out.mono ?_
    rintro e w4 ⟨rfl, hb⟩
    replace hB := bthen hB hb
    clear hb a0
    go_upto_region 4 with (refine wpList_storeA rfl _ _ _ rfl w4.heap.size [0, m] (List.replicate 2 0) rfl rfl (BlkI.new w4 86 (List.replicate 2 0)) rfl Tryz.infoGauss ?_)
    obtain ⟨W5, hW5⟩ : ∃ v, v = World.setRow (World.alloc w4 (Obj.cells #[.int .i64 0, .int .i64 0] 86)) w4.heap.size (ia ([0, m])) := ⟨_, rfl⟩
    have kW5 : Below w4.heap.size w4 W5 := by rw [hW5]; exact zrow_below _ _ _ _
    have iW5 : BlkI W5 w4.heap.size 86 ([0, m]) := by rw [hW5]; exact zrow_blk w4 _ (List.replicate 2 0) _
    rw [← hW5]
    clear hW5
    replace hB := bthen hB kW5
    have c0 : W5.cell? ⟨w4.heap.size, 0, none⟩ = some (.int .i64 0) := BlkI.cell iW5 (j := 0) (by simp)
    have c1 : W5.cell? ⟨w4.heap.size, 1, none⟩ = some (.int .i64 m) := BlkI.cell iW5 (j := 1) (by simp)
    clear iW5 kW5
    have TO2 := Lib.hid (TO.out W5 (HU.out.carry hB))
    go_wp2_with fail
    refine TO2.out.mono ?_
    rintro e w6 ⟨rfl, hb⟩
    go_wp2
    go_ret
    exact ⟨ret_bool HR.out.symm, bthen hB hb⟩
  · clear hS TP
    go_wp2
    go_ret
    exact ⟨ret_bool HR.out.symm, hB⟩

def meeE (ls l : List (Int × Int)) (h : Int) : Int := firstE [fltE ls, polE l, withinE h 1 12]
theorem meeE_zero {ls l : List (Int × Int)} {h : Int} (he : meeE ls l h = 0) : fltE ls = 0 ∧ polE l = 0 ∧ 1 ≤ h ∧ h ≤ 12 := by
  unfold meeE at he
  obtain ⟨h1, he⟩ := firstE_cons_ok he
  obtain ⟨h2, he⟩ := firstE_cons_ok he
  obtain ⟨h3, _⟩ := firstE_cons_ok he
  exact ⟨h1, h2, withinE_zero h3⟩
set_option maxRecDepth 100000 in
set_option maxHeartbeats 1000000 in
theorem checkMeeting_any (v u : Value) (ls l : List (Int × Int)) (h : Int) (w : World) (hv : Pairs w v ls) (hl : ls.length ≤ 1000000) (hu : Pairs w u l) (hlu : l.length ≤ 1000000) :
    Calls Tryz.prog 74 #[.agg #[v], u, .int .i64 h] w fun e w' => e = .returned (.int .i64 (meeE ls l h)) ∧ Below w.heap.size w w' := by
  have TC := Lib.hid (fun W hP => CheckFilter_any v ls W hP hl)
  have TP := Lib.hid (fun W hP => CheckPolygon_any u l W hP hlu)
  have TH := Lib.hid (fun W => checkOrder_any h W)
  rw [meeE]
  generalize fltE ls = e1 at TC ⊢
  generalize polE l = e2 at TP ⊢
  generalize withinE h 1 12 = e3 at TH ⊢
  have TF := Lib.hid (fun (u : Value) (W : World) (h : Ints W u [e1, e2, e3]) => firstH_any u [e1, e2, e3] W (by simp [maxLen]) h)
  generalize firstE [e1, e2, e3] = E at TF ⊢
  have HV := Lib.hid hv
  have HU := Lib.hid hu
  obtain ⟨a, cp, rfl, _, _⟩ := id hv
  obtain ⟨a2, cp2, rfl, _, _⟩ := id hu
  clear hv hu
  go_enter Tryz.func74, Tryz.ntmps74
  go_upto_region 1 with fail
  obtain ⟨W1, hW1⟩ : ∃ v, v = World.alloc w (Obj.cells #[.slice a ls.length cp] 75) := ⟨_, rfl⟩
  have kW1 : Below w.heap.size w W1 := by rw [hW1]; exact below_new _ _
  have iW1 : Blk W1 (w.heap.size) 75 [.slice a ls.length cp] := by rw [hW1]; exact Blk.new _ _ _
  have sW1 : W1.heap.size = w.heap.size + 1 := by rw [hW1]; simp
  rw [← hW1]
  clear hW1
  have a0 := iW1.cell (j := 0) (v := .slice a ls.length cp) rfl
  have hB := kW1
  clear iW1 kW1 sW1
  go_wp2_with fail
  refine (TC.out W1 (HV.out.carry hB)).mono ?_
  rintro e w3 ⟨rfl, hb⟩
  replace hB := bthen hB hb
  clear hb a0
  go_wp2_with fail
  refine (TP.out w3 (HU.out.carry hB)).mono ?_
  rintro e w4 ⟨rfl, hb⟩
  replace hB := bthen hB hb
  clear hb
  go_wp2_with fail
  refine (TH.out w4).mono ?_
  rintro e w' ⟨rfl, rfl⟩
  go_wp2_with fail
  obtain ⟨W4, hW4⟩ : ∃ v, v = World.alloc w4 (Obj.cells #[.int .i64 e1, .int .i64 e2, .int .i64 e3] 31) := ⟨_, rfl⟩
  have kW4 : Below w4.heap.size w4 W4 := by rw [hW4]; exact below_new _ _
  have iW4 : Blk W4 (w4.heap.size) 31 [.int .i64 e1, .int .i64 e2, .int .i64 e3] := by rw [hW4]; exact Blk.new _ _ _
  have sW4 : W4.heap.size = w4.heap.size + 1 := by rw [hW4]; simp
  rw [← hW4]
  clear hW4
  refine (TF.out _ W4 (BlkI.ints (l := [e1, e2, e3]) iW4 rfl)).mono ?_
  rintro e w' ⟨rfl, rfl⟩
  go_wp2_with fail
  go_ret
  exact ⟨rfl, bthen hB kW4⟩
set_option maxRecDepth 100000 in
set_option maxHeartbeats 1000000 in
theorem Meets_any (v u : Value) (ls l : List (Int × Int)) (h : Int) (w : World) (hv : Pairs w v ls) (hl : ls.length ≤ 1000000) (hu : Pairs w u l) (hlu : l.length ≤ 1000000) :
    Calls Tryz.prog 31 #[.agg #[v], u, .int .i64 h] w fun e w' => e = .returned (.tuple #[.bool (bOr (meeE ls l h) (meetB ls l h)), .int .i64 (meeE ls l h)]) ∧ Below w.heap.size w w' := by
  have hso : meeE ls l h = 0 → tunedB ls h = false → SusOk ls h := fun he ht => by
    obtain ⟨h1, _, h3⟩ := meeE_zero he
    exact susOk_of h1 (by omega) ht
  have TC := Lib.hid (fun W hP hQ => checkMeeting_any v u ls l h W hP hl hQ hlu)
  have TM := Lib.hid (fun (W : World) hP hQ (he : meeE ls l h = 0) => meets_any v u ls l h W hP hl hQ hlu (hso he))
  clear hso
  generalize meeE ls l h = E at TC TM ⊢
  generalize meetB ls l h = m at TM ⊢
  have HV := Lib.hid hv
  have HU := Lib.hid hu
  obtain ⟨a, cp, rfl, _, _⟩ := id hv
  obtain ⟨a2, cp2, rfl, _, _⟩ := id hu
  clear hv hu
  go_enter Tryz.func31, Tryz.ntmps31
  go_upto_region 1 with fail
  obtain ⟨W1, hW1⟩ : ∃ v, v = World.alloc w (Obj.cells #[.slice a ls.length cp] 75) := ⟨_, rfl⟩
  have kW1 : Below w.heap.size w W1 := by rw [hW1]; exact below_new _ _
  have iW1 : Blk W1 (w.heap.size) 75 [.slice a ls.length cp] := by rw [hW1]; exact Blk.new _ _ _
  have sW1 : W1.heap.size = w.heap.size + 1 := by rw [hW1]; simp
  rw [← hW1]
  clear hW1
  have a0 := iW1.cell (j := 0) (v := .slice a ls.length cp) rfl
  have hB := kW1
  clear iW1 kW1 sW1
  go_wp2_with fail
  refine (TC.out W1 (HV.out.carry hB) (HU.out.carry hB)).mono ?_
  rintro e w3 ⟨rfl, hb⟩
  have a0 := cellb a0 hb
  replace hB := bthen hB hb
  clear hb
  by_cases he : E = 0
  · subst he
    have TM2 := Lib.hid (TM.out w3 (HV.out.carry hB) (HU.out.carry hB) (by trivial))
    clear TM
    go_wp2_with fail
    refine TM2.out.mono ?_
    rintro e w6 ⟨rfl, hb⟩
    go_wp2
    go_ret2
    exact ⟨rfl, bthen hB hb⟩
  · have z : (E == 0) = false := by rw [beq_eq_false_iff_ne]; exact he
    have HNE := Lib.hid z
    go_wp2_with fail
    go_ret2
    exact ⟨by rw [bOr, HNE.out]; rfl, hB⟩
end

end Go.Proofs.YtfeajpkjjlddlaaGreatDoor

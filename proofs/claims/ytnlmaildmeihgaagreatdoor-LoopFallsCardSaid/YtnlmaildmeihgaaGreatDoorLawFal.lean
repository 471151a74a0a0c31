/- The law LoopFalls. -/
import Derived.Test.YtnlmaildmeihgaaGreatDoorPlainF
import Derived.Test.YtnlmaildmeihgaaGreatDoorAwakeE
namespace Go.Proofs.YtnlmaildmeihgaaGreatDoor
open Go.RowKit

/-- does a list hold a number? -/
def hasI (l : List Int) (n : Int) : Bool := l.contains n

set_option maxHeartbeats 400000 in
theorem HasInt_any (v : Value) (l : List Int) (n : Int) (w : World) (hl : l.length ≤ 1000000000) (hv : Ints w v l) :
    Calls Tryz.prog 62 #[v, .int .i64 n] w fun r w' => r = .returned (.bool (hasI l n)) ∧ w = w' := by
  obtain ⟨a, cap, rfl, hc, hv⟩ := hv
  rcases Nat.eq_zero_or_pos l.length with h0 | h0
  · obtain rfl : l = [] := List.length_eq_zero_iff.1 h0
    go_enter Tryz.func62, Tryz.ntmps62
    go_wp2
    go_loop [5] (fun i => i = .int .i64 0) (fun _ => 0)
    case atStart => rfl
    case round =>
      obtain rfl := hrel
      go_wp2
      go_ret
      exact ⟨rfl, rfl⟩
  · obtain ⟨b, off, rfl, hcs⟩ := hv h0
    clear hv
    go_enter Tryz.func62, Tryz.ntmps62
    go_wp2
    go_loop [5] (fun i => ∃ k : Nat, k ≤ l.length ∧ i = .int .i64 k ∧ hasI (l.take k) n = false) (fun i => l.length - (intOf i).toNat)
    case atStart => exact ⟨0, by omega, rfl, rfl⟩
    case round =>
      obtain ⟨k, hk, rfl, hf⟩ := hrel
      by_cases hlt : k < l.length
      · have hcell := hcs k hlt
        obtain ⟨x, hx⟩ : ∃ x, l[k]? = some x := ⟨_, List.getElem?_eq_getElem hlt⟩
        rw [hx] at hcell
        simp only [Option.getD_some] at hcell
        have HX := Lib.hid hx
        have HF := Lib.hid hf
        clear hcs hx hf
        by_cases hz : x = n
        · have HR := Lib.hid (show hasI l n = true by rw [hasI, List.contains_iff_mem, ← hz]; exact List.mem_of_getElem? HX.out)
          subst hz
          go_wp2
          go_ret
          exact ⟨by rw [HR.out]; rfl, rfl⟩
        · have HR := Lib.hid (show hasI (l.take (k + 1)) n = false by
            have := HF.out
            unfold hasI at this ⊢
            rw [List.take_add_one, HX.out]
            simp at this ⊢
            exact ⟨this, fun h => hz h.symm⟩)
          go_wp2
          go_round
          case rel => exact ⟨k + 1, by omega, by go_num, HR.out⟩
          case measure => simp [intOf]; omega
      · obtain rfl : k = l.length := by omega
        rw [List.take_length] at hf
        have HR := Lib.hid hf
        clear hf
        go_wp2
        go_ret
        exact ⟨by rw [HR.out]; rfl, rfl⟩

theorem upto_at2 (f : Nat → Int) {n k : Nat} (h : k < n) : (upto f n)[k]?.getD 0 = f k := by
  unfold upto; rw [List.getElem?_map, List.getElem?_range h]; rfl
theorem basinL_le (r : List Int) (phase : Int) : (basinL r phase r.length).length ≤ r.length := basinL_length _ _ _

set_option maxRecDepth 100000 in
set_option maxHeartbeats 8000000 in
theorem fal_law (n0 n1 n2 : Int) (vr : Value) (r : List Int) (w : World) (hq : Quarters w) (hpw : Pows w) (b0 : 0 ≤ n0 ∧ n0 ≤ 255) (b1 : 0 ≤ n1 ∧ n1 ≤ 255) (b2 : 0 ≤ n2 ∧ n2 ≤ 255) (hr : Ints w vr r) :
    Calls Tryz.prog 11 #[.agg #[.int .u8 n0, .int .u8 n1, .int .u8 n2], vr] w fun e w' => e = .returned (.bool true) ∧ Below w.heap.size w w' := by
  have HR := Lib.hid hr
  obtain ⟨xr, cr, rfl, _⟩ := id hr
  clear hr
  obtain ⟨i0, hi, hz0, hz1, hz2⟩ := info_parts Tryz.infoInt
  obtain ⟨N, hN⟩ : ∃ N : Nat, (1 + n0.tmod 24 : Int) = N := ⟨(1 + n0.tmod 24).toNat, by rw [Int.tmod_eq_emod_of_nonneg b0.1]; omega⟩
  have hN1 : 1 ≤ N := by rw [Int.tmod_eq_emod_of_nonneg b0.1] at hN; omega
  have hN2 : N ≤ 24 := by rw [Int.tmod_eq_emod_of_nonneg b0.1] at hN; omega
  have hNb : (0 : Int) ≤ n0.tmod 24 ∧ n0.tmod 24 ≤ 23 := by rw [Int.tmod_eq_emod_of_nonneg b0.1]; omega
  obtain ⟨P, hP⟩ : ∃ P : Int, P = n1.tmod N := ⟨_, rfl⟩
  have hPb : 0 ≤ P ∧ P < N := by rw [hP, Int.tmod_eq_emod_of_nonneg b1.1]; exact ⟨Int.emod_nonneg _ (by omega), Int.emod_lt_of_pos _ (by omega)⟩
  have hMb : (0 : Int) ≤ n2.tmod 64 ∧ n2.tmod 64 ≤ 63 := by rw [Int.tmod_eq_emod_of_nonneg b2.1]; omega
  obtain ⟨M, hM⟩ : ∃ M : Int, M = 1 + n2.tmod 64 := ⟨_, rfl⟩
  have hM1 : 1 ≤ M ∧ M ≤ 64 := by omega
  have c0 : IntKind.i64.wrap n0 = n0 := IntWalk.i64_in _ (by omega)
  have c1 : IntKind.i64.wrap n1 = n1 := IntWalk.i64_in _ (by omega)
  have c2 : IntKind.i64.wrap n2 = n2 := IntWalk.i64_in _ (by omega)
  have c3 : IntKind.i64.wrap (1 + n0.tmod 24) = N := by rw [← hN]; exact IntWalk.i64_in _ (by omega)
  have c4 : IntKind.i64.wrap (1 + n2.tmod 64) = M := by rw [hM]; exact IntWalk.i64_in _ (by omega)
  have c5 : n1.tmod N = P := hP.symm
  have z1 : ¬ N = 0 := by omega
  have HB1 := Lib.hid b1
  clear hN hP hM hNb hMb b0 b1 b2
  go_enter Tryz.func11, Tryz.ntmps11
  go_upto_region 1 with fail
  obtain ⟨W1, hW1⟩ : ∃ v, v = World.alloc w (Obj.cells #[.int .u8 n0, .int .u8 n1, .int .u8 n2] 108) := ⟨_, rfl⟩
  have kW1 : Below w.heap.size w W1 := by rw [hW1]; exact below_new _ _
  have iW1 : Blk W1 (w.heap.size) 108 [.int .u8 n0, .int .u8 n1, .int .u8 n2] := by rw [hW1]; exact Blk.new _ _ _
  have sW1 : W1.heap.size = w.heap.size + 1 := by rw [hW1]; simp
  rw [← hW1]
  clear hW1
  clear sW1
  have hB := kW1
  have iB := iW1
  clear kW1 iW1
  have e0 := iB.cell (j := 0) (v := .int .u8 n0) rfl
  have e1 := iB.cell (j := 1) (v := .int .u8 n1) rfl
  have e2 := iB.cell (j := 2) (v := .int .u8 n2) rfl
  go_wp2_with fail
  refine wp_region_held_drew (S := (fun w' => w'.cell? ⟨w.heap.size, 0, none⟩ = some (.int .u8 n0) ∧ w'.cell? ⟨w.heap.size, 1, none⟩ = some (.int .u8 n1) ∧ w'.cell? ⟨w.heap.size, 2, none⟩ = some (.int .u8 n2))) (by kernel_rfl) ?_ (fun hHeld0 => ?_)
  · (try dsimp only); go_keep
  refine wpAnyH_take (i := 0) (oi := { dst := some 28, op := Op.indexAddr 108 (Operand.tmp 2) (Operand.const (Value.int IntKind.i64 1)), type := 0, pos := "law.go:447", after := #[], guard := none }) (v := ?_) rfl (by kernel_rfl) (by kernel_rfl) (by kernel_rfl) (fun _ _ _ h => h) (Or.inl ⟨by rfl, ?_⟩) (by assumption) ?_
  rotate_left
  · (intro w hSw; (try dsimp only at hSw); go_simp); (try with_reducible rfl)
  try simp only [Act.put, List.setIfInBounds_toArray, List.set_cons_zero, List.set_cons_succ]
  refine wpAnyH_take (i := 1) (oi := { dst := some 29, op := Op.load 5 (Operand.tmp 28), type := 5, pos := "law.go:447", after := #[{ on := 0, ground := Ground.data }], guard := none }) (v := ?_) rfl (by kernel_rfl) (by kernel_rfl) (by kernel_rfl) (fun _ _ _ h => h) (Or.inl ⟨by rfl, ?_⟩) (by assumption) ?_
  rotate_left
  · (intro w hSw; (try dsimp only at hSw); go_simp); (try with_reducible rfl)
  try simp only [Act.put, List.setIfInBounds_toArray, List.set_cons_zero, List.set_cons_succ]
  refine wpAnyH_take (i := 2) (oi := { dst := some 30, op := Op.convert 5 3 (Operand.tmp 29), type := 3, pos := "law.go:447", after := #[{ on := 1, ground := Ground.data }], guard := none }) (v := ?_) rfl (by kernel_rfl) (by kernel_rfl) (by kernel_rfl) (fun _ _ _ h => h) (Or.inl ⟨by rfl, ?_⟩) (by assumption) ?_
  rotate_left
  · (intro w hSw; (try dsimp only at hSw); go_simp); (try with_reducible rfl)
  try simp only [Act.put, List.setIfInBounds_toArray, List.set_cons_zero, List.set_cons_succ]
  refine wpAnyH_take (i := 3) (oi := { dst := some 31, op := Op.move (Operand.tmp 5), type := 3, pos := "law.go:447", after := #[], guard := none }) (v := ?_) rfl (by kernel_rfl) (by kernel_rfl) (by kernel_rfl) (fun _ _ _ h => h) (Or.inl ⟨by rfl, ?_⟩) (by assumption) ?_
  rotate_left
  · (intro w hSw; (try dsimp only at hSw); go_simp); (try with_reducible rfl)
  try simp only [Act.put, List.setIfInBounds_toArray, List.set_cons_zero, List.set_cons_succ]
  refine wpAnyH_take (i := 4) (oi := { dst := some 32, op := Op.binOp BinOp.rem 3 (Operand.tmp 30) (Operand.tmp 31) 3, type := 3, pos := "law.go:447", after := #[{ on := 2, ground := Ground.data }, { on := 3, ground := Ground.data }], guard := none }) (v := ?_) rfl (by kernel_rfl) (by kernel_rfl) (by kernel_rfl) (fun _ _ _ h => h) (Or.inl ⟨by rfl, ?_⟩) (by assumption) ?_
  rotate_left
  · (intro w hSw; (try dsimp only at hSw); go_simp); (try with_reducible rfl)
  try simp only [Act.put, List.setIfInBounds_toArray, List.set_cons_zero, List.set_cons_succ]
  refine wpAnyH_take (i := 5) (oi := { dst := some 33, op := Op.indexAddr 108 (Operand.tmp 2) (Operand.const (Value.int IntKind.i64 2)), type := 0, pos := "law.go:447", after := #[{ on := 10, ground := Ground.gcOnly Departure.lateStores }], guard := none }) (v := ?_) rfl (by kernel_rfl) (by kernel_rfl) (by kernel_rfl) (fun _ _ _ h => h) (Or.inl ⟨by rfl, ?_⟩) (by assumption) ?_
  rotate_left
  · (intro w hSw; (try dsimp only at hSw); go_simp); (try with_reducible rfl)
  try simp only [Act.put, List.setIfInBounds_toArray, List.set_cons_zero, List.set_cons_succ]
  refine wpAnyH_take (i := 6) (oi := { dst := some 34, op := Op.load 5 (Operand.tmp 33), type := 5, pos := "law.go:447", after := #[{ on := 5, ground := Ground.data }, { on := 10, ground := Ground.gcOnly Departure.lateStores }], guard := none }) (v := ?_) rfl (by kernel_rfl) (by kernel_rfl) (by kernel_rfl) (fun _ _ _ h => h) (Or.inl ⟨by rfl, ?_⟩) (by assumption) ?_
  rotate_left
  · (intro w hSw; (try dsimp only at hSw); go_simp); (try with_reducible rfl)
  try simp only [Act.put, List.setIfInBounds_toArray, List.set_cons_zero, List.set_cons_succ]
  refine wpAnyH_take (i := 7) (oi := { dst := some 35, op := Op.convert 5 3 (Operand.tmp 34), type := 3, pos := "law.go:447", after := #[{ on := 6, ground := Ground.data }, { on := 10, ground := Ground.gcOnly Departure.lateStores }], guard := none }) (v := ?_) rfl (by kernel_rfl) (by kernel_rfl) (by kernel_rfl) (fun _ _ _ h => h) (Or.inl ⟨by rfl, ?_⟩) (by assumption) ?_
  rotate_left
  · (intro w hSw; (try dsimp only at hSw); go_simp); (try with_reducible rfl)
  try simp only [Act.put, List.setIfInBounds_toArray, List.set_cons_zero, List.set_cons_succ]
  refine wpAnyH_take (i := 8) (oi := { dst := some 36, op := Op.binOp BinOp.rem 3 (Operand.tmp 35) (Operand.const (Value.int IntKind.i64 64)) 3, type := 3, pos := "law.go:447", after := #[{ on := 7, ground := Ground.data }, { on := 10, ground := Ground.gcOnly Departure.lateStores }], guard := none }) (v := ?_) rfl (by kernel_rfl) (by kernel_rfl) (by kernel_rfl) (fun _ _ _ h => h) (Or.inl ⟨by rfl, ?_⟩) (by assumption) ?_
  rotate_left
  · (intro w hSw; (try dsimp only at hSw); go_simp); (try with_reducible rfl)
  try simp only [Act.put, List.setIfInBounds_toArray, List.set_cons_zero, List.set_cons_succ]
  refine wpAnyH_take (i := 9) (oi := { dst := some 37, op := Op.binOp BinOp.add 3 (Operand.const (Value.int IntKind.i64 1)) (Operand.tmp 36) 3, type := 3, pos := "law.go:447", after := #[{ on := 8, ground := Ground.data }, { on := 10, ground := Ground.gcOnly Departure.lateStores }], guard := none }) (v := ?_) rfl (by kernel_rfl) (by kernel_rfl) (by kernel_rfl) (fun _ _ _ h => h) (Or.inl ⟨by rfl, ?_⟩) (by assumption) ?_
  rotate_left
  · (intro w hSw; (try dsimp only at hSw); go_simp); (try with_reducible rfl)
  try simp only [Act.put, List.setIfInBounds_toArray, List.set_cons_zero, List.set_cons_succ]
  refine wpAnyH_take (i := 10) (oi := { dst := some 6, op := Op.assign (Operand.tmp 32), type := 3, pos := "law.go:447", after := #[{ on := 4, ground := Ground.data }, { on := 0, ground := Ground.phase }, { on := 1, ground := Ground.phase }, { on := 2, ground := Ground.phase }, { on := 3, ground := Ground.phase }, { on := 4, ground := Ground.phase }, { on := 5, ground := Ground.textOnly Departure.lateStores }, { on := 6, ground := Ground.textOnly Departure.lateStores }, { on := 7, ground := Ground.textOnly Departure.lateStores }, { on := 8, ground := Ground.textOnly Departure.lateStores }, { on := 9, ground := Ground.textOnly Departure.lateStores }], guard := none }) (v := ?_) rfl (by kernel_rfl) (by kernel_rfl) (by kernel_rfl) (fun _ _ _ h => h) (Or.inl ⟨by rfl, ?_⟩) (by assumption) ?_
  rotate_left
  · (intro w hSw; (try dsimp only at hSw); go_simp); (try with_reducible rfl)
  try simp only [Act.put, List.setIfInBounds_toArray, List.set_cons_zero, List.set_cons_succ]
  refine wpAnyH_take (i := 11) (oi := { dst := some 7, op := Op.assign (Operand.tmp 37), type := 3, pos := "law.go:447", after := #[{ on := 9, ground := Ground.data }, { on := 10, ground := Ground.chain }, { on := 0, ground := Ground.phase }, { on := 1, ground := Ground.phase }, { on := 2, ground := Ground.phase }, { on := 3, ground := Ground.phase }, { on := 4, ground := Ground.phase }, { on := 5, ground := Ground.phase }, { on := 6, ground := Ground.phase }, { on := 7, ground := Ground.phase }, { on := 8, ground := Ground.phase }, { on := 9, ground := Ground.phase }, { on := 10, ground := Ground.phase }], guard := none }) (v := ?_) rfl (by kernel_rfl) (by kernel_rfl) (by kernel_rfl) (fun _ _ _ h => h) (Or.inl ⟨by rfl, ?_⟩) (by assumption) ?_
  rotate_left
  · (intro w hSw; (try dsimp only at hSw); go_simp); (try with_reducible rfl)
  try simp only [Act.put, List.setIfInBounds_toArray, List.set_cons_zero, List.set_cons_succ]
  refine wpAnyH_done (by kernel_rfl) ?_ _
  clear hHeld0
  clear e0 e1 e2
  replace hB : Below w.heap.size w W1.drew := hB.drew
  replace iB := iB.carry (Below.refl _ _).drew
  obtain ⟨w1, hw1⟩ : ∃ v, v = W1.drew := ⟨_, rfl⟩
  rw [← hw1] at hB iB ⊢
  clear hw1
  obtain ⟨k1, k2, k3⟩ := made_ok (n := N) (phase := P) (most := M) (by omega) hPb hM1
  obtain ⟨k4, k5⟩ := made_basin (n := N) (phase := P) (most := M) (by omega) hPb hM1
  have k6 := made_proof (n := N) (phase := P) (most := M) (by omega) hPb hM1
  have k7 := fun (x : Int) hx => made_locks (n := N) (phase := P) (most := M) (x := x) (by omega) hPb hM1 hx
  have hRl : (madeL N P M).length = N := by rw [madeL_length]; omega
  have tm := Made_any N P M w1
  rw [k1, k2] at tm
  rw [Int.toNat_natCast] at k5 k6
  generalize madeL N P M = R at k3 k4 k5 k6 k7 hRl tm
  have HK3 := Lib.hid k3
  have HK4 := Lib.hid k4
  have HK5 := Lib.hid k5
  have HK6 := Lib.hid k6
  have HK7 := Lib.hid k7
  have HRL := Lib.hid hRl
  clear k1 k2 k3 k4 k5 k6 k7 hRl c0 c2 c3 c4 c5
  go_wp2_with fail
  refine tm.mono ?_
  clear tm
  rintro e w2 ⟨⟨um, rfl, hum⟩, hl⟩
  replace hB := bthen hB hl
  replace iB := iB.carry hl
  clear hl
  have d1 : (R.length : Int) = (N : Int) := by rw [HRL.out]
  obtain ⟨xm, cm, rfl, _⟩ := id hum
  rw [HRL.out] at hum ⊢
  go_wp2_with fail
  have tr := CheckRingR_any _ R w2 hum (by rw [HRL.out]; omega)
  rw [HK3.out] at tr
  refine tr.mono ?_
  clear tr
  rintro e w9 ⟨rfl, rfl⟩
  go_wp2_with fail
  refine (ringL_any _ R w2 hum (by rw [HRL.out]; omega)).mono ?_
  rintro e w3 ⟨⟨ug, rfl, hug⟩, hl⟩
  replace hB := bthen hB hl
  replace iB := iB.carry hl
  replace hum := hum.carry hl
  clear hl
  have tb := Basin_any ug R P w3 hug (by rw [HRL.out]; omega)
  rw [HK4.out, HK5.out] at tb
  go_wp2_with fail
  refine tb.mono ?_
  clear tb
  rintro e w4 ⟨⟨ua, rfl, hua⟩, hl⟩
  replace hB := bthen hB hl
  replace iB := iB.carry hl
  replace hum := hum.carry hl
  clear hl hug
  have hul : (upto (fun j => (j : Int)) N).length = N := upto_length _ _
  obtain ⟨xa, ca, rfl, _⟩ := id hua
  have HUL := Lib.hid hul
  have hca : ∀ j, j < N → ∃ ba oa, xa = some ⟨ba, oa, none⟩ ∧ w4.cell? ⟨ba, oa + j, none⟩ = some (.int .i64 (j : Int)) := fun j hj => by
    obtain ⟨a', cp', he, _, h⟩ := hua
    cases he
    obtain ⟨b, off, rfl, hc⟩ := h (by rw [HUL.out]; omega)
    refine ⟨b, off, rfl, ?_⟩
    have := hc j (by rw [HUL.out]; exact hj)
    rw [upto_at2 _ hj] at this
    exact this
  rw [hul] at hua ⊢
  have HCA := Lib.hid hca
  clear hul hca d1
  go_wp2_with fail
  obtain ⟨wo, rfl⟩ : ∃ v, v = w4 := ⟨_, rfl⟩
  go_loopw [12, 74] (fun v12 v74 wr => ∃ i : Nat, i ≤ N ∧ v74 = .int .i64 i ∧ OwnI 3 wo.heap.size wr v12 (madeN N P M i) ∧ Below wo.heap.size wo wr) (fun _ v74 _ => N - (intOf v74).toNat)
  case atStart => exact ⟨0, Nat.zero_le _, rfl, World.ownsRow_nil _ _ _ _, Below.refl _ _⟩
  case round =>
    obtain ⟨i, hiN, rfl, hown, hbr⟩ := hrel
    by_cases hlt : i < N
    · have hlt' : (i : Int) < (N : Int) := by omega
      obtain ⟨up, hup⟩ : ∃ u, u = (P - i + N) % (N : Int) := ⟨_, rfl⟩
      obtain ⟨dn, hdn⟩ : ∃ u, u = ((i : Int) - P + N) % (N : Int) := ⟨_, rfl⟩
      have hu1 : 0 ≤ up ∧ up < N := by rw [hup]; exact ⟨Int.emod_nonneg _ (by omega), Int.emod_lt_of_pos _ (by omega)⟩
      have hd1 : 0 ≤ dn ∧ dn < N := by rw [hdn]; exact ⟨Int.emod_nonneg _ (by omega), Int.emod_lt_of_pos _ (by omega)⟩
      have e1 : IntKind.i64.wrap (P - (i : Int)) = P - i := IntWalk.i64_in _ (by omega)
      have e2 : IntKind.i64.wrap (P - (i : Int) + N) = P - i + N := IntWalk.i64_in _ (by omega)
      have e3 : IntKind.i64.wrap ((i : Int) - P) = i - P := IntWalk.i64_in _ (by omega)
      have e4 : IntKind.i64.wrap ((i : Int) - P + N) = i - P + N := IntWalk.i64_in _ (by omega)
      have t1 : (P - (i : Int) + N).tmod N = up := by rw [hup, Int.tmod_eq_emod_of_nonneg (by omega)]
      have t2 : ((i : Int) - P + N).tmod N = dn := by rw [hdn, Int.tmod_eq_emod_of_nonneg (by omega)]
      have hway : wayI N P i = min up dn := by rw [hup, hdn]; rfl
      obtain ⟨l1, l2⟩ := HK7.out (i : Int) (by omega)
      rw [hway] at l2
      have hcd : (((cdiv (min up dn).toNat M.toNat : Nat) : Nat) : Int) = (min up dn + M - 1).tdiv M := by
        rw [Int.tdiv_eq_ediv_of_nonneg (by omega), cdiv, Int.natCast_ediv]
        congr 1
        · omega
        · omega
      have hcl := cdiv_le (m := M.toNat) (by omega) (min up dn).toNat
      obtain ⟨K, hK⟩ : ∃ K : Int, K = ((cdiv (min up dn).toNat M.toNat : Nat) : Int) := ⟨_, rfl⟩
      have hKb : 0 ≤ K ∧ K ≤ 24 := by omega
      have hKd : (min up dn + M - 1).tdiv M = K := by rw [hK, hcd]
      have hsn : madeN N P M (i + 1) = madeN N P M i ++ [K] := by rw [madeN, upto_succ, hway, ← hK]; rfl
      have hMl : (madeN N P M i).length = i := upto_length _ _
      rw [← hK] at l2
      have hKe : (min up dn + M - 1) / M = K := by rw [← hKd, Int.tdiv_eq_ediv_of_nonneg (by omega)]
      have f1 : IntKind.i64.wrap (min up dn + M) = min up dn + M := IntWalk.i64_in _ (by omega)
      have f2 : IntKind.i64.wrap (min up dn + M - 1) = min up dn + M - 1 := IntWalk.i64_in _ (by omega)
      have z2 : ¬ M = 0 := by omega
      have tl := fun (u : Value) (W : World) (h : Ints W u R) => Locks_any u R i P W h (by rw [HRL.out]; omega)
      rw [l1, l2] at tl
      have TL := Lib.hid tl
      have HSN := Lib.hid hsn
      have HML := Lib.hid hMl
      have humr := hum.carry hbr
      obtain ⟨ba, oa, rfl, cA⟩ := HCA.out i hlt
      generalize madeN N P M i = L at hown HSN HML
      clear hup hdn hway l1 l2 hcd hcl hK tl hsn hMl
      go_wp2_with fail
      refine wp_region_held_drew (S := (fun _ => True)) (by kernel_rfl) ?_ (fun hHeld0 => ?_)
      · (try dsimp only); (first | done | trivial)
      refine wpAnyH_take (i := 0) (oi := { dst := some 77, op := Op.move (Operand.tmp 6), type := 3, pos := "law.go:458", after := #[], guard := none }) (v := ?_) rfl (by kernel_rfl) (by kernel_rfl) (by kernel_rfl) (fun _ _ _ h => h) (Or.inl ⟨by rfl, ?_⟩) (by assumption) ?_
      rotate_left
      · (intro w hSw; (try dsimp only at hSw); go_simp); (try with_reducible rfl)
      try simp only [Act.put, List.setIfInBounds_toArray, List.set_cons_zero, List.set_cons_succ]
      refine wpAnyH_take (i := 1) (oi := { dst := some 78, op := Op.move (Operand.tmp 13), type := 3, pos := "law.go:458", after := #[], guard := none }) (v := ?_) rfl (by kernel_rfl) (by kernel_rfl) (by kernel_rfl) (fun _ _ _ h => h) (Or.inl ⟨by rfl, ?_⟩) (by assumption) ?_
      rotate_left
      · (intro w hSw; (try dsimp only at hSw); go_simp); (try with_reducible rfl)
      try simp only [Act.put, List.setIfInBounds_toArray, List.set_cons_zero, List.set_cons_succ]
      refine wpAnyH_take (i := 2) (oi := { dst := some 79, op := Op.binOp BinOp.sub 3 (Operand.tmp 77) (Operand.tmp 78) 3, type := 3, pos := "law.go:458", after := #[{ on := 0, ground := Ground.data }, { on := 1, ground := Ground.data }], guard := none }) (v := ?_) rfl (by kernel_rfl) (by kernel_rfl) (by kernel_rfl) (fun _ _ _ h => h) (Or.inl ⟨by rfl, ?_⟩) (by assumption) ?_
      rotate_left
      · (intro w hSw; (try dsimp only at hSw); go_simp); (try with_reducible rfl)
      try simp only [Act.put, List.setIfInBounds_toArray, List.set_cons_zero, List.set_cons_succ]
      refine wpAnyH_take (i := 3) (oi := { dst := some 80, op := Op.move (Operand.tmp 5), type := 3, pos := "law.go:458", after := #[], guard := none }) (v := ?_) rfl (by kernel_rfl) (by kernel_rfl) (by kernel_rfl) (fun _ _ _ h => h) (Or.inl ⟨by rfl, ?_⟩) (by assumption) ?_
      rotate_left
      · (intro w hSw; (try dsimp only at hSw); go_simp); (try with_reducible rfl)
      try simp only [Act.put, List.setIfInBounds_toArray, List.set_cons_zero, List.set_cons_succ]
      refine wpAnyH_take (i := 4) (oi := { dst := some 81, op := Op.binOp BinOp.add 3 (Operand.tmp 79) (Operand.tmp 80) 3, type := 3, pos := "law.go:458", after := #[{ on := 2, ground := Ground.data }, { on := 3, ground := Ground.data }], guard := none }) (v := ?_) rfl (by kernel_rfl) (by kernel_rfl) (by kernel_rfl) (fun _ _ _ h => h) (Or.inl ⟨by rfl, ?_⟩) (by assumption) ?_
      rotate_left
      · (intro w hSw; (try dsimp only at hSw); go_simp); (try with_reducible rfl)
      try simp only [Act.put, List.setIfInBounds_toArray, List.set_cons_zero, List.set_cons_succ]
      refine wpAnyH_take (i := 5) (oi := { dst := some 82, op := Op.move (Operand.tmp 5), type := 3, pos := "law.go:458", after := #[], guard := none }) (v := ?_) rfl (by kernel_rfl) (by kernel_rfl) (by kernel_rfl) (fun _ _ _ h => h) (Or.inl ⟨by rfl, ?_⟩) (by assumption) ?_
      rotate_left
      · (intro w hSw; (try dsimp only at hSw); go_simp); (try with_reducible rfl)
      try simp only [Act.put, List.setIfInBounds_toArray, List.set_cons_zero, List.set_cons_succ]
      refine wpAnyH_take (i := 6) (oi := { dst := some 83, op := Op.binOp BinOp.rem 3 (Operand.tmp 81) (Operand.tmp 82) 3, type := 3, pos := "law.go:458", after := #[{ on := 4, ground := Ground.data }, { on := 5, ground := Ground.data }], guard := none }) (v := ?_) rfl (by kernel_rfl) (by kernel_rfl) (by kernel_rfl) (fun _ _ _ h => h) (Or.inl ⟨by rfl, ?_⟩) (by assumption) ?_
      rotate_left
      · (intro w hSw; (try dsimp only at hSw); go_simp); (try with_reducible rfl)
      try simp only [Act.put, List.setIfInBounds_toArray, List.set_cons_zero, List.set_cons_succ]
      refine wpAnyH_take (i := 7) (oi := { dst := some 84, op := Op.move (Operand.tmp 13), type := 3, pos := "law.go:458", after := #[{ on := 14, ground := Ground.gcOnly Departure.lateStores }], guard := none }) (v := ?_) rfl (by kernel_rfl) (by kernel_rfl) (by kernel_rfl) (fun _ _ _ h => h) (Or.inl ⟨by rfl, ?_⟩) (by assumption) ?_
      rotate_left
      · (intro w hSw; (try dsimp only at hSw); go_simp); (try with_reducible rfl)
      try simp only [Act.put, List.setIfInBounds_toArray, List.set_cons_zero, List.set_cons_succ]
      refine wpAnyH_take (i := 8) (oi := { dst := some 85, op := Op.move (Operand.tmp 6), type := 3, pos := "law.go:458", after := #[{ on := 14, ground := Ground.gcOnly Departure.lateStores }], guard := none }) (v := ?_) rfl (by kernel_rfl) (by kernel_rfl) (by kernel_rfl) (fun _ _ _ h => h) (Or.inl ⟨by rfl, ?_⟩) (by assumption) ?_
      rotate_left
      · (intro w hSw; (try dsimp only at hSw); go_simp); (try with_reducible rfl)
      try simp only [Act.put, List.setIfInBounds_toArray, List.set_cons_zero, List.set_cons_succ]
      refine wpAnyH_take (i := 9) (oi := { dst := some 86, op := Op.binOp BinOp.sub 3 (Operand.tmp 84) (Operand.tmp 85) 3, type := 3, pos := "law.go:458", after := #[{ on := 7, ground := Ground.data }, { on := 8, ground := Ground.data }, { on := 14, ground := Ground.gcOnly Departure.lateStores }], guard := none }) (v := ?_) rfl (by kernel_rfl) (by kernel_rfl) (by kernel_rfl) (fun _ _ _ h => h) (Or.inl ⟨by rfl, ?_⟩) (by assumption) ?_
      rotate_left
      · (intro w hSw; (try dsimp only at hSw); go_simp); (try with_reducible rfl)
      try simp only [Act.put, List.setIfInBounds_toArray, List.set_cons_zero, List.set_cons_succ]
      refine wpAnyH_take (i := 10) (oi := { dst := some 87, op := Op.move (Operand.tmp 5), type := 3, pos := "law.go:458", after := #[{ on := 14, ground := Ground.gcOnly Departure.lateStores }], guard := none }) (v := ?_) rfl (by kernel_rfl) (by kernel_rfl) (by kernel_rfl) (fun _ _ _ h => h) (Or.inl ⟨by rfl, ?_⟩) (by assumption) ?_
      rotate_left
      · (intro w hSw; (try dsimp only at hSw); go_simp); (try with_reducible rfl)
      try simp only [Act.put, List.setIfInBounds_toArray, List.set_cons_zero, List.set_cons_succ]
      refine wpAnyH_take (i := 11) (oi := { dst := some 88, op := Op.binOp BinOp.add 3 (Operand.tmp 86) (Operand.tmp 87) 3, type := 3, pos := "law.go:458", after := #[{ on := 9, ground := Ground.data }, { on := 10, ground := Ground.data }, { on := 14, ground := Ground.gcOnly Departure.lateStores }], guard := none }) (v := ?_) rfl (by kernel_rfl) (by kernel_rfl) (by kernel_rfl) (fun _ _ _ h => h) (Or.inl ⟨by rfl, ?_⟩) (by assumption) ?_
      rotate_left
      · (intro w hSw; (try dsimp only at hSw); go_simp); (try with_reducible rfl)
      try simp only [Act.put, List.setIfInBounds_toArray, List.set_cons_zero, List.set_cons_succ]
      refine wpAnyH_take (i := 12) (oi := { dst := some 89, op := Op.move (Operand.tmp 5), type := 3, pos := "law.go:458", after := #[{ on := 14, ground := Ground.gcOnly Departure.lateStores }], guard := none }) (v := ?_) rfl (by kernel_rfl) (by kernel_rfl) (by kernel_rfl) (fun _ _ _ h => h) (Or.inl ⟨by rfl, ?_⟩) (by assumption) ?_
      rotate_left
      · (intro w hSw; (try dsimp only at hSw); go_simp); (try with_reducible rfl)
      try simp only [Act.put, List.setIfInBounds_toArray, List.set_cons_zero, List.set_cons_succ]
      refine wpAnyH_take (i := 13) (oi := { dst := some 90, op := Op.binOp BinOp.rem 3 (Operand.tmp 88) (Operand.tmp 89) 3, type := 3, pos := "law.go:458", after := #[{ on := 11, ground := Ground.data }, { on := 12, ground := Ground.data }, { on := 14, ground := Ground.gcOnly Departure.lateStores }], guard := none }) (v := ?_) rfl (by kernel_rfl) (by kernel_rfl) (by kernel_rfl) (fun _ _ _ h => h) (Or.inl ⟨by rfl, ?_⟩) (by assumption) ?_
      rotate_left
      · (intro w hSw; (try dsimp only at hSw); go_simp); (try with_reducible rfl)
      try simp only [Act.put, List.setIfInBounds_toArray, List.set_cons_zero, List.set_cons_succ]
      refine wpAnyH_take (i := 14) (oi := { dst := some 14, op := Op.assign (Operand.tmp 83), type := 3, pos := "law.go:458", after := #[{ on := 6, ground := Ground.data }, { on := 0, ground := Ground.phase }, { on := 1, ground := Ground.phase }, { on := 2, ground := Ground.phase }, { on := 3, ground := Ground.phase }, { on := 4, ground := Ground.phase }, { on := 5, ground := Ground.phase }, { on := 6, ground := Ground.phase }, { on := 7, ground := Ground.textOnly Departure.lateStores }, { on := 8, ground := Ground.textOnly Departure.lateStores }, { on := 9, ground := Ground.textOnly Departure.lateStores }, { on := 10, ground := Ground.textOnly Departure.lateStores }, { on := 11, ground := Ground.textOnly Departure.lateStores }, { on := 12, ground := Ground.textOnly Departure.lateStores }, { on := 13, ground := Ground.textOnly Departure.lateStores }], guard := none }) (v := ?_) rfl (by kernel_rfl) (by kernel_rfl) (by kernel_rfl) (fun _ _ _ h => h) (Or.inl ⟨by rfl, ?_⟩) (by assumption) ?_
      rotate_left
      · (intro w hSw; (try dsimp only at hSw); go_simp); (try with_reducible rfl)
      try simp only [Act.put, List.setIfInBounds_toArray, List.set_cons_zero, List.set_cons_succ]
      refine wpAnyH_take (i := 15) (oi := { dst := some 15, op := Op.assign (Operand.tmp 90), type := 3, pos := "law.go:458", after := #[{ on := 13, ground := Ground.data }, { on := 14, ground := Ground.chain }, { on := 0, ground := Ground.phase }, { on := 1, ground := Ground.phase }, { on := 2, ground := Ground.phase }, { on := 3, ground := Ground.phase }, { on := 4, ground := Ground.phase }, { on := 5, ground := Ground.phase }, { on := 6, ground := Ground.phase }, { on := 7, ground := Ground.phase }, { on := 8, ground := Ground.phase }, { on := 9, ground := Ground.phase }, { on := 10, ground := Ground.phase }, { on := 11, ground := Ground.phase }, { on := 12, ground := Ground.phase }, { on := 13, ground := Ground.phase }, { on := 14, ground := Ground.phase }], guard := none }) (v := ?_) rfl (by kernel_rfl) (by kernel_rfl) (by kernel_rfl) (fun _ _ _ h => h) (Or.inl ⟨by rfl, ?_⟩) (by assumption) ?_
      rotate_left
      · (intro w hSw; (try dsimp only at hSw); go_simp); (try with_reducible rfl)
      try simp only [Act.put, List.setIfInBounds_toArray, List.set_cons_zero, List.set_cons_succ]
      refine wpAnyH_done (by kernel_rfl) ?_ _
      clear hHeld0
      clear e1 e2 e3 e4 t1 t2
      replace hbr : Below wo.heap.size wo wr.drew := hbr.drew
      replace humr := humr.carry (Below.refl _ _).drew
      replace hown := hown.carry (Below.refl _ _).drew
      obtain ⟨ws, hws⟩ : ∃ v, v = wr.drew := ⟨_, rfl⟩
      rw [← hws] at hbr humr hown ⊢
      clear hws
      go_wp2_with fail
      refine (ringL_any _ R ws humr (by rw [HRL.out]; omega)).mono ?_
      rintro e w5 ⟨⟨ug, rfl, hug⟩, hl⟩
      replace hbr := bthen hbr hl
      replace hown := hown.carry hl
      clear hl humr
      go_wp2_with fail
      refine (TL.out ug w5 hug).mono ?_
      rintro e w6 ⟨rfl, hl⟩
      replace hbr := bthen hbr hl
      replace hown := hown.carry hl
      clear hl hug
      have cA := cellb cA hbr
      have hsz := hbr.size
      go_wp2_with (at_builtin; refine wpList_append_own _ rfl _ _ 22 rfl wo.heap.size 3 i0 (.int .i64 0) 1 8 Tryz.underlying22 hi hz0 hz1 hz2 rfl (by decide) _ _ _ rfl (hown.alloc _) ⟨w6.heap.size, 0, none⟩ 1 1 [.int .i64 K] rfl rfl (cell_one_new _ _ _) (by simp [Value.oneCell']) (by unfold maxLen; have := HML.out; omega) (by have := HML.out; omega) (by simp; omega) ?_; intro v' w7 hown7 hgrow7 _)
      have hb7 := below_own hbr hown hgrow7
      have hn7 : OwnI 3 wo.heap.size w7 v' (madeN N P M (i + 1)) := by
        rw [HSN.out]; unfold OwnI; rw [List.length_append, List.map_append]; exact hown7
      clear hown hown7 hgrow7 cA
      go_wp2
      go_roundw
      case rel => exact ⟨i + 1, by omega, by go_num, hn7, hb7⟩
      case measure => simp [intOf]; omega
    · obtain rfl : i = N := by omega
      have hns := hown.ints
      have hMl : (madeN i P M i).length = i := upto_length _ _
      have HCK := HK6.out
      generalize madeN i P M i = L at hns hMl HCK
      have HML := Lib.hid hMl
      have HCK := Lib.hid HCK
      replace hB := bthen hB hbr
      replace iB := iB.carry hbr
      replace hum := hum.carry hbr
      clear hown hbr hMl hua HCA HUL HK6 HK7
      obtain ⟨xn, cn, rfl, _⟩ := id hns
      obtain ⟨w4, rfl⟩ : ∃ v, v = wr := ⟨_, rfl⟩
      go_wp2_with fail
      refine (ringL_any _ R w4 hum (by rw [HRL.out]; omega)).mono ?_
      rintro e w5 ⟨⟨ug, rfl, hug⟩, hl⟩
      replace hB := bthen hB hl
      replace iB := iB.carry hl
      replace hns := hns.carry hl
      clear hl hum
      have tc := CheckBasin_any ug _ R L P w5 hug hns (by rw [HRL.out]; omega) (by rw [HML.out]; omega)
      rw [HCK.out] at tc
      go_wp2_with fail
      refine tc.mono ?_
      clear tc
      rintro e w6 ⟨rfl, hl⟩
      replace hB := bthen hB hl
      replace iB := iB.carry hl
      clear hl hug hns
      by_cases h0 : r.length = 0
      · obtain rfl : r = [] := List.length_eq_zero_iff.1 h0
        go_wp2_with fail
        refine (awake_any w6 (hq.below hB hq.size) (hpw.below hB)).mono ?_
        rintro e w7 ⟨rfl, hl⟩
        go_wp2
        go_ret
        exact ⟨rfl, bthen hB hl⟩
      · have d0 : ¬ (r.length : Int) = 0 := by omega
        by_cases h24 : 24 < r.length
        · have d1 : (24 : Int) < (r.length : Int) := by omega
          go_wp2_with fail
          refine (awake_any w6 (hq.below hB hq.size) (hpw.below hB)).mono ?_
          rintro e w7 ⟨rfl, hl⟩
          go_wp2
          go_ret
          exact ⟨rfl, bthen hB hl⟩
        · have d1 : ¬ (24 : Int) < (r.length : Int) := by omega
          have hr := HR.out.carry hB
          go_wp2_with fail
          refine (CheckRingR_any _ r w6 hr (by omega)).mono ?_
          rintro e w9 ⟨rfl, rfl⟩
          by_cases hck : checkRingE r = 0
          · obtain ⟨r1, r64, hrp⟩ := checkRingE_ok hck
            obtain ⟨T, hT⟩ : ∃ T : Int, T = n1.tmod r.length := ⟨_, rfl⟩
            have hTb : 0 ≤ T ∧ T < r.length := by rw [hT, Int.tmod_eq_emod_of_nonneg HB1.out.1]; exact ⟨Int.emod_nonneg _ (by omega), Int.emod_lt_of_pos _ (by omega)⟩
            have c6 : n1.tmod r.length = T := hT.symm
            have hb1 : basin1E r T = 0 := by rw [basin1E, hck, phase_zero hTb]; rfl
            have hbr : basinR r T = basinL r T r.length := by rw [basinR, if_neg (by rw [hb1]; simp)]
            have hbn := fun i hi => basin_next (phase := T) hrp hTb i hi
            have hbs := basin_self (r := r) hTb
            have hbl := basinL_le r T
            have tb := fun (u : Value) (W : World) (h : Ints W u r) => Basin_any u r T W h (by omega)
            rw [hb1, hbr] at tb
            have TB := Lib.hid tb
            rw [hck]
            generalize basinL r T r.length = B at hbn hbs hbl TB
            have HBN := Lib.hid hbn
            have HBS := Lib.hid hbs
            have z5 : ¬ r.length = 0 := h0
            have z9 : ((r.length : Int) == 0) = false := by rw [beq_eq_false_iff_ne]; exact d0
            have z10 : decide ((24 : Int) < (r.length : Int)) = false := decide_eq_false (by omega)
            have e1 := iB.cell (j := 1) (v := .int .u8 n1) rfl
            clear hck hT hb1 hbr hbn hbs tb hrp
            go_wp2_with fail
            refine (ringL_any _ r w6 hr (by omega)).mono ?_
            rintro e w7 ⟨⟨ug, rfl, hug⟩, hl⟩
            replace hB := bthen hB hl
            replace hr := hr.carry hl
            clear hl iB e1 c6
            go_wp2_with fail
            refine (TB.out ug w7 hug).mono ?_
            rintro e w8 ⟨⟨ub, rfl, hub⟩, hl⟩
            replace hB := bthen hB hl
            replace hr := hr.carry hl
            clear hl hug
            obtain ⟨xb, cb, rfl, _⟩ := id hub
            have d2 : ¬ (r.length : Int) < (B.length : Int) := by omega
            have z11 : decide (r.length < B.length) = false := decide_eq_false (by omega)
            have HBL := Lib.hid hbl
            clear hbl
            obtain ⟨ba, oa, ca', hxe, hcs⟩ := hr.head (by omega)
            cases hxe
            have HCS := Lib.hid hcs
            have HUB := Lib.hid hub
            clear hcs hub hr
            go_wp2_with fail
            go_loopw [170] (fun v170 wr => ∃ i : Nat, i ≤ r.length ∧ v170 = .int .i64 i ∧ Below w8.heap.size w8 wr) (fun v170 _ => r.length - (intOf v170).toNat)
            case atStart => exact ⟨0, Nat.zero_le _, rfl, Below.refl _ _⟩
            case round =>
              obtain ⟨i, hi, rfl, hbr⟩ := hrel
              by_cases hlt : i < r.length
              · have hlt' : (i : Int) < (r.length : Int) := by omega
                have hn := HBN.out i hlt
                have cA := cellb (HCS.out i hlt) hbr
                rw [show B.contains (i : Int) = hasI B i from rfl, show B.contains (r[i]?.getD 0) = hasI B (r[i]?.getD 0) from rfl] at hn
                generalize r[i]?.getD 0 = nx at hn cA
                have th := fun n => HasInt_any _ B n wr (by have := HBL.out; omega) (HUB.out.carry hbr)
                by_cases hiT : (i : Int) = T
                · have h1 : hasI B (i : Int) = true := by rw [hn, decide_eq_true hiT]; rfl
                  have ti := th (i : Int)
                  rw [h1] at ti
                  have z6 : decide ((i : Int) = T) = true := decide_eq_true hiT
                  have z7 : ((i : Int) == T) = true := by rw [beq_iff_eq]; exact hiT
                  have TI := Lib.hid ti
                  clear hn h1 th ti hiT
                  go_wp2_with fail
                  refine TI.out.mono ?_
                  rintro e w9 ⟨rfl, rfl⟩
                  go_wp2_with fail
                  go_roundw
                  case rel => exact ⟨i + 1, by omega, by go_num, hbr⟩
                  case measure => simp [intOf]; omega
                · have z6 : decide ((i : Int) = T) = false := decide_eq_false hiT
                  have z7 : ((i : Int) == T) = false := by rw [beq_eq_false_iff_ne]; exact hiT
                  rw [z6, Bool.false_or] at hn
                  have ti := th (i : Int)
                  rw [hn] at ti
                  have tn := th nx
                  generalize hasI B nx = bb at ti tn
                  have TI := Lib.hid ti
                  have TN := Lib.hid tn
                  have z8 : (bb != bb) = false := by simp
                  clear hn th ti tn hiT
                  go_wp2_with fail
                  refine TI.out.mono ?_
                  rintro e w9 ⟨rfl, rfl⟩
                  go_wp2_with fail
                  refine TN.out.mono ?_
                  rintro e w9 ⟨rfl, rfl⟩
                  go_wp2_with fail
                  go_roundw
                  case rel => exact ⟨i + 1, by omega, by go_num, hbr⟩
                  case measure => simp [intOf]; omega
              · obtain rfl : i = r.length := by omega
                have ts := HasInt_any _ B T wr (by have := HBL.out; omega) (HUB.out.carry hbr)
                rw [show hasI B T = true from HBS.out] at ts
                have TS := Lib.hid ts
                clear ts
                go_wp2_with fail
                refine TS.out.mono ?_
                rintro e w9 ⟨rfl, rfl⟩
                go_wp2_with fail
                replace hB := bthen hB hbr
                refine (awake_any wr (hq.below hB hq.size) (hpw.below hB)).mono ?_
                rintro e w9 ⟨rfl, hl⟩
                go_wp2
                go_ret
                exact ⟨rfl, bthen hB hl⟩
          · generalize checkRingE r = ce at hck ⊢
            have z3 : (ce != 0) = true := by simpa using hck
            have z4 : (ce == 0) = false := by simpa using hck
            have z9 : ((r.length : Int) == 0) = false := by rw [beq_eq_false_iff_ne]; exact d0
            have z10 : decide ((24 : Int) < (r.length : Int)) = false := decide_eq_false (by omega)
            go_wp2_with fail
            refine (awake_any w6 (hq.below hB hq.size) (hpw.below hB)).mono ?_
            rintro e w7 ⟨rfl, hl⟩
            go_wp2
            go_ret
            exact ⟨rfl, bthen hB hl⟩

end Go.Proofs.YtnlmaildmeihgaaGreatDoor

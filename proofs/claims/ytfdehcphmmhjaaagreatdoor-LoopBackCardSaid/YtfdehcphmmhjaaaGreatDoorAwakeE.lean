/- The law's and the reference's helpers: lists that are compared, converted, and the loop of the examples. -/
import Derived.Test.YtfdehcphmmhjaaaGreatDoorPrintC
namespace Go.Proofs.YtfdehcphmmhjaaaGreatDoor
open Go.RowKit

set_option maxHeartbeats 1000000 in
theorem SameInts_any (va vb : Value) (a b : List Int) (w : World) (ha : Ints w va a) (hb : Ints w vb b) (hl : a.length ≤ 1000000000) :
    Calls Tryz.prog 25 #[va, vb] w fun e w' => e = .returned (.bool (decide (a = b))) ∧ Below w.heap.size w w' := by
  obtain ⟨xa, ca, rfl, _, hca⟩ := ha
  obtain ⟨xb, cb, rfl, _, hcb⟩ := hb
  by_cases hlen : a.length = b.length
  · have hb0 : ((a.length : Int) != (b.length : Int)) = false := by rw [bne_eq_false_iff_eq]; omega
    rw [hlen] at hb0 hl hca ⊢
    have HL := Lib.hid hlen
    clear hlen hb0
    go_enter Tryz.func25, Tryz.ntmps25
    go_wp2
    go_loopw [5] (fun i wr => ∃ k : Nat, k ≤ b.length ∧ i = .int .i64 k ∧ a.take k = b.take k ∧ Below w.heap.size w wr) (fun i _ => b.length - (intOf i).toNat)
    case atStart => exact ⟨0, by omega, rfl, rfl, Below.refl _ _⟩
    case round =>
      obtain ⟨k, hk, rfl, hab, hbr⟩ := hrel
      have HAB := Lib.hid hab
      clear hab
      by_cases hlt : k < b.length
      · obtain ⟨ba, oa, rfl, hda⟩ := hca (by omega)
        obtain ⟨bb, ob, rfl, hdb⟩ := hcb (by omega)
        have c0 := cellb (hda k hlt) hbr
        have c1 := cellb (hdb k hlt) hbr
        obtain ⟨x, hx⟩ : ∃ x, a[k]? = some x := ⟨_, List.getElem?_eq_getElem (by rw [HL.out]; exact hlt)⟩
        obtain ⟨y, hy⟩ : ∃ y, b[k]? = some y := ⟨_, List.getElem?_eq_getElem hlt⟩
        rw [hx] at c0
        rw [hy] at c1
        simp only [Option.getD_some] at c0 c1
        have HX := Lib.hid hx
        have HY := Lib.hid hy
        have e1 : (k : Int) < (b.length : Int) := by omega
        have e2 : (0 : Int) ≤ (k : Int) := by omega
        clear hda hdb hx hy hca hcb
        by_cases hxy : x = y
        · subst hxy
          go_wp2_with fail
          refine wp_region_held_drew (S := (fun w' => w'.cell? ⟨ba, oa + k, none⟩ = some (.int .i64 x) ∧ w'.cell? ⟨bb, ob + k, none⟩ = some (.int .i64 x))) (by kernel_rfl) ?_ (fun hHeld0 => ?_)
          · (try dsimp only); go_keep
          refine wpAnyH_take (i := 0) (oi := { dst := some 17, op := Op.move (Operand.tmp 0), type := 22, pos := "words.go:97", after := #[], guard := none }) (v := ?_) rfl (by kernel_rfl) (by kernel_rfl) (by kernel_rfl) (fun _ _ _ h => h) (Or.inl ⟨by rfl, ?_⟩) (by assumption) ?_
          rotate_left
          · (intro w hSw; (try dsimp only at hSw); go_simp); (try with_reducible rfl)
          try simp only [Act.put, List.setIfInBounds_toArray, List.set_cons_zero, List.set_cons_succ]
          refine wpAnyH_take (i := 1) (oi := { dst := some 18, op := Op.move (Operand.tmp 5), type := 3, pos := "words.go:97", after := #[], guard := none }) (v := ?_) rfl (by kernel_rfl) (by kernel_rfl) (by kernel_rfl) (fun _ _ _ h => h) (Or.inl ⟨by rfl, ?_⟩) (by assumption) ?_
          rotate_left
          · (intro w hSw; (try dsimp only at hSw); go_simp); (try with_reducible rfl)
          try simp only [Act.put, List.setIfInBounds_toArray, List.set_cons_zero, List.set_cons_succ]
          refine wpAnyH_take (i := 2) (oi := { dst := some 19, op := Op.indexAddr 22 (Operand.tmp 17) (Operand.tmp 18), type := 0, pos := "words.go:97", after := #[{ on := 0, ground := Ground.data }, { on := 1, ground := Ground.data }], guard := none }) (v := ?_) rfl (by kernel_rfl) (by kernel_rfl) (by kernel_rfl) (fun _ _ _ h => h) (Or.inl ⟨by rfl, ?_⟩) (by assumption) ?_
          rotate_left
          · (intro w hSw; (try dsimp only at hSw); go_simp); (try with_reducible rfl)
          try simp only [Act.put, List.setIfInBounds_toArray, List.set_cons_zero, List.set_cons_succ]
          refine wpAnyH_take (i := 3) (oi := { dst := some 20, op := Op.load 3 (Operand.tmp 19), type := 3, pos := "words.go:97", after := #[{ on := 2, ground := Ground.data }], guard := none }) (v := ?_) rfl (by kernel_rfl) (by kernel_rfl) (by kernel_rfl) (fun _ _ _ h => h) (Or.inl ⟨by rfl, ?_⟩) (by assumption) ?_
          rotate_left
          · (intro w hSw; (try dsimp only at hSw); go_simp); (try with_reducible rfl)
          try simp only [Act.put, List.setIfInBounds_toArray, List.set_cons_zero, List.set_cons_succ]
          refine wpAnyH_take (i := 4) (oi := { dst := some 21, op := Op.move (Operand.tmp 1), type := 22, pos := "words.go:97", after := #[], guard := none }) (v := ?_) rfl (by kernel_rfl) (by kernel_rfl) (by kernel_rfl) (fun _ _ _ h => h) (Or.inl ⟨by rfl, ?_⟩) (by assumption) ?_
          rotate_left
          · (intro w hSw; (try dsimp only at hSw); go_simp); (try with_reducible rfl)
          try simp only [Act.put, List.setIfInBounds_toArray, List.set_cons_zero, List.set_cons_succ]
          refine wpAnyH_take (i := 5) (oi := { dst := some 22, op := Op.move (Operand.tmp 5), type := 3, pos := "words.go:97", after := #[], guard := none }) (v := ?_) rfl (by kernel_rfl) (by kernel_rfl) (by kernel_rfl) (fun _ _ _ h => h) (Or.inl ⟨by rfl, ?_⟩) (by assumption) ?_
          rotate_left
          · (intro w hSw; (try dsimp only at hSw); go_simp); (try with_reducible rfl)
          try simp only [Act.put, List.setIfInBounds_toArray, List.set_cons_zero, List.set_cons_succ]
          refine wpAnyH_take (i := 6) (oi := { dst := some 23, op := Op.indexAddr 22 (Operand.tmp 21) (Operand.tmp 22), type := 0, pos := "words.go:97", after := #[{ on := 4, ground := Ground.data }, { on := 5, ground := Ground.data }], guard := none }) (v := ?_) rfl (by kernel_rfl) (by kernel_rfl) (by kernel_rfl) (fun _ _ _ h => h) (Or.inl ⟨by rfl, ?_⟩) (by assumption) ?_
          rotate_left
          · (intro w hSw; (try dsimp only at hSw); go_simp); (try with_reducible rfl)
          try simp only [Act.put, List.setIfInBounds_toArray, List.set_cons_zero, List.set_cons_succ]
          refine wpAnyH_take (i := 7) (oi := { dst := some 24, op := Op.load 3 (Operand.tmp 23), type := 3, pos := "words.go:97", after := #[{ on := 6, ground := Ground.data }], guard := none }) (v := ?_) rfl (by kernel_rfl) (by kernel_rfl) (by kernel_rfl) (fun _ _ _ h => h) (Or.inl ⟨by rfl, ?_⟩) (by assumption) ?_
          rotate_left
          · (intro w hSw; (try dsimp only at hSw); go_simp); (try with_reducible rfl)
          try simp only [Act.put, List.setIfInBounds_toArray, List.set_cons_zero, List.set_cons_succ]
          refine wpAnyH_take (i := 8) (oi := { dst := some 25, op := Op.binOp BinOp.neq 3 (Operand.tmp 20) (Operand.tmp 24) 3, type := 4, pos := "words.go:97", after := #[{ on := 3, ground := Ground.data }, { on := 7, ground := Ground.data }], guard := none }) (v := ?_) rfl (by kernel_rfl) (by kernel_rfl) (by kernel_rfl) (fun _ _ _ h => h) (Or.inl ⟨by rfl, ?_⟩) (by assumption) ?_
          rotate_left
          · (intro w hSw; (try dsimp only at hSw); go_simp); (try with_reducible rfl)
          try simp only [Act.put, List.setIfInBounds_toArray, List.set_cons_zero, List.set_cons_succ]
          refine wpAnyH_done (by kernel_rfl) ?_ _
          clear hHeld0
          clear c0 c1
          go_wp2
          go_roundw
          case rel => exact ⟨k + 1, by omega, by go_num, take_eq_succ HAB.out HX.out HY.out, hbr.drew⟩
          case measure => simp [intOf]; omega
        · have hq : (x != y) = true := by rw [bne_iff_ne]; exact hxy
          have hne := ne_of_get HX.out HY.out hxy
          clear hxy
          have HN := Lib.hid hne
          clear hne
          go_wp2_with fail
          refine wp_region_held_drew (S := (fun w' => w'.cell? ⟨ba, oa + k, none⟩ = some (.int .i64 x) ∧ w'.cell? ⟨bb, ob + k, none⟩ = some (.int .i64 y))) (by kernel_rfl) ?_ (fun hHeld0 => ?_)
          · (try dsimp only); go_keep
          refine wpAnyH_take (i := 0) (oi := { dst := some 17, op := Op.move (Operand.tmp 0), type := 22, pos := "words.go:97", after := #[], guard := none }) (v := ?_) rfl (by kernel_rfl) (by kernel_rfl) (by kernel_rfl) (fun _ _ _ h => h) (Or.inl ⟨by rfl, ?_⟩) (by assumption) ?_
          rotate_left
          · (intro w hSw; (try dsimp only at hSw); go_simp); (try with_reducible rfl)
          try simp only [Act.put, List.setIfInBounds_toArray, List.set_cons_zero, List.set_cons_succ]
          refine wpAnyH_take (i := 1) (oi := { dst := some 18, op := Op.move (Operand.tmp 5), type := 3, pos := "words.go:97", after := #[], guard := none }) (v := ?_) rfl (by kernel_rfl) (by kernel_rfl) (by kernel_rfl) (fun _ _ _ h => h) (Or.inl ⟨by rfl, ?_⟩) (by assumption) ?_
          rotate_left
          · (intro w hSw; (try dsimp only at hSw); go_simp); (try with_reducible rfl)
          try simp only [Act.put, List.setIfInBounds_toArray, List.set_cons_zero, List.set_cons_succ]
          refine wpAnyH_take (i := 2) (oi := { dst := some 19, op := Op.indexAddr 22 (Operand.tmp 17) (Operand.tmp 18), type := 0, pos := "words.go:97", after := #[{ on := 0, ground := Ground.data }, { on := 1, ground := Ground.data }], guard := none }) (v := ?_) rfl (by kernel_rfl) (by kernel_rfl) (by kernel_rfl) (fun _ _ _ h => h) (Or.inl ⟨by rfl, ?_⟩) (by assumption) ?_
          rotate_left
          · (intro w hSw; (try dsimp only at hSw); go_simp); (try with_reducible rfl)
          try simp only [Act.put, List.setIfInBounds_toArray, List.set_cons_zero, List.set_cons_succ]
          refine wpAnyH_take (i := 3) (oi := { dst := some 20, op := Op.load 3 (Operand.tmp 19), type := 3, pos := "words.go:97", after := #[{ on := 2, ground := Ground.data }], guard := none }) (v := ?_) rfl (by kernel_rfl) (by kernel_rfl) (by kernel_rfl) (fun _ _ _ h => h) (Or.inl ⟨by rfl, ?_⟩) (by assumption) ?_
          rotate_left
          · (intro w hSw; (try dsimp only at hSw); go_simp); (try with_reducible rfl)
          try simp only [Act.put, List.setIfInBounds_toArray, List.set_cons_zero, List.set_cons_succ]
          refine wpAnyH_take (i := 4) (oi := { dst := some 21, op := Op.move (Operand.tmp 1), type := 22, pos := "words.go:97", after := #[], guard := none }) (v := ?_) rfl (by kernel_rfl) (by kernel_rfl) (by kernel_rfl) (fun _ _ _ h => h) (Or.inl ⟨by rfl, ?_⟩) (by assumption) ?_
          rotate_left
          · (intro w hSw; (try dsimp only at hSw); go_simp); (try with_reducible rfl)
          try simp only [Act.put, List.setIfInBounds_toArray, List.set_cons_zero, List.set_cons_succ]
          refine wpAnyH_take (i := 5) (oi := { dst := some 22, op := Op.move (Operand.tmp 5), type := 3, pos := "words.go:97", after := #[], guard := none }) (v := ?_) rfl (by kernel_rfl) (by kernel_rfl) (by kernel_rfl) (fun _ _ _ h => h) (Or.inl ⟨by rfl, ?_⟩) (by assumption) ?_
          rotate_left
          · (intro w hSw; (try dsimp only at hSw); go_simp); (try with_reducible rfl)
          try simp only [Act.put, List.setIfInBounds_toArray, List.set_cons_zero, List.set_cons_succ]
          refine wpAnyH_take (i := 6) (oi := { dst := some 23, op := Op.indexAddr 22 (Operand.tmp 21) (Operand.tmp 22), type := 0, pos := "words.go:97", after := #[{ on := 4, ground := Ground.data }, { on := 5, ground := Ground.data }], guard := none }) (v := ?_) rfl (by kernel_rfl) (by kernel_rfl) (by kernel_rfl) (fun _ _ _ h => h) (Or.inl ⟨by rfl, ?_⟩) (by assumption) ?_
          rotate_left
          · (intro w hSw; (try dsimp only at hSw); go_simp); (try with_reducible rfl)
          try simp only [Act.put, List.setIfInBounds_toArray, List.set_cons_zero, List.set_cons_succ]
          refine wpAnyH_take (i := 7) (oi := { dst := some 24, op := Op.load 3 (Operand.tmp 23), type := 3, pos := "words.go:97", after := #[{ on := 6, ground := Ground.data }], guard := none }) (v := ?_) rfl (by kernel_rfl) (by kernel_rfl) (by kernel_rfl) (fun _ _ _ h => h) (Or.inl ⟨by rfl, ?_⟩) (by assumption) ?_
          rotate_left
          · (intro w hSw; (try dsimp only at hSw); go_simp); (try with_reducible rfl)
          try simp only [Act.put, List.setIfInBounds_toArray, List.set_cons_zero, List.set_cons_succ]
          refine wpAnyH_take (i := 8) (oi := { dst := some 25, op := Op.binOp BinOp.neq 3 (Operand.tmp 20) (Operand.tmp 24) 3, type := 4, pos := "words.go:97", after := #[{ on := 3, ground := Ground.data }, { on := 7, ground := Ground.data }], guard := none }) (v := ?_) rfl (by kernel_rfl) (by kernel_rfl) (by kernel_rfl) (fun _ _ _ h => h) (Or.inl ⟨by rfl, ?_⟩) (by assumption) ?_
          rotate_left
          · (intro w hSw; (try dsimp only at hSw); go_simp); (try with_reducible rfl)
          try simp only [Act.put, List.setIfInBounds_toArray, List.set_cons_zero, List.set_cons_succ]
          refine wpAnyH_done (by kernel_rfl) ?_ _
          clear hHeld0
          clear c0 c1
          go_wp2
          go_ret
          exact ⟨ret_bool (by simp [HN.out]), hbr.drew⟩
      · obtain rfl : k = b.length := by omega
        have h := HAB.out
        rw [← HL.out, List.take_length, HL.out, List.take_length] at h
        have H := Lib.hid h
        clear h hca hcb
        go_wp2
        go_ret
        exact ⟨ret_bool (by rw [H.out]; simp), hbr⟩
  · have hb0 : ((a.length : Int) != (b.length : Int)) = true := by rw [bne_iff_ne]; omega
    have HN := Lib.hid (show a ≠ b by rintro rfl; exact hlen rfl)
    clear hlen hca hcb
    go_enter Tryz.func25, Tryz.ntmps25
    go_wp2
    go_ret
    exact ⟨ret_bool (by simp [HN.out]), Below.refl _ _⟩

/-- the loop of the examples. -/
def SingleIs (w : World) (k : Int) (u : Value) : Prop := ∃ va vb vc vd, u = .agg #[va, vb, vc, vd] ∧ Ints w va [k] ∧ Ints w vb [-1, 2] ∧ Ints w vc [1] ∧ Ints w vd [1]
theorem SingleIs.carry {w w' : World} {k : Int} {u : Value} (h : SingleIs w k u) (hb : Below w.heap.size w w') : SingleIs w' k u := by
  obtain ⟨va, vb, vc, vd, rfl, h1, h2, h3, h4⟩ := h
  exact ⟨va, vb, vc, vd, rfl, h1.carry hb, h2.carry hb, h3.carry hb, h4.carry hb⟩
set_option maxHeartbeats 1000000 in
theorem single_any (k : Int) (w : World) :
    Calls Tryz.prog 20 #[.int .i64 k] w fun e w' => (∃ u, e = .returned u ∧ SingleIs w' k u) ∧ Below w.heap.size w w' := by
  go_enter Tryz.func20, Tryz.ntmps20
  go_wp2_with fail
  obtain ⟨W1, hW1⟩ : ∃ v, v = World.alloc w (Obj.cells #[.slice (some ⟨w.heap.size + 1, 0, none⟩) 1 1, .slice (some ⟨w.heap.size + 1 + 1, 0, none⟩) 2 2, .slice (some ⟨w.heap.size + 1 + 1 + 1, 0, none⟩) 1 1, .slice (some ⟨w.heap.size + 1 + 1 + 1 + 1, 0, none⟩) 1 1] 32) := ⟨_, rfl⟩
  have kW1 : Below w.heap.size w W1 := by rw [hW1]; exact below_new _ _
  have iW1 : Blk W1 (w.heap.size) 32 [.slice (some ⟨w.heap.size + 1, 0, none⟩) 1 1, .slice (some ⟨w.heap.size + 1 + 1, 0, none⟩) 2 2, .slice (some ⟨w.heap.size + 1 + 1 + 1, 0, none⟩) 1 1, .slice (some ⟨w.heap.size + 1 + 1 + 1 + 1, 0, none⟩) 1 1] := by rw [hW1]; exact Blk.new _ _ _
  have sW1 : W1.heap.size = w.heap.size + 1 := by rw [hW1]; simp
  rw [← hW1]
  clear hW1
  obtain ⟨W2, hW2⟩ : ∃ v, v = World.alloc W1 (Obj.cells #[.int .i64 k] 3) := ⟨_, rfl⟩
  have kW2 : Below W1.heap.size W1 W2 := by rw [hW2]; exact below_new _ _
  have iW2 : Blk W2 (w.heap.size + 1) 3 [.int .i64 k] := by rw [hW2, ← sW1]; exact Blk.new _ _ _
  have sW2 : W2.heap.size = w.heap.size + 1 + 1 := by rw [hW2]; simp [sW1]
  rw [← hW2]
  clear hW2
  obtain ⟨W3, hW3⟩ : ∃ v, v = World.alloc W2 (Obj.cells #[.int .i64 (-1), .int .i64 2] 3) := ⟨_, rfl⟩
  have kW3 : Below W2.heap.size W2 W3 := by rw [hW3]; exact below_new _ _
  have iW3 : Blk W3 (w.heap.size + 1 + 1) 3 [.int .i64 (-1), .int .i64 2] := by rw [hW3, ← sW2]; exact Blk.new _ _ _
  have sW3 : W3.heap.size = w.heap.size + 1 + 1 + 1 := by rw [hW3]; simp [sW2]
  rw [← hW3]
  clear hW3
  obtain ⟨W4, hW4⟩ : ∃ v, v = World.alloc W3 (Obj.cells #[.int .i64 1] 3) := ⟨_, rfl⟩
  have kW4 : Below W3.heap.size W3 W4 := by rw [hW4]; exact below_new _ _
  have iW4 : Blk W4 (w.heap.size + 1 + 1 + 1) 3 [.int .i64 1] := by rw [hW4, ← sW3]; exact Blk.new _ _ _
  have sW4 : W4.heap.size = w.heap.size + 1 + 1 + 1 + 1 := by rw [hW4]; simp [sW3]
  rw [← hW4]
  clear hW4
  obtain ⟨W5, hW5⟩ : ∃ v, v = World.alloc W4 (Obj.cells #[.int .i64 1] 3) := ⟨_, rfl⟩
  have kW5 : Below W4.heap.size W4 W5 := by rw [hW5]; exact below_new _ _
  have iW5 : Blk W5 (w.heap.size + 1 + 1 + 1 + 1) 3 [.int .i64 1] := by rw [hW5, ← sW4]; exact Blk.new _ _ _
  have sW5 : W5.heap.size = w.heap.size + 1 + 1 + 1 + 1 + 1 := by rw [hW5]; simp [sW4]
  rw [← hW5]
  clear hW5
  have k25 := bthen (bthen kW3 kW4) kW5
  have j1 := (iW1.carry kW2).carry k25
  have y0 := j1.cell (j := 0) rfl
  have y1 := j1.cell (j := 1) rfl
  have y2 := j1.cell (j := 2) rfl
  have y3 := j1.cell (j := 3) rfl
  exact bodyPost_ret (v := .agg #[_, _, _, _]) (by simp [results, Tryz.f20, go_sem, y0, y1, y2, y3]) rfl
    ⟨⟨_, rfl, _, _, _, _, rfl, (BlkI.ints (l := [k]) (iW2.carry k25) rfl), (BlkI.ints (l := [-1, 2]) (iW3.carry (bthen kW4 kW5)) rfl), (BlkI.ints (l := [1]) (iW4.carry kW5) rfl), (BlkI.ints (l := [1]) iW5 rfl)⟩, bthen (bthen kW1 kW2) k25⟩

set_option maxRecDepth 100000 in
set_option maxHeartbeats 1000000 in
theorem SameRows_any (va vb : Value) (a b : List (List Int)) (w : World) (ha : RowsOf w va a) (hb : RowsOf w vb b) (hl : a.length ≤ 1000000000) (hl2 : ∀ l ∈ a, l.length ≤ 1000000000) :
    Calls Tryz.prog 23 #[va, vb] w fun e w' => e = .returned (.bool (decide (a = b))) ∧ Below w.heap.size w w' := by
  obtain ⟨ua, hua, hla, hra⟩ := ha
  obtain ⟨ub, hub, hlb, hrb⟩ := hb
  obtain ⟨xa, ca, rfl, _, hca⟩ := hua
  obtain ⟨xb, cb, rfl, _, hcb⟩ := hub
  by_cases hlen : a.length = b.length
  · rw [hla, hlen] at hca ⊢
    rw [hlb] at hcb ⊢
    rw [hlen] at hl hla
    have HL := Lib.hid hlen
    have HLA := Lib.hid hla
    have HLB := Lib.hid hlb
    clear hlen hla hlb
    go_enter Tryz.func23, Tryz.ntmps23
    go_wp2
    go_loopw [5] (fun i wr => ∃ k : Nat, k ≤ b.length ∧ i = .int .i64 k ∧ a.take k = b.take k ∧ Below w.heap.size w wr) (fun i _ => b.length - (intOf i).toNat)
    case atStart => exact ⟨0, by omega, rfl, rfl, Below.refl _ _⟩
    case round =>
      obtain ⟨k, hk, rfl, hab, hbr⟩ := hrel
      have HAB := Lib.hid hab
      clear hab
      by_cases hlt : k < b.length
      · obtain ⟨ba, oa, rfl, hda⟩ := hca (by omega)
        obtain ⟨bb, ob, rfl, hdb⟩ := hcb (by omega)
        obtain ⟨x, hx⟩ : ∃ x, a[k]? = some x := ⟨_, List.getElem?_eq_getElem (by rw [HL.out]; exact hlt)⟩
        obtain ⟨y, hy⟩ : ∃ y, b[k]? = some y := ⟨_, List.getElem?_eq_getElem hlt⟩
        obtain ⟨ux, hux⟩ : ∃ x, ua[k]? = some x := ⟨_, List.getElem?_eq_getElem (by rw [HLA.out]; exact hlt)⟩
        obtain ⟨uy, huy⟩ : ∃ y, ub[k]? = some y := ⟨_, List.getElem?_eq_getElem (by rw [HLB.out]; exact hlt)⟩
        have c0 := cellb (hda k ux hux) hbr
        have c1 := cellb (hdb k uy huy) hbr
        have ix := (hra k ux x hux hx).carry hbr
        have iy := (hrb k uy y huy hy).carry hbr
        have HX := Lib.hid hx
        have HY := Lib.hid hy
        have e1 : (k : Int) < (b.length : Int) := by omega
        have e2 : (0 : Int) ≤ (k : Int) := by omega
        have hlx := hl2 x (List.mem_of_getElem? hx)
        have HXA := Lib.hid ix
        have HYA := Lib.hid iy
        obtain ⟨pa, pc, rfl, _⟩ := ix
        obtain ⟨qa, qc, rfl, _⟩ := iy
        clear hda hdb hx hy hca hcb hux huy hra hrb hl2
        by_cases hxy : x = y
        · subst hxy
          go_wp2_with fail
          refine wp_region_held_drew (S := (fun w' => w'.cell? ⟨ba, oa + k, none⟩ = some (.slice pa x.length pc) ∧ w'.cell? ⟨bb, ob + k, none⟩ = some (.slice qa x.length qc))) (by kernel_rfl) ⟨cellb c0 (Below.refl _ _).drew, cellb c1 (Below.refl _ _).drew⟩ (fun hHeld0 => ?_)
          obtain ⟨wzd, hwz⟩ : ∃ v, v = wr.drew := ⟨_, rfl⟩
          rw [← hwz] at hHeld0 ⊢
          have hbzd : Below wr.heap.size wr wzd := by rw [hwz]; exact (Below.refl _ _).drew
          have hlzd : Below wr.heap.size wr wzd := by rw [hwz]; exact (Below.refl _ _).drew
          clear hwz hlzd
          refine wpAnyH_take (i := 0) (oi := { dst := some 17, op := Op.move (Operand.tmp 0), type := 64, pos := "ref.go:208", after := #[], guard := none }) (v := ?_) rfl (by kernel_rfl) (by kernel_rfl) (by kernel_rfl) (fun _ _ _ h => h) (Or.inl ⟨by rfl, ?_⟩) (by assumption) ?_
          rotate_left
          · (intro w hSw; (try dsimp only at hSw); go_simp); (try with_reducible rfl)
          try simp only [Act.put, List.setIfInBounds_toArray, List.set_cons_zero, List.set_cons_succ]
          refine wpAnyH_take (i := 1) (oi := { dst := some 18, op := Op.move (Operand.tmp 5), type := 3, pos := "ref.go:208", after := #[], guard := none }) (v := ?_) rfl (by kernel_rfl) (by kernel_rfl) (by kernel_rfl) (fun _ _ _ h => h) (Or.inl ⟨by rfl, ?_⟩) (by assumption) ?_
          rotate_left
          · (intro w hSw; (try dsimp only at hSw); go_simp); (try with_reducible rfl)
          try simp only [Act.put, List.setIfInBounds_toArray, List.set_cons_zero, List.set_cons_succ]
          refine wpAnyH_take (i := 2) (oi := { dst := some 19, op := Op.indexAddr 64 (Operand.tmp 17) (Operand.tmp 18), type := 0, pos := "ref.go:208", after := #[{ on := 0, ground := Ground.data }, { on := 1, ground := Ground.data }], guard := none }) (v := ?_) rfl (by kernel_rfl) (by kernel_rfl) (by kernel_rfl) (fun _ _ _ h => h) (Or.inl ⟨by rfl, ?_⟩) (by assumption) ?_
          rotate_left
          · (intro w hSw; (try dsimp only at hSw); go_simp); (try with_reducible rfl)
          try simp only [Act.put, List.setIfInBounds_toArray, List.set_cons_zero, List.set_cons_succ]
          refine wpAnyH_take (i := 3) (oi := { dst := some 20, op := Op.load 22 (Operand.tmp 19), type := 22, pos := "ref.go:208", after := #[{ on := 2, ground := Ground.data }], guard := none }) (v := ?_) rfl (by kernel_rfl) (by kernel_rfl) (by kernel_rfl) (fun _ _ _ h => h) (Or.inl ⟨by rfl, ?_⟩) (by assumption) ?_
          rotate_left
          · (intro w hSw; (try dsimp only at hSw); go_simp); (try with_reducible rfl)
          try simp only [Act.put, List.setIfInBounds_toArray, List.set_cons_zero, List.set_cons_succ]
          refine wpAnyH_take (i := 4) (oi := { dst := some 21, op := Op.move (Operand.tmp 1), type := 64, pos := "ref.go:208", after := #[], guard := none }) (v := ?_) rfl (by kernel_rfl) (by kernel_rfl) (by kernel_rfl) (fun _ _ _ h => h) (Or.inl ⟨by rfl, ?_⟩) (by assumption) ?_
          rotate_left
          · (intro w hSw; (try dsimp only at hSw); go_simp); (try with_reducible rfl)
          try simp only [Act.put, List.setIfInBounds_toArray, List.set_cons_zero, List.set_cons_succ]
          refine wpAnyH_take (i := 5) (oi := { dst := some 22, op := Op.move (Operand.tmp 5), type := 3, pos := "ref.go:208", after := #[], guard := none }) (v := ?_) rfl (by kernel_rfl) (by kernel_rfl) (by kernel_rfl) (fun _ _ _ h => h) (Or.inl ⟨by rfl, ?_⟩) (by assumption) ?_
          rotate_left
          · (intro w hSw; (try dsimp only at hSw); go_simp); (try with_reducible rfl)
          try simp only [Act.put, List.setIfInBounds_toArray, List.set_cons_zero, List.set_cons_succ]
          refine wpAnyH_take (i := 6) (oi := { dst := some 23, op := Op.indexAddr 64 (Operand.tmp 21) (Operand.tmp 22), type := 0, pos := "ref.go:208", after := #[{ on := 4, ground := Ground.data }, { on := 5, ground := Ground.data }], guard := none }) (v := ?_) rfl (by kernel_rfl) (by kernel_rfl) (by kernel_rfl) (fun _ _ _ h => h) (Or.inl ⟨by rfl, ?_⟩) (by assumption) ?_
          rotate_left
          · (intro w hSw; (try dsimp only at hSw); go_simp); (try with_reducible rfl)
          try simp only [Act.put, List.setIfInBounds_toArray, List.set_cons_zero, List.set_cons_succ]
          refine wpAnyH_take (i := 7) (oi := { dst := some 24, op := Op.load 22 (Operand.tmp 23), type := 22, pos := "ref.go:208", after := #[{ on := 6, ground := Ground.data }], guard := none }) (v := ?_) rfl (by kernel_rfl) (by kernel_rfl) (by kernel_rfl) (fun _ _ _ h => h) (Or.inl ⟨by rfl, ?_⟩) (by assumption) ?_
          rotate_left
          · (intro w hSw; (try dsimp only at hSw); go_simp); (try with_reducible rfl)
          try simp only [Act.put, List.setIfInBounds_toArray, List.set_cons_zero, List.set_cons_succ]
          refine wpAnyH_ready (rs := [8]) (by kernel_rfl) (by simp) ?_
          refine (AllReadyH.cons (o := { dst := some 25, op := Op.call { callee := Callee.value (Operand.func 25), args := #[Operand.tmp 20, Operand.tmp 24], argTypes := #[22, 22] }, type := 4, pos := "ref.go:208", after := #[{ on := 3, ground := Ground.data }, { on := 7, ground := Ground.data }], guard := none }) rfl (fun K hK => ?_) AllReadyH.nil)
          go_simp
          refine (SameInts_any _ _ x x wzd (HXA.out.carry hbzd) (HYA.out.carry hbzd) hlx).mono ?_
          rintro e wz8 ⟨rfl, hl⟩
          (try go_wp2_with fail)
          have hbz8 := bthen hbzd hl
          clear hl
          refine hK.out _ _ ⟨cellb c0 hbz8, cellb c1 hbz8⟩ (fun hHeld1 => ?_)
          clear hK K hHeld0
          try simp only [Act.put, List.setIfInBounds_toArray, List.set_cons_zero, List.set_cons_succ]
          refine wpAnyH_take (i := 9) (oi := { dst := some 26, op := Op.unOp UnOp.not 4 (Operand.tmp 25), type := 4, pos := "ref.go:208", after := #[{ on := 8, ground := Ground.data }], guard := none }) (v := ?_) rfl (by kernel_rfl) (by kernel_rfl) (by kernel_rfl) (fun _ _ _ h => h) (Or.inl ⟨by rfl, ?_⟩) (by assumption) ?_
          rotate_left
          · (intro w hSw; (try dsimp only at hSw); go_simp); (try with_reducible rfl)
          try simp only [Act.put, List.setIfInBounds_toArray, List.set_cons_zero, List.set_cons_succ]
          refine wpAnyH_done (by kernel_rfl) ?_ _
          clear hHeld1
          go_wp2
          go_roundw
          · exact ⟨k + 1, by omega, by go_num, take_eq_succ HAB.out HX.out HY.out, bthen hbr hbz8⟩
          · simp [intOf]; omega
        · have hq : decide (x = y) = false := by simpa using hxy
          have HN := Lib.hid (ne_of_get HX.out HY.out hxy)
          clear hxy
          go_wp2_with fail
          refine wp_region_held_drew (S := (fun w' => w'.cell? ⟨ba, oa + k, none⟩ = some (.slice pa x.length pc) ∧ w'.cell? ⟨bb, ob + k, none⟩ = some (.slice qa y.length qc))) (by kernel_rfl) ⟨cellb c0 (Below.refl _ _).drew, cellb c1 (Below.refl _ _).drew⟩ (fun hHeld0 => ?_)
          obtain ⟨wzd, hwz⟩ : ∃ v, v = wr.drew := ⟨_, rfl⟩
          rw [← hwz] at hHeld0 ⊢
          have hbzd : Below wr.heap.size wr wzd := by rw [hwz]; exact (Below.refl _ _).drew
          have hlzd : Below wr.heap.size wr wzd := by rw [hwz]; exact (Below.refl _ _).drew
          clear hwz hlzd
          refine wpAnyH_take (i := 0) (oi := { dst := some 17, op := Op.move (Operand.tmp 0), type := 64, pos := "ref.go:208", after := #[], guard := none }) (v := ?_) rfl (by kernel_rfl) (by kernel_rfl) (by kernel_rfl) (fun _ _ _ h => h) (Or.inl ⟨by rfl, ?_⟩) (by assumption) ?_
          rotate_left
          · (intro w hSw; (try dsimp only at hSw); go_simp); (try with_reducible rfl)
          try simp only [Act.put, List.setIfInBounds_toArray, List.set_cons_zero, List.set_cons_succ]
          refine wpAnyH_take (i := 1) (oi := { dst := some 18, op := Op.move (Operand.tmp 5), type := 3, pos := "ref.go:208", after := #[], guard := none }) (v := ?_) rfl (by kernel_rfl) (by kernel_rfl) (by kernel_rfl) (fun _ _ _ h => h) (Or.inl ⟨by rfl, ?_⟩) (by assumption) ?_
          rotate_left
          · (intro w hSw; (try dsimp only at hSw); go_simp); (try with_reducible rfl)
          try simp only [Act.put, List.setIfInBounds_toArray, List.set_cons_zero, List.set_cons_succ]
          refine wpAnyH_take (i := 2) (oi := { dst := some 19, op := Op.indexAddr 64 (Operand.tmp 17) (Operand.tmp 18), type := 0, pos := "ref.go:208", after := #[{ on := 0, ground := Ground.data }, { on := 1, ground := Ground.data }], guard := none }) (v := ?_) rfl (by kernel_rfl) (by kernel_rfl) (by kernel_rfl) (fun _ _ _ h => h) (Or.inl ⟨by rfl, ?_⟩) (by assumption) ?_
          rotate_left
          · (intro w hSw; (try dsimp only at hSw); go_simp); (try with_reducible rfl)
          try simp only [Act.put, List.setIfInBounds_toArray, List.set_cons_zero, List.set_cons_succ]
          refine wpAnyH_take (i := 3) (oi := { dst := some 20, op := Op.load 22 (Operand.tmp 19), type := 22, pos := "ref.go:208", after := #[{ on := 2, ground := Ground.data }], guard := none }) (v := ?_) rfl (by kernel_rfl) (by kernel_rfl) (by kernel_rfl) (fun _ _ _ h => h) (Or.inl ⟨by rfl, ?_⟩) (by assumption) ?_
          rotate_left
          · (intro w hSw; (try dsimp only at hSw); go_simp); (try with_reducible rfl)
          try simp only [Act.put, List.setIfInBounds_toArray, List.set_cons_zero, List.set_cons_succ]
          refine wpAnyH_take (i := 4) (oi := { dst := some 21, op := Op.move (Operand.tmp 1), type := 64, pos := "ref.go:208", after := #[], guard := none }) (v := ?_) rfl (by kernel_rfl) (by kernel_rfl) (by kernel_rfl) (fun _ _ _ h => h) (Or.inl ⟨by rfl, ?_⟩) (by assumption) ?_
          rotate_left
          · (intro w hSw; (try dsimp only at hSw); go_simp); (try with_reducible rfl)
          try simp only [Act.put, List.setIfInBounds_toArray, List.set_cons_zero, List.set_cons_succ]
          refine wpAnyH_take (i := 5) (oi := { dst := some 22, op := Op.move (Operand.tmp 5), type := 3, pos := "ref.go:208", after := #[], guard := none }) (v := ?_) rfl (by kernel_rfl) (by kernel_rfl) (by kernel_rfl) (fun _ _ _ h => h) (Or.inl ⟨by rfl, ?_⟩) (by assumption) ?_
          rotate_left
          · (intro w hSw; (try dsimp only at hSw); go_simp); (try with_reducible rfl)
          try simp only [Act.put, List.setIfInBounds_toArray, List.set_cons_zero, List.set_cons_succ]
          refine wpAnyH_take (i := 6) (oi := { dst := some 23, op := Op.indexAddr 64 (Operand.tmp 21) (Operand.tmp 22), type := 0, pos := "ref.go:208", after := #[{ on := 4, ground := Ground.data }, { on := 5, ground := Ground.data }], guard := none }) (v := ?_) rfl (by kernel_rfl) (by kernel_rfl) (by kernel_rfl) (fun _ _ _ h => h) (Or.inl ⟨by rfl, ?_⟩) (by assumption) ?_
          rotate_left
          · (intro w hSw; (try dsimp only at hSw); go_simp); (try with_reducible rfl)
          try simp only [Act.put, List.setIfInBounds_toArray, List.set_cons_zero, List.set_cons_succ]
          refine wpAnyH_take (i := 7) (oi := { dst := some 24, op := Op.load 22 (Operand.tmp 23), type := 22, pos := "ref.go:208", after := #[{ on := 6, ground := Ground.data }], guard := none }) (v := ?_) rfl (by kernel_rfl) (by kernel_rfl) (by kernel_rfl) (fun _ _ _ h => h) (Or.inl ⟨by rfl, ?_⟩) (by assumption) ?_
          rotate_left
          · (intro w hSw; (try dsimp only at hSw); go_simp); (try with_reducible rfl)
          try simp only [Act.put, List.setIfInBounds_toArray, List.set_cons_zero, List.set_cons_succ]
          refine wpAnyH_ready (rs := [8]) (by kernel_rfl) (by simp) ?_
          refine (AllReadyH.cons (o := { dst := some 25, op := Op.call { callee := Callee.value (Operand.func 25), args := #[Operand.tmp 20, Operand.tmp 24], argTypes := #[22, 22] }, type := 4, pos := "ref.go:208", after := #[{ on := 3, ground := Ground.data }, { on := 7, ground := Ground.data }], guard := none }) rfl (fun K hK => ?_) AllReadyH.nil)
          go_simp
          refine (SameInts_any _ _ x y wzd (HXA.out.carry hbzd) (HYA.out.carry hbzd) hlx).mono ?_
          rintro e wz8 ⟨rfl, hl⟩
          (try go_wp2_with fail)
          have hbz8 := bthen hbzd hl
          clear hl
          refine hK.out _ _ ⟨cellb c0 hbz8, cellb c1 hbz8⟩ (fun hHeld1 => ?_)
          clear hK K hHeld0
          try simp only [Act.put, List.setIfInBounds_toArray, List.set_cons_zero, List.set_cons_succ]
          refine wpAnyH_take (i := 9) (oi := { dst := some 26, op := Op.unOp UnOp.not 4 (Operand.tmp 25), type := 4, pos := "ref.go:208", after := #[{ on := 8, ground := Ground.data }], guard := none }) (v := ?_) rfl (by kernel_rfl) (by kernel_rfl) (by kernel_rfl) (fun _ _ _ h => h) (Or.inl ⟨by rfl, ?_⟩) (by assumption) ?_
          rotate_left
          · (intro w hSw; (try dsimp only at hSw); go_simp); (try with_reducible rfl)
          try simp only [Act.put, List.setIfInBounds_toArray, List.set_cons_zero, List.set_cons_succ]
          refine wpAnyH_done (by kernel_rfl) ?_ _
          clear hHeld1
          go_wp2
          go_ret
          exact ⟨ret_bool (by simp [HN.out]), bthen hbr hbz8⟩
      · obtain rfl : k = b.length := by omega
        have h := HAB.out
        rw [← HL.out, List.take_length, HL.out, List.take_length] at h
        have H := Lib.hid h
        clear h hca hcb hra hrb hl2
        go_wp2
        go_ret
        exact ⟨ret_bool (by rw [H.out]; simp), hbr⟩
  · rw [hla, hlb]
    have hb0 : ((a.length : Int) != (b.length : Int)) = true := by rw [bne_iff_ne]; omega
    have HN := Lib.hid (show a ≠ b by rintro rfl; exact hlen rfl)
    clear hlen hca hcb hra hrb hla hlb hl2
    go_enter Tryz.func23, Tryz.ntmps23
    go_wp2
    go_ret
    exact ⟨ret_bool (by simp [HN.out]), Below.refl _ _⟩

theorem OwnI.one {e base : Nat} {w : World} {v : Value} {l : List Int} (h : OwnI e base w v l) : v.oneCell' = true := by
  obtain ⟨_, ⟨rfl, _⟩ | ⟨g, cap, cur, rfl, _⟩⟩ := h <;> rfl

theorem run_append_freshI {P : Program} (w : World) (t tx ty e' : TypeId) (i : TypeInfo) (z : Value) (ht : P.underlying t = some (.slice 3)) (htx : P.underlying tx = some (.slice e')) (hi : P.info? 3 = some i) (hz : i.zero = some z) (hs1 : i.size = 1) (hby : i.bytes = 8) (hzs : z.cells.size = 1)
    (g : Nat) (hg : Blk w g 3 []) (v : Value) (l : List Int) (hv : Ints w v l) (hl : l.length ≤ 1000000) :
    ∃ u w', (Builtin.append_ #[t, tx] ty #[.slice (some ⟨g, 0, none⟩) 0 0, v]).run P w = .ok u w' ∧ OwnI 3 0 w' u l ∧ Below w.heap.size w w' := by
  rcases Nat.eq_zero_or_pos l.length with h0 | h0
  · obtain rfl : l = [] := List.length_eq_zero_iff.1 h0
    obtain ⟨a, cp, rfl, hc, hv⟩ := hv
    exact ⟨_, _, run_append_empty (P := P) w t tx ty 3 e' i z ht htx hi hz g 0 a cp, ⟨rfl, .inr ⟨g, 0, #[], rfl, Nat.zero_le _, hg, Nat.le_refl _, by unfold maxLen; omega, rfl, rfl⟩⟩, Below.refl _ _⟩
  · obtain ⟨u, w', hr, ho, hb⟩ := run_append_freshO (P := P) w t tx ty 3 i z 1 8 ht hi hz hs1 hby hzs g 0 v l.length _ (hv.src htx h0) h0 (by unfold maxLen; omega) (by omega)
    exact ⟨u, w', hr, OwnI.base ho (Nat.zero_le _), hb⟩

theorem wpList_append_freshI {P : Program} {ops : Array Oper} {rest : List Oper} {o : Oper} {a : Act} {w : World} {Q : Exit → Act → World → Prop} (hgd : o.guard = none) (s x : Operand) (t tx e' : TypeId)
    (ho : o.op = .call { callee := .builtin .append, args := #[s, x], argTypes := #[t, tx] })
    (i : TypeInfo) (z : Value) (ht : P.underlying t = some (.slice 3)) (htx : P.underlying tx = some (.slice e')) (hi : P.info? 3 = some i) (hz : i.zero = some z) (hs1 : i.size = 1) (hby : i.bytes = 8) (hzs : z.cells.size = 1)
    (g : Nat) (hg : Blk w g 3 []) (hs : a.eval s = .slice (some ⟨g, 0, none⟩) 0 0) (v : Value) (l : List Int) (hx : a.eval x = v) (hv : Ints w v l) (hl : l.length ≤ 1000000)
    (h : ∀ u w', OwnI 3 0 w' u l → Below w.heap.size w w' → wpList P ops Q rest (a.put o.dst u) w') : wpList P ops Q (o :: rest) a w :=
  wpList_plain hgd fun _ hK => by
    obtain ⟨u, w', hr, h2, h3⟩ := run_append_freshI (P := P) w t tx o.type e' i z ht htx hi hz hs1 hby hzs g hg v l hv hl
    unfold Oper.wp execOp
    simp only [ho, resolve, invoke, builtin, Sem.run_bind, Sem.run_pure, Result.andThen_ok, List.map_toArray, List.map_cons, List.map_nil, hs, hx, hr]
    exact hK _ _ (h u w' h2 h3)

theorem Tryz.infoInts : (Tryz.prog.info? 22).map (fun i => (i.zero, i.size, i.bytes)) = some (some (.slice none 0 0), 1, 24) := by kernel_rfl

set_option maxHeartbeats 400000 in
theorem polyL_any (v : Value) (l : List Int) (w : World) (hv : Ints w v l) (hl : l.length ≤ 1000000) :
    Calls Tryz.prog 39 #[v] w (GivesInts w l) := by
  have hv' := hv
  obtain ⟨a, cap, rfl, _⟩ := hv'
  obtain ⟨i0, hi, hz0, hz1, hz2⟩ := info_parts Tryz.infoInt
  go_enter Tryz.func39, Tryz.ntmps39
  have kW1 := below_new w (Obj.cells #[] 3)
  go_wp2_with (at_builtin; refine wpList_append_freshI rfl (.tmp 3) (.tmp 4) 30 22 3 rfl i0 (.int .i64 0) Tryz.underlying30 Tryz.underlying22 hi hz0 hz1 hz2 rfl w.heap.size (Blk.new w _ []) rfl _ l rfl (hv.carry kW1) hl ?_; intro u w2 hu hb2)
  go_ret
  exact ⟨⟨_, rfl, hu.ints⟩, bthen kW1 hb2⟩

set_option maxRecDepth 100000 in
set_option maxHeartbeats 2000000 in
theorem rowsL_any (v : Value) (ll : List (List Int)) (w : World) (hv : RowsOf w v ll) (hl : ll.length ≤ 100000) (hl2 : ∀ l ∈ ll, l.length ≤ 1000000) :
    Calls Tryz.prog 24 #[v] w fun e w' => (∃ u, e = .returned u ∧ RowsOf w' u ll) ∧ Below w.heap.size w w' := by
  obtain ⟨ua, hua, hla, hra⟩ := hv
  obtain ⟨xa, ca, rfl, _, hca⟩ := hua
  rw [hla] at hca ⊢
  obtain ⟨i0, hi, hz0, hz1, hz2⟩ := info_parts Tryz.infoInt
  obtain ⟨j0, hj, jz0, jz1, jz2⟩ := info_parts Tryz.infoInts
  have HLA := Lib.hid hla
  clear hla
  go_enter Tryz.func24, Tryz.ntmps24
  go_wp2
  go_loopw [3, 8] (fun vo vi wr => ∃ (k : Nat) (us : List Value), k ≤ ll.length ∧ vi = .int .i64 k ∧ us.length = k ∧ wr.ownsRow w.heap.size 22 1 vo k us ∧ (∀ (j : Nat) (u : Value) (l : List Int), us[j]? = some u → ll[j]? = some l → OwnI 3 0 wr u l) ∧ Below w.heap.size w wr) (fun _ vi _ => ll.length - (intOf vi).toNat)
  case atStart => exact ⟨0, [], by omega, rfl, rfl, World.ownsRow_nil _ _ _ _, fun j u l h => by simp at h, Below.refl _ _⟩
  case round =>
    obtain ⟨k, us, hk, rfl, hlen, hown, hus, hbr⟩ := hrel
    have HLN := Lib.hid hlen
    clear hlen
    by_cases hlt : k < ll.length
    · obtain ⟨ba, oa, rfl, hda⟩ := hca (by omega)
      obtain ⟨x, hx⟩ : ∃ x, ll[k]? = some x := ⟨_, List.getElem?_eq_getElem hlt⟩
      obtain ⟨ux, hux⟩ : ∃ x, ua[k]? = some x := ⟨_, List.getElem?_eq_getElem (by rw [HLA.out]; exact hlt)⟩
      have c0 := cellb (hda k ux hux) hbr
      have ix := (hra k ux x hux hx).carry hbr
      have hlx := hl2 x (List.mem_of_getElem? hx)
      have HX := Lib.hid hx
      have HIX := Lib.hid ix
      obtain ⟨pa, pc, rfl, _⟩ := ix
      clear hda hx hca hux hra hl2
      have kW1 := below_new wr (Obj.cells #[] 3)
      have i1 : Blk (wr.alloc (Obj.cells #[] 3)) wr.heap.size 3 [] := Blk.new wr _ []
      have hix := HIX.out.carry kW1
      have s1 : (wr.alloc (Obj.cells #[] 3)).heap.size = wr.heap.size + 1 := by simp
      go_wp2_with (at_builtin; first
        | (refine wpList_append_freshI rfl (.tmp 13) (.tmp 14) 22 126 3 rfl i0 (.int .i64 0) Tryz.underlying22 Tryz.underlying126 hi hz0 hz1 hz2 rfl wr.heap.size i1 rfl _ x rfl hix hlx ?_; intro u w2 hu hb2; clear i1 hix; have hb02 := bthen kW1 hb2; have hown2 := own_below hown hb02; have hk2 := KInt.below hb02; have hs2 := (bthen hbr hb02).size; obtain ⟨pu, cu, eu, _⟩ := hu.ints; subst eu)
        | (go_loud (refine wpList_append_own _ rfl _ _ 64 rfl w.heap.size 22 j0 (.slice none 0 0) 1 24 Tryz.underlying64 hj jz0 jz1 jz2 rfl (by decide) _ _ _ rfl (hown2.alloc _) ⟨w2.heap.size, 0, none⟩ 1 1 [.slice pu x.length cu] rfl rfl (cell_one_new _ _ _) (by simp [Value.oneCell']) (by unfold maxLen; omega) (by omega) (by simp; omega) ?_; intro v' w5 hown5 hgrow5 _)))
      have hb5 := below_own (bthen hbr hb02) hown2 hgrow5
      have hk5 := kint_append hown2 (by decide) hgrow5
      have hus5 : ∀ (j : Nat) (y : Value) (l : List Int), (us ++ [.slice pu x.length cu])[j]? = some y → ll[j]? = some l → OwnI 3 0 w5 y l := by
        intro j y l hy hl'
        by_cases hj : j < us.length
        · rw [List.getElem?_append_left hj] at hy
          exact ((hus j y l hy hl').kint hk2).kint hk5
        · rw [List.getElem?_append_right (by omega)] at hy
          have hjl : ¬ us.length < j := fun hne => by
            rw [List.getElem?_eq_none (by simp; omega)] at hy
            cases hy
          obtain rfl : j = us.length := by omega
          simp at hy
          subst hy
          rw [HLN.out, HX.out] at hl'
          cases hl'
          exact hu.kint hk5
      go_wp2
      go_roundw
      case rel => exact ⟨k + 1, us ++ [.slice pu x.length cu], by omega, by go_num, by simp [HLN.out], hown5, hus5, hb5⟩
      case measure => simp [intOf]; omega
    · obtain rfl : k = ll.length := by omega
      have hout : RowsOf wr u3 ll := ⟨us, Vals.of_own (by rw [HLN.out]; exact hown), HLN.out, fun j u l h1 h2 => (hus j u l h1 h2).ints⟩
      clear hown hus
      go_wp2
      go_ret
      exact ⟨⟨_, rfl, hout⟩, hbr⟩

theorem ex_a : tableR [1, 0, 2] = [[1, 0, 2], [0, 3]] := by kernel_rfl
theorem ex_b : tableR [2, 3, 1] = [[2, 3, 1]] := by kernel_rfl
theorem ex_e1 : checkPolyE [1, 0, 2] = 0 := by kernel_rfl
theorem ex_e2 : checkPolyE [2, 3, 1] = 0 := by kernel_rfl
theorem ex_x : stableR [1, 0, 2] = true := by kernel_rfl
theorem ex_y : stableR [2, 3, 1] = false := by kernel_rfl
theorem ex_v : valueR [1, 0, 2] 0 1 = (-1, 0) := by kernel_rfl
theorem ex_e5 : valueE [1, 0, 2] 0 1 = 0 := by kernel_rfl
theorem ex_c : closedR [1] [-1, 2] [1] [1] = [0, 2] := by kernel_rfl
theorem ex_e6 : checkLoopE [1] [-1, 2] [1] [1] = 0 := by kernel_rfl
theorem ex_r : respR [1] [-1, 2] [1] [1] = [.complex .f64 4611686018427387904 0, .complex .f64 0 4611686018427387904, .complex .f64 13835058055282163712 0, .complex .f64 0 13835058055282163712] := by kernel_rfl
theorem ex_s : strengthRE [1] [-1, 2] [1] [1] 20 = (3, 0) := by kernel_rfl
theorem ex_m : certR [1] [-1, 2] [1] [1] [(1, 4)] = some [3] := by kernel_rfl
theorem ex_e9 : checkBoxE [1] [-1, 2] [1] [1] [(1, 4)] = 0 := by kernel_rfl
theorem ex_no : certR [1] [-1, 2] [1] [1] [(1, 2)] = none := by kernel_rfl
theorem ex_e10 : checkBoxE [1] [-1, 2] [1] [1] [(1, 2)] = 0 := by kernel_rfl
theorem ex_d : scaledR [-1, 2] 2 1 = [-1, 1] := by kernel_rfl
theorem ex_e11 : scaledE [-1, 2] 2 1 = 0 := by kernel_rfl
theorem ex_in : within2R [-1, 2] 1 1 = true := by kernel_rfl
theorem ex_e12 : within2E [-1, 2] 1 1 = 0 := by kernel_rfl
theorem ex_out : within2R [-1, 2] 1 2 = false := by kernel_rfl
theorem ex_e13 : within2E [-1, 2] 1 2 = 0 := by kernel_rfl
theorem ex_f : steppedR [-1, 2] [8] 3 = [8, 8, 8, 8] := by kernel_rfl
theorem ex_e14 : steppedE [-1, 2] [8] 3 = 0 := by kernel_rfl
theorem ex_g : steppedR [0, 0, 3] [5, 7] 1 = [5, 21, 0] := by kernel_rfl
theorem ex_e15 : steppedE [0, 0, 3] [5, 7] 1 = 0 := by kernel_rfl
theorem ex_ring : madeR 6 2 1 = [1, 2, 2, 2, 3, 0] := by kernel_rfl
theorem ex_e16 : made1E 6 2 1 = 0 := by kernel_rfl
theorem ex_n : locksR [1, 2, 2, 2, 3, 0] 5 2 = 3 := by kernel_rfl
theorem ex_e17 : locksE [1, 2, 2, 2, 3, 0] 5 2 = 0 := by kernel_rfl
theorem ex_l : basinR [1, 2, 2, 2, 3, 0] 2 = [0, 1, 2, 3, 4, 5] := by kernel_rfl
theorem ex_e18 : basin1E [1, 2, 2, 2, 3, 0] 2 = 0 := by kernel_rfl
theorem ex_e19 : checkBasinE [1, 2, 2, 2, 3, 0] 2 [2, 1, 0, 1, 2, 3] = 0 := by kernel_rfl
theorem ex_t : printR [1] [-1, 2] [1] [1] = ⟨#[112, 108, 97, 110, 116, 110, 117, 109, 32, 49, 10, 112, 108, 97, 110, 116, 100, 101, 110, 32, 45, 49, 32, 50, 10, 99, 111, 110, 116, 114, 111, 108, 108, 101, 114, 110, 117, 109, 32, 49, 10, 99, 111, 110, 116, 114, 111, 108, 108, 101, 114, 100, 101, 110, 32, 49, 10]⟩ := by kernel_rfl

theorem aw_a (v : Value) (w : World) (hv : Ints w v [1, 0, 2]) : Calls Tryz.prog 16 #[v] w fun e w' => (∃ u, e = .returned (.tuple #[u, .int .i64 0]) ∧ RowsOf w' u [[1, 0, 2], [0, 3]]) ∧ Below w.heap.size w w' := by
  have T := Table_any v _ w hv (by decide)
  rwa [ex_a, ex_e1] at T
theorem aw_b (v : Value) (w : World) (hv : Ints w v [2, 3, 1]) : Calls Tryz.prog 16 #[v] w fun e w' => (∃ u, e = .returned (.tuple #[u, .int .i64 0]) ∧ RowsOf w' u [[2, 3, 1]]) ∧ Below w.heap.size w w' := by
  have T := Table_any v _ w hv (by decide)
  rwa [ex_b, ex_e2] at T
theorem aw_x (v : Value) (w : World) (hv : Ints w v [1, 0, 2]) : Calls Tryz.prog 17 #[v] w fun e w' => e = .returned (.tuple #[.bool true, .int .i64 0]) ∧ Below w.heap.size w w' := by
  have T := Stable_any v _ w hv (by decide)
  rwa [ex_x, ex_e1] at T
theorem aw_y (v : Value) (w : World) (hv : Ints w v [2, 3, 1]) : Calls Tryz.prog 17 #[v] w fun e w' => e = .returned (.tuple #[.bool false, .int .i64 0]) ∧ Below w.heap.size w w' := by
  have T := Stable_any v _ w hv (by decide)
  rwa [ex_y, ex_e2] at T
theorem aw_v (v : Value) (w : World) (hv : Ints w v [1, 0, 2]) : Calls Tryz.prog 18 #[v, .agg #[.int .i64 0, .int .i64 1]] w fun e w' => e = .returned (.tuple #[.agg #[.int .i64 (-1), .int .i64 0], .int .i64 0]) ∧ Below w.heap.size w w' := by
  have T := Value_any v _ 0 1 w hv (by decide)
  rwa [ex_v, ex_e5] at T
theorem aw_c (u : Value) (w : World) (h : SingleIs w 1 u) : Calls Tryz.prog 19 #[u] w fun e w' => (∃ u, e = .returned (.tuple #[u, .int .i64 0]) ∧ Ints w' u [0, 2]) ∧ Below w.heap.size w w' := by
  obtain ⟨va, vb, vc, vd, rfl, h1, h2, h3, h4⟩ := h
  have T := Closed_any va vb vc vd _ _ _ _ w h1 h2 h3 h4 (by decide) (by decide) (by decide) (by decide)
  rwa [ex_c, ex_e6] at T
theorem aw_r (u : Value) (w : World) (hq : Quarters w) (h : SingleIs w 1 u) : Calls Tryz.prog 21 #[u] w fun e w' => e = .returned (.tuple #[.agg #[.complex .f64 4611686018427387904 0, .complex .f64 0 4611686018427387904, .complex .f64 13835058055282163712 0, .complex .f64 0 13835058055282163712], .int .i64 0]) ∧ Below w.heap.size w w' := by
  obtain ⟨va, vb, vc, vd, rfl, h1, h2, h3, h4⟩ := h
  have T := Response_any va vb vc vd _ _ _ _ w hq h1 h2 h3 h4 (by decide) (by decide) (by decide) (by decide)
  rwa [ex_r, ex_e6] at T
theorem aw_s (u : Value) (w : World) (h : SingleIs w 1 u) : Calls Tryz.prog 22 #[u, .int .i64 20] w fun e w' => e = .returned (.tuple #[.int .i64 3, .int .i64 0]) ∧ Below w.heap.size w w' := by
  obtain ⟨va, vb, vc, vd, rfl, h1, h2, h3, h4⟩ := h
  have T := Strength_any va vb vc vd _ _ _ _ 20 w h1 h2 h3 h4 (by decide) (by decide) (by decide) (by decide)
  rwa [ex_s] at T
theorem aw_m (u x : Value) (w : World) (h : SingleIs w 1 u) (hx : Pairs w x [(1, 4)]) : Calls Tryz.prog 26 #[u, x] w fun e w' => (∃ u, e = .returned (.tuple #[u, .bool true, .int .i64 0]) ∧ Ints w' u [3]) ∧ Below w.heap.size w w' := by
  obtain ⟨va, vb, vc, vd, rfl, h1, h2, h3, h4⟩ := h
  have T := Certify_any va vb vc vd x _ _ _ _ _ w h1 h2 h3 h4 hx (by decide) (by decide) (by decide) (by decide) (by decide)
  rwa [ex_m, ex_e9] at T
theorem aw_no (u x : Value) (w : World) (h : SingleIs w 1 u) (hx : Pairs w x [(1, 2)]) : Calls Tryz.prog 26 #[u, x] w fun e w' => (∃ u, e = .returned (.tuple #[u, .bool false, .int .i64 0]) ∧ Ints w' u []) ∧ Below w.heap.size w w' := by
  obtain ⟨va, vb, vc, vd, rfl, h1, h2, h3, h4⟩ := h
  have T := Certify_any va vb vc vd x _ _ _ _ _ w h1 h2 h3 h4 hx (by decide) (by decide) (by decide) (by decide) (by decide)
  rwa [ex_no, ex_e10] at T
theorem aw_d (v : Value) (w : World) (hv : Ints w v [-1, 2]) : Calls Tryz.prog 27 #[v, .agg #[.int .i64 2, .int .i64 1]] w fun e w' => (∃ u, e = .returned (.tuple #[u, .int .i64 0]) ∧ Ints w' u [-1, 1]) ∧ Below w.heap.size w w' := by
  have T := Scaled_any v _ 2 1 w hv (by decide) (by decide) (by decide)
  rwa [ex_d, ex_e11] at T
theorem aw_in (v : Value) (w : World) (hv : Ints w v [-1, 2]) : Calls Tryz.prog 28 #[v, .agg #[.int .i64 1, .int .i64 1]] w fun e w' => e = .returned (.tuple #[.bool true, .int .i64 0]) ∧ Below w.heap.size w w' := by
  have T := Within_any v _ 1 1 w hv (by decide) (by decide) (by decide)
  rwa [ex_in, ex_e12] at T
theorem aw_out (v : Value) (w : World) (hv : Ints w v [-1, 2]) : Calls Tryz.prog 28 #[v, .agg #[.int .i64 1, .int .i64 2]] w fun e w' => e = .returned (.tuple #[.bool false, .int .i64 0]) ∧ Below w.heap.size w w' := by
  have T := Within_any v _ 1 2 w hv (by decide) (by decide) (by decide)
  rwa [ex_out, ex_e13] at T
theorem aw_f (v u : Value) (w : World) (hv : Ints w v [-1, 2]) (hu : Ints w u [8]) : Calls Tryz.prog 29 #[v, u, .int .i64 3] w fun e w' => (∃ u, e = .returned (.tuple #[u, .int .i64 0]) ∧ Ints w' u [8, 8, 8, 8]) ∧ Below w.heap.size w w' := by
  have T := Stepped_any v u _ _ 3 w hv hu (by decide) (by decide)
  rwa [ex_f, ex_e14] at T
theorem aw_g (v u : Value) (w : World) (hv : Ints w v [0, 0, 3]) (hu : Ints w u [5, 7]) : Calls Tryz.prog 29 #[v, u, .int .i64 1] w fun e w' => (∃ u, e = .returned (.tuple #[u, .int .i64 0]) ∧ Ints w' u [5, 21, 0]) ∧ Below w.heap.size w w' := by
  have T := Stepped_any v u _ _ 1 w hv hu (by decide) (by decide)
  rwa [ex_g, ex_e15] at T
theorem aw_ring (w : World) : Calls Tryz.prog 30 #[.int .i64 6, .int .i64 2, .int .i64 1] w fun e w' => (∃ u, e = .returned (.tuple #[u, .int .i64 0]) ∧ Ints w' u [1, 2, 2, 2, 3, 0]) ∧ Below w.heap.size w w' := by
  have T := Made_any 6 2 1 w
  rwa [ex_ring, ex_e16] at T
theorem aw_n (v : Value) (w : World) (hv : Ints w v [1, 2, 2, 2, 3, 0]) : Calls Tryz.prog 31 #[v, .int .i64 5, .int .i64 2] w fun e w' => e = .returned (.tuple #[.int .i64 3, .int .i64 0]) ∧ Below w.heap.size w w' := by
  have T := Locks_any v _ 5 2 w hv (by decide)
  rwa [ex_n, ex_e17] at T
theorem aw_l (v : Value) (w : World) (hv : Ints w v [1, 2, 2, 2, 3, 0]) : Calls Tryz.prog 32 #[v, .int .i64 2] w fun e w' => (∃ u, e = .returned (.tuple #[u, .int .i64 0]) ∧ Ints w' u [0, 1, 2, 3, 4, 5]) ∧ Below w.heap.size w w' := by
  have T := Basin_any v _ 2 w hv (by decide)
  rwa [ex_l, ex_e18] at T
theorem aw_e19 (v u : Value) (w : World) (hv : Ints w v [1, 2, 2, 2, 3, 0]) (hu : Ints w u [2, 1, 0, 1, 2, 3]) : Calls Tryz.prog 33 #[v, .int .i64 2, u] w fun e w' => e = .returned (.int .i64 0) ∧ Below w.heap.size w w' := by
  have T := CheckBasin_any v u _ _ 2 w hv hu (by decide) (by decide)
  rwa [ex_e19] at T
theorem aw_t (u : Value) (w : World) (hp : Pows w) (h : SingleIs w 1 u) : Calls Tryz.prog 7 #[u] w fun e w' => e = .returned (.tuple #[.string ⟨#[112, 108, 97, 110, 116, 110, 117, 109, 32, 49, 10, 112, 108, 97, 110, 116, 100, 101, 110, 32, 45, 49, 32, 50, 10, 99, 111, 110, 116, 114, 111, 108, 108, 101, 114, 110, 117, 109, 32, 49, 10, 99, 111, 110, 116, 114, 111, 108, 108, 101, 114, 100, 101, 110, 32, 49, 10]⟩, .int .i64 0]) ∧ Below w.heap.size w w' := by
  obtain ⟨va, vb, vc, vd, rfl, h1, h2, h3, h4⟩ := h
  have T := Print_any va vb vc vd _ _ _ _ w hp h1 h2 h3 h4 (by decide) (by decide) (by decide) (by decide)
  rwa [ex_t, ex_e6] at T

theorem RowsOf.of_blk {w : World} {B n : Nat} {T : TypeId} {us : List Value} {ll : List (List Int)} (h : Blk w B T us) (hn : n = us.length) (hl : us.length = ll.length) (hr : ∀ (j : Nat) (u : Value) (l : List Int), us[j]? = some u → ll[j]? = some l → Ints w u l) :
    RowsOf w (.slice (some ⟨B, 0, none⟩) n n) ll := by
  subst hn
  exact ⟨us, ⟨_, _, rfl, Nat.le_refl _, fun _ => ⟨_, _, rfl, fun j u hj => by rw [Nat.zero_add]; exact h.cell hj⟩⟩, hl, hr⟩
theorem RowsOf.lit1 {w : World} {B : Nat} {T : TypeId} {u : Value} {l : List Int} (h : Blk w B T [u]) (hu : Ints w u l) : RowsOf w (.slice (some ⟨B, 0, none⟩) 1 1) [l] :=
  RowsOf.of_blk h rfl rfl fun j x y hx hy => by
    match j, hx, hy with
    | 0, hx, hy => cases hx; cases hy; exact hu
theorem RowsOf.lit2 {w : World} {B : Nat} {T : TypeId} {u u' : Value} {l l' : List Int} (h : Blk w B T [u, u']) (hu : Ints w u l) (hu' : Ints w u' l') : RowsOf w (.slice (some ⟨B, 0, none⟩) 2 2) [l, l'] :=
  RowsOf.of_blk h rfl rfl fun j x y hx hy => by
    match j, hx, hy with
    | 0, hx, hy => cases hx; cases hy; exact hu
    | 1, hx, hy => cases hx; cases hy; exact hu'
theorem sameInts (u v : Value) (l : List Int) (w : World) (hu : Ints w u l) (hv : Ints w v l) (hl : l.length ≤ 1000000) : Calls Tryz.prog 25 #[u, v] w fun e w' => e = .returned (.bool true) ∧ Below w.heap.size w w' := by
  have T := SameInts_any u v l l w hu hv (by omega)
  rwa [show decide (l = l) = true by simp] at T
theorem sameRows (u v : Value) (l : List (List Int)) (w : World) (hu : RowsOf w u l) (hv : RowsOf w v l) (hl : l.length ≤ 1000000) (hl2 : ∀ x ∈ l, x.length ≤ 1000000) : Calls Tryz.prog 23 #[u, v] w fun e w' => e = .returned (.bool true) ∧ Below w.heap.size w w' := by
  have T := SameRows_any u v l l w hu hv (by omega) (fun x hx => by have := hl2 x hx; omega)
  rwa [show decide (l = l) = true by simp] at T
theorem Pairs.lit1 {w : World} {B : Nat} {T : TypeId} {a b : Int} (h : Blk w B T [.int .i64 a, .int .i64 b]) : Pairs w (.slice (some ⟨B, 0, none⟩) 1 1) [(a, b)] :=
  ⟨_, _, rfl, Nat.le_refl _, fun _ => ⟨_, _, rfl, fun j x hj => by
    match j, hj with
    | 0, hj => cases hj; exact ⟨h.cell rfl, h.cell rfl⟩⟩⟩
theorem neqR (w : World) : Sem.run Tryz.prog (binOp .neq 58 (.agg #[.complex .f64 4611686018427387904 0, .complex .f64 0 4611686018427387904, .complex .f64 13835058055282163712 0, .complex .f64 0 13835058055282163712]) (.agg #[.complex .f64 4611686018427387904 0, .complex .f64 0 4611686018427387904, .complex .f64 13835058055282163712 0, .complex .f64 0 13835058055282163712])) w = .ok (.bool false) w := by kernel_rfl
theorem neqG (w : World) : Sem.run Tryz.prog (binOp .neq 51 (.agg #[.int .i64 (-1), .int .i64 0]) (.agg #[.int .i64 (-1), .int .i64 0])) w = .ok (.bool false) w := by kernel_rfl

set_option maxRecDepth 100000 in
set_option maxHeartbeats 20000000 in
theorem awake_any (w : World) (hq : Quarters w) (hp : Pows w) : Calls Tryz.prog 6 #[] w fun e w' => e = .returned (.bool true) ∧ Below w.heap.size w w' := by
  have hB : Below w.heap.size w w := Below.refl _ _
  go_enter Tryz.func6, Tryz.ntmps6
  go_wp2_with fail
  obtain ⟨W1, hW1⟩ : ∃ v, v = World.alloc w (Obj.cells #[.int .i64 1, .int .i64 0, .int .i64 2] 3) := ⟨_, rfl⟩
  have kW1 : Below w.heap.size w W1 := by rw [hW1]; exact below_new _ _
  have iW1 : Blk W1 (w.heap.size) 3 [.int .i64 1, .int .i64 0, .int .i64 2] := by rw [hW1]; exact Blk.new _ _ _
  have sW1 : W1.heap.size = w.heap.size + 1 := by rw [hW1]; simp
  rw [← hW1]
  clear hW1
  clear sW1
  replace hB := bthen hB kW1
  have v1 := BlkI.ints (n := 3) (l := [1, 0, 2]) iW1 rfl
  clear iW1 kW1
  refine (aw_a _ W1 v1).mono ?_
  rintro e W2 ⟨⟨ua, rfl, ha⟩, hl⟩
  replace hB := bthen hB hl
  replace v1 := v1.carry hl
  clear hl
  clear v1
  go_wp2_with fail
  obtain ⟨W3, hW3⟩ : ∃ v, v = World.alloc W2 (Obj.cells #[.int .i64 2, .int .i64 3, .int .i64 1] 3) := ⟨_, rfl⟩
  have kW3 : Below W2.heap.size W2 W3 := by rw [hW3]; exact below_new _ _
  have iW3 : Blk W3 (W2.heap.size) 3 [.int .i64 2, .int .i64 3, .int .i64 1] := by rw [hW3]; exact Blk.new _ _ _
  have sW3 : W3.heap.size = W2.heap.size + 1 := by rw [hW3]; simp
  rw [← hW3]
  clear hW3
  clear sW3
  replace hB := bthen hB kW3
  replace ha := ha.carry kW3
  have v1 := BlkI.ints (n := 3) (l := [2, 3, 1]) iW3 rfl
  clear iW3 kW3
  refine (aw_b _ W3 v1).mono ?_
  rintro e W4 ⟨⟨ub, rfl, hb⟩, hl⟩
  replace hB := bthen hB hl
  replace ha := ha.carry hl
  replace v1 := v1.carry hl
  clear hl
  clear v1
  go_wp2_with fail
  obtain ⟨W5, hW5⟩ : ∃ v, v = World.alloc W4 (Obj.cells #[.int .i64 1, .int .i64 0, .int .i64 2] 3) := ⟨_, rfl⟩
  have kW5 : Below W4.heap.size W4 W5 := by rw [hW5]; exact below_new _ _
  have iW5 : Blk W5 (W4.heap.size) 3 [.int .i64 1, .int .i64 0, .int .i64 2] := by rw [hW5]; exact Blk.new _ _ _
  have sW5 : W5.heap.size = W4.heap.size + 1 := by rw [hW5]; simp
  rw [← hW5]
  clear hW5
  clear sW5
  replace hB := bthen hB kW5
  replace ha := ha.carry kW5
  replace hb := hb.carry kW5
  have v1 := BlkI.ints (n := 3) (l := [1, 0, 2]) iW5 rfl
  clear iW5 kW5
  refine (aw_x _ W5 v1).mono ?_
  rintro e W6 ⟨rfl, hl⟩
  replace hB := bthen hB hl
  replace ha := ha.carry hl
  replace hb := hb.carry hl
  replace v1 := v1.carry hl
  clear hl
  clear v1
  go_wp2_with fail
  obtain ⟨W7, hW7⟩ : ∃ v, v = World.alloc W6 (Obj.cells #[.int .i64 2, .int .i64 3, .int .i64 1] 3) := ⟨_, rfl⟩
  have kW7 : Below W6.heap.size W6 W7 := by rw [hW7]; exact below_new _ _
  have iW7 : Blk W7 (W6.heap.size) 3 [.int .i64 2, .int .i64 3, .int .i64 1] := by rw [hW7]; exact Blk.new _ _ _
  have sW7 : W7.heap.size = W6.heap.size + 1 := by rw [hW7]; simp
  rw [← hW7]
  clear hW7
  clear sW7
  replace hB := bthen hB kW7
  replace ha := ha.carry kW7
  replace hb := hb.carry kW7
  have v1 := BlkI.ints (n := 3) (l := [2, 3, 1]) iW7 rfl
  clear iW7 kW7
  refine (aw_y _ W7 v1).mono ?_
  rintro e W8 ⟨rfl, hl⟩
  replace hB := bthen hB hl
  replace ha := ha.carry hl
  replace hb := hb.carry hl
  replace v1 := v1.carry hl
  clear hl
  clear v1
  go_wp2_with fail
  obtain ⟨W9, hW9⟩ : ∃ v, v = World.alloc W8 (Obj.cells #[.int .i64 1, .int .i64 0, .int .i64 2] 3) := ⟨_, rfl⟩
  have kW9 : Below W8.heap.size W8 W9 := by rw [hW9]; exact below_new _ _
  have iW9 : Blk W9 (W8.heap.size) 3 [.int .i64 1, .int .i64 0, .int .i64 2] := by rw [hW9]; exact Blk.new _ _ _
  have sW9 : W9.heap.size = W8.heap.size + 1 := by rw [hW9]; simp
  rw [← hW9]
  clear hW9
  clear sW9
  replace hB := bthen hB kW9
  replace ha := ha.carry kW9
  replace hb := hb.carry kW9
  have v1 := BlkI.ints (n := 3) (l := [1, 0, 2]) iW9 rfl
  clear iW9 kW9
  refine (aw_v _ W9 v1).mono ?_
  rintro e W10 ⟨rfl, hl⟩
  replace hB := bthen hB hl
  replace ha := ha.carry hl
  replace hb := hb.carry hl
  replace v1 := v1.carry hl
  clear hl
  clear v1
  go_wp2_with fail
  obtain ⟨W11, hW11⟩ : ∃ v, v = World.alloc W10 (Obj.cells #[.int .i64 (-1), .int .i64 0] 51) := ⟨_, rfl⟩
  have kW11 : Below W10.heap.size W10 W11 := by rw [hW11]; exact below_new _ _
  have iW11 : Blk W11 (W10.heap.size) 51 [.int .i64 (-1), .int .i64 0] := by rw [hW11]; exact Blk.new _ _ _
  have sW11 : W11.heap.size = W10.heap.size + 1 := by rw [hW11]; simp
  rw [← hW11]
  clear hW11
  clear sW11
  replace hB := bthen hB kW11
  replace ha := ha.carry kW11
  replace hb := hb.carry kW11
  generalize W10.heap.size = BG at iW11 ⊢
  have hg := iW11
  clear iW11
  refine (single_any 1 W11).mono ?_
  rintro e W12 ⟨⟨us, rfl, hs⟩, hl⟩
  replace hB := bthen hB hl
  replace ha := ha.carry hl
  replace hb := hb.carry hl
  replace hg := hg.carry hl
  clear hl
  go_wp2_with fail
  refine (aw_c us W12 hs).mono ?_
  rintro e W13 ⟨⟨uc, rfl, hc⟩, hl⟩
  replace hB := bthen hB hl
  replace ha := ha.carry hl
  replace hb := hb.carry hl
  replace hg := hg.carry hl
  replace hs := hs.carry hl
  clear hl
  clear hs
  go_wp2_with fail
  refine (single_any 1 W13).mono ?_
  rintro e W14 ⟨⟨us, rfl, hs⟩, hl⟩
  replace hB := bthen hB hl
  replace ha := ha.carry hl
  replace hb := hb.carry hl
  replace hg := hg.carry hl
  replace hc := hc.carry hl
  clear hl
  go_wp2_with fail
  refine (aw_r us W14 (hq.below hB hq.size) hs).mono ?_
  rintro e W15 ⟨rfl, hl⟩
  replace hB := bthen hB hl
  replace ha := ha.carry hl
  replace hb := hb.carry hl
  replace hg := hg.carry hl
  replace hc := hc.carry hl
  replace hs := hs.carry hl
  clear hl
  clear hs
  have hsx := store_cx
  go_wp2_with fail
  obtain ⟨W16, hW16⟩ : ∃ v, v = World.alloc W15 (Obj.cells #[.complex .f64 4611686018427387904 0, .complex .f64 0 4611686018427387904, .complex .f64 13835058055282163712 0, .complex .f64 0 13835058055282163712] 58) := ⟨_, rfl⟩
  have kW16 : Below W15.heap.size W15 W16 := by rw [hW16]; exact below_new _ _
  have iW16 : Blk W16 (W15.heap.size) 58 [.complex .f64 4611686018427387904 0, .complex .f64 0 4611686018427387904, .complex .f64 13835058055282163712 0, .complex .f64 0 13835058055282163712] := by rw [hW16]; exact Blk.new _ _ _
  have sW16 : W16.heap.size = W15.heap.size + 1 := by rw [hW16]; simp
  rw [← hW16]
  clear hW16
  clear sW16
  replace hB := bthen hB kW16
  replace ha := ha.carry kW16
  replace hb := hb.carry kW16
  replace hg := hg.carry kW16
  replace hc := hc.carry kW16
  generalize W15.heap.size = BR at iW16 ⊢
  have hr := iW16
  clear iW16
  refine (single_any 1 W16).mono ?_
  rintro e W17 ⟨⟨us, rfl, hs⟩, hl⟩
  replace hB := bthen hB hl
  replace ha := ha.carry hl
  replace hb := hb.carry hl
  replace hg := hg.carry hl
  replace hc := hc.carry hl
  replace hr := hr.carry hl
  clear hl
  go_wp2_with fail
  refine (aw_s us W17 hs).mono ?_
  rintro e W18 ⟨rfl, hl⟩
  replace hB := bthen hB hl
  replace ha := ha.carry hl
  replace hb := hb.carry hl
  replace hg := hg.carry hl
  replace hc := hc.carry hl
  replace hr := hr.carry hl
  replace hs := hs.carry hl
  clear hl
  clear hs
  go_wp2_with fail
  refine (rowsL_any ua _ W18 ha (by decide) (by decide)).mono ?_
  rintro e W19 ⟨⟨u1, rfl, h1⟩, hl⟩
  replace hB := bthen hB hl
  replace ha := ha.carry hl
  replace hb := hb.carry hl
  replace hg := hg.carry hl
  replace hc := hc.carry hl
  replace hr := hr.carry hl
  clear hl
  clear ha
  go_wp2_with fail
  obtain ⟨W20, hW20⟩ : ∃ v, v = World.alloc W19 (Obj.cells #[.int .i64 1, .int .i64 0, .int .i64 2] 3) := ⟨_, rfl⟩
  have kW20 : Below W19.heap.size W19 W20 := by rw [hW20]; exact below_new _ _
  have iW20 : Blk W20 (W19.heap.size) 3 [.int .i64 1, .int .i64 0, .int .i64 2] := by rw [hW20]; exact Blk.new _ _ _
  have sW20 : W20.heap.size = W19.heap.size + 1 := by rw [hW20]; simp
  rw [← hW20]
  clear hW20
  replace hB := bthen hB kW20
  replace hb := hb.carry kW20
  replace hg := hg.carry kW20
  replace hc := hc.carry kW20
  replace hr := hr.carry kW20
  replace h1 := h1.carry kW20
  have b1 := iW20
  clear iW20
  obtain ⟨W21, hW21⟩ : ∃ v, v = World.alloc W20 (Obj.cells #[.int .i64 0, .int .i64 3] 3) := ⟨_, rfl⟩
  have kW21 : Below W20.heap.size W20 W21 := by rw [hW21]; exact below_new _ _
  have iW21 : Blk W21 (W19.heap.size + 1) 3 [.int .i64 0, .int .i64 3] := by rw [hW21, ← sW20]; exact Blk.new _ _ _
  have sW21 : W21.heap.size = W19.heap.size + 1 + 1 := by rw [hW21]; simp [sW20]
  rw [← hW21]
  clear hW21
  replace hB := bthen hB kW21
  replace hb := hb.carry kW21
  replace hg := hg.carry kW21
  replace hc := hc.carry kW21
  replace hr := hr.carry kW21
  replace h1 := h1.carry kW21
  replace b1 := b1.carry kW21
  have b2 := iW21
  clear iW21
  obtain ⟨W22, hW22⟩ : ∃ v, v = World.alloc W21 (Obj.cells #[.slice (some ⟨W19.heap.size, 0, none⟩) 3 3, .slice (some ⟨W19.heap.size + 1, 0, none⟩) 2 2] 22) := ⟨_, rfl⟩
  have kW22 : Below W21.heap.size W21 W22 := by rw [hW22]; exact below_new _ _
  have iW22 : Blk W22 (W19.heap.size + 1 + 1) 22 [.slice (some ⟨W19.heap.size, 0, none⟩) 3 3, .slice (some ⟨W19.heap.size + 1, 0, none⟩) 2 2] := by rw [hW22, ← sW21]; exact Blk.new _ _ _
  have sW22 : W22.heap.size = W19.heap.size + 1 + 1 + 1 := by rw [hW22]; simp [sW21]
  rw [← hW22]
  clear hW22
  replace hB := bthen hB kW22
  replace hb := hb.carry kW22
  replace hg := hg.carry kW22
  replace hc := hc.carry kW22
  replace hr := hr.carry kW22
  replace h1 := h1.carry kW22
  replace b1 := b1.carry kW22
  replace b2 := b2.carry kW22
  have b3 := iW22
  clear iW22
  clear sW22
  clear sW21
  clear sW20
  replace b1 := BlkI.ints (n := 3) (l := [1, 0, 2]) b1 rfl
  replace b2 := BlkI.ints (n := 2) (l := [0, 3]) b2 rfl
  refine (sameRows u1 _ _ W22 h1 (RowsOf.lit2 b3 b1 b2) (by decide) (by decide)).mono ?_
  rintro e W23 ⟨rfl, hl⟩
  replace hB := bthen hB hl
  replace hb := hb.carry hl
  replace hg := hg.carry hl
  replace hc := hc.carry hl
  replace hr := hr.carry hl
  replace h1 := h1.carry hl
  replace b1 := b1.carry hl
  replace b2 := b2.carry hl
  replace b3 := b3.carry hl
  clear hl
  clear h1
  clear b1
  clear b2
  clear b3
  go_wp2_with fail
  refine (rowsL_any ub _ W23 hb (by decide) (by decide)).mono ?_
  rintro e W24 ⟨⟨u1, rfl, h1⟩, hl⟩
  replace hB := bthen hB hl
  replace hb := hb.carry hl
  replace hg := hg.carry hl
  replace hc := hc.carry hl
  replace hr := hr.carry hl
  clear hl
  clear hb
  go_wp2_with fail
  obtain ⟨W25, hW25⟩ : ∃ v, v = World.alloc W24 (Obj.cells #[.int .i64 2, .int .i64 3, .int .i64 1] 3) := ⟨_, rfl⟩
  have kW25 : Below W24.heap.size W24 W25 := by rw [hW25]; exact below_new _ _
  have iW25 : Blk W25 (W24.heap.size) 3 [.int .i64 2, .int .i64 3, .int .i64 1] := by rw [hW25]; exact Blk.new _ _ _
  have sW25 : W25.heap.size = W24.heap.size + 1 := by rw [hW25]; simp
  rw [← hW25]
  clear hW25
  replace hB := bthen hB kW25
  replace hg := hg.carry kW25
  replace hc := hc.carry kW25
  replace hr := hr.carry kW25
  replace h1 := h1.carry kW25
  have b1 := iW25
  clear iW25
  obtain ⟨W26, hW26⟩ : ∃ v, v = World.alloc W25 (Obj.cells #[.slice (some ⟨W24.heap.size, 0, none⟩) 3 3] 22) := ⟨_, rfl⟩
  have kW26 : Below W25.heap.size W25 W26 := by rw [hW26]; exact below_new _ _
  have iW26 : Blk W26 (W24.heap.size + 1) 22 [.slice (some ⟨W24.heap.size, 0, none⟩) 3 3] := by rw [hW26, ← sW25]; exact Blk.new _ _ _
  have sW26 : W26.heap.size = W24.heap.size + 1 + 1 := by rw [hW26]; simp [sW25]
  rw [← hW26]
  clear hW26
  replace hB := bthen hB kW26
  replace hg := hg.carry kW26
  replace hc := hc.carry kW26
  replace hr := hr.carry kW26
  replace h1 := h1.carry kW26
  replace b1 := b1.carry kW26
  have b3 := iW26
  clear iW26
  clear sW26
  clear sW25
  replace b1 := BlkI.ints (n := 3) (l := [2, 3, 1]) b1 rfl
  refine (sameRows u1 _ _ W26 h1 (RowsOf.lit1 b3 b1) (by decide) (by decide)).mono ?_
  rintro e W27 ⟨rfl, hl⟩
  replace hB := bthen hB hl
  replace hg := hg.carry hl
  replace hc := hc.carry hl
  replace hr := hr.carry hl
  replace h1 := h1.carry hl
  replace b1 := b1.carry hl
  replace b3 := b3.carry hl
  clear hl
  clear h1
  clear b1
  clear b3
  have g0 := hg.cell (j := 0) (v := .int .i64 (-1)) rfl
  have g1 := hg.cell (j := 1) (v := .int .i64 0) rfl
  have hng := neqG
  go_wp2_with fail
  clear g0 g1 hng
  obtain ⟨W28, hW28⟩ : ∃ v, v = World.alloc W27 (Obj.cells #[.int .i64 0, .int .i64 2] 3) := ⟨_, rfl⟩
  have kW28 : Below W27.heap.size W27 W28 := by rw [hW28]; exact below_new _ _
  have iW28 : Blk W28 (W27.heap.size) 3 [.int .i64 0, .int .i64 2] := by rw [hW28]; exact Blk.new _ _ _
  have sW28 : W28.heap.size = W27.heap.size + 1 := by rw [hW28]; simp
  rw [← hW28]
  clear hW28
  clear sW28
  replace hB := bthen hB kW28
  replace hg := hg.carry kW28
  replace hc := hc.carry kW28
  replace hr := hr.carry kW28
  have v1 := BlkI.ints (n := 2) (l := [0, 2]) iW28 rfl
  clear iW28 kW28
  refine (sameInts uc _ _ W28 hc v1 (by decide)).mono ?_
  rintro e W29 ⟨rfl, hl⟩
  replace hB := bthen hB hl
  replace hg := hg.carry hl
  replace hc := hc.carry hl
  replace hr := hr.carry hl
  replace v1 := v1.carry hl
  clear hl
  clear hc
  clear v1
  clear hg
  have r0 := hr.cell (j := 0) (v := .complex .f64 4611686018427387904 0) rfl
  have r1 := hr.cell (j := 1) (v := .complex .f64 0 4611686018427387904) rfl
  have r2 := hr.cell (j := 2) (v := .complex .f64 13835058055282163712 0) rfl
  have r3 := hr.cell (j := 3) (v := .complex .f64 0 13835058055282163712) rfl
  have hnr := neqR
  go_wp2_with fail
  clear r0 r1 r2 r3 hnr hsx
  clear hr
  refine (single_any 1 W29).mono ?_
  rintro e W30 ⟨⟨us, rfl, hs⟩, hl⟩
  replace hB := bthen hB hl
  clear hl
  go_wp2_with fail
  obtain ⟨W31, hW31⟩ : ∃ v, v = World.alloc W30 (Obj.cells #[.int .i64 1, .int .i64 4] 70) := ⟨_, rfl⟩
  have kW31 : Below W30.heap.size W30 W31 := by rw [hW31]; exact below_new _ _
  have iW31 : Blk W31 (W30.heap.size) 70 [.int .i64 1, .int .i64 4] := by rw [hW31]; exact Blk.new _ _ _
  have sW31 : W31.heap.size = W30.heap.size + 1 := by rw [hW31]; simp
  rw [← hW31]
  clear hW31
  replace hB := bthen hB kW31
  replace hs := hs.carry kW31
  have bx := iW31
  clear iW31
  clear sW31
  refine (aw_m us _ W31 hs (Pairs.lit1 bx)).mono ?_
  rintro e W32 ⟨⟨um, rfl, hm⟩, hl⟩
  replace hB := bthen hB hl
  replace hs := hs.carry hl
  replace bx := bx.carry hl
  clear hl
  clear hs
  clear bx
  go_wp2_with fail
  refine (single_any 1 W32).mono ?_
  rintro e W33 ⟨⟨us, rfl, hs⟩, hl⟩
  replace hB := bthen hB hl
  replace hm := hm.carry hl
  clear hl
  go_wp2_with fail
  obtain ⟨W34, hW34⟩ : ∃ v, v = World.alloc W33 (Obj.cells #[.int .i64 1, .int .i64 2] 70) := ⟨_, rfl⟩
  have kW34 : Below W33.heap.size W33 W34 := by rw [hW34]; exact below_new _ _
  have iW34 : Blk W34 (W33.heap.size) 70 [.int .i64 1, .int .i64 2] := by rw [hW34]; exact Blk.new _ _ _
  have sW34 : W34.heap.size = W33.heap.size + 1 := by rw [hW34]; simp
  rw [← hW34]
  clear hW34
  replace hB := bthen hB kW34
  replace hm := hm.carry kW34
  replace hs := hs.carry kW34
  have bx := iW34
  clear iW34
  clear sW34
  refine (aw_no us _ W34 hs (Pairs.lit1 bx)).mono ?_
  rintro e W35 ⟨⟨uno, rfl, hno⟩, hl⟩
  replace hB := bthen hB hl
  replace hm := hm.carry hl
  replace hs := hs.carry hl
  replace bx := bx.carry hl
  clear hl
  clear hno
  clear hs
  clear bx
  go_wp2_with fail
  obtain ⟨W36, hW36⟩ : ∃ v, v = World.alloc W35 (Obj.cells #[.int .i64 (-1), .int .i64 2] 3) := ⟨_, rfl⟩
  have kW36 : Below W35.heap.size W35 W36 := by rw [hW36]; exact below_new _ _
  have iW36 : Blk W36 (W35.heap.size) 3 [.int .i64 (-1), .int .i64 2] := by rw [hW36]; exact Blk.new _ _ _
  have sW36 : W36.heap.size = W35.heap.size + 1 := by rw [hW36]; simp
  rw [← hW36]
  clear hW36
  clear sW36
  replace hB := bthen hB kW36
  replace hm := hm.carry kW36
  have v1 := BlkI.ints (n := 2) (l := [-1, 2]) iW36 rfl
  clear iW36 kW36
  refine (aw_d _ W36 v1).mono ?_
  rintro e W37 ⟨⟨ud, rfl, hd⟩, hl⟩
  replace hB := bthen hB hl
  replace hm := hm.carry hl
  replace v1 := v1.carry hl
  clear hl
  clear v1
  go_wp2_with fail
  obtain ⟨W38, hW38⟩ : ∃ v, v = World.alloc W37 (Obj.cells #[.int .i64 (-1), .int .i64 2] 3) := ⟨_, rfl⟩
  have kW38 : Below W37.heap.size W37 W38 := by rw [hW38]; exact below_new _ _
  have iW38 : Blk W38 (W37.heap.size) 3 [.int .i64 (-1), .int .i64 2] := by rw [hW38]; exact Blk.new _ _ _
  have sW38 : W38.heap.size = W37.heap.size + 1 := by rw [hW38]; simp
  rw [← hW38]
  clear hW38
  clear sW38
  replace hB := bthen hB kW38
  replace hm := hm.carry kW38
  replace hd := hd.carry kW38
  have v1 := BlkI.ints (n := 2) (l := [-1, 2]) iW38 rfl
  clear iW38 kW38
  refine (aw_in _ W38 v1).mono ?_
  rintro e W39 ⟨rfl, hl⟩
  replace hB := bthen hB hl
  replace hm := hm.carry hl
  replace hd := hd.carry hl
  replace v1 := v1.carry hl
  clear hl
  clear v1
  go_wp2_with fail
  obtain ⟨W40, hW40⟩ : ∃ v, v = World.alloc W39 (Obj.cells #[.int .i64 (-1), .int .i64 2] 3) := ⟨_, rfl⟩
  have kW40 : Below W39.heap.size W39 W40 := by rw [hW40]; exact below_new _ _
  have iW40 : Blk W40 (W39.heap.size) 3 [.int .i64 (-1), .int .i64 2] := by rw [hW40]; exact Blk.new _ _ _
  have sW40 : W40.heap.size = W39.heap.size + 1 := by rw [hW40]; simp
  rw [← hW40]
  clear hW40
  clear sW40
  replace hB := bthen hB kW40
  replace hm := hm.carry kW40
  replace hd := hd.carry kW40
  have v1 := BlkI.ints (n := 2) (l := [-1, 2]) iW40 rfl
  clear iW40 kW40
  refine (aw_out _ W40 v1).mono ?_
  rintro e W41 ⟨rfl, hl⟩
  replace hB := bthen hB hl
  replace hm := hm.carry hl
  replace hd := hd.carry hl
  replace v1 := v1.carry hl
  clear hl
  clear v1
  go_wp2_with fail
  obtain ⟨W42, hW42⟩ : ∃ v, v = World.alloc W41 (Obj.cells #[.int .i64 (-1), .int .i64 2] 3) := ⟨_, rfl⟩
  have kW42 : Below W41.heap.size W41 W42 := by rw [hW42]; exact below_new _ _
  have iW42 : Blk W42 (W41.heap.size) 3 [.int .i64 (-1), .int .i64 2] := by rw [hW42]; exact Blk.new _ _ _
  have sW42 : W42.heap.size = W41.heap.size + 1 := by rw [hW42]; simp
  rw [← hW42]
  clear hW42
  replace hB := bthen hB kW42
  replace hm := hm.carry kW42
  replace hd := hd.carry kW42
  have b1 := iW42
  clear iW42
  obtain ⟨W43, hW43⟩ : ∃ v, v = World.alloc W42 (Obj.cells #[.int .i64 8] 3) := ⟨_, rfl⟩
  have kW43 : Below W42.heap.size W42 W43 := by rw [hW43]; exact below_new _ _
  have iW43 : Blk W43 (W41.heap.size + 1) 3 [.int .i64 8] := by rw [hW43, ← sW42]; exact Blk.new _ _ _
  have sW43 : W43.heap.size = W41.heap.size + 1 + 1 := by rw [hW43]; simp [sW42]
  rw [← hW43]
  clear hW43
  replace hB := bthen hB kW43
  replace hm := hm.carry kW43
  replace hd := hd.carry kW43
  replace b1 := b1.carry kW43
  have b2 := iW43
  clear iW43
  clear sW43
  clear sW42
  replace b1 := BlkI.ints (n := 2) (l := [-1, 2]) b1 rfl
  replace b2 := BlkI.ints (n := 1) (l := [8]) b2 rfl
  refine (aw_f _ _ W43 b1 b2).mono ?_
  rintro e W44 ⟨⟨uf, rfl, hf⟩, hl⟩
  replace hB := bthen hB hl
  replace hm := hm.carry hl
  replace hd := hd.carry hl
  replace b1 := b1.carry hl
  replace b2 := b2.carry hl
  clear hl
  clear b1
  clear b2
  go_wp2_with fail
  obtain ⟨W45, hW45⟩ : ∃ v, v = World.alloc W44 (Obj.cells #[.int .i64 0, .int .i64 0, .int .i64 3] 3) := ⟨_, rfl⟩
  have kW45 : Below W44.heap.size W44 W45 := by rw [hW45]; exact below_new _ _
  have iW45 : Blk W45 (W44.heap.size) 3 [.int .i64 0, .int .i64 0, .int .i64 3] := by rw [hW45]; exact Blk.new _ _ _
  have sW45 : W45.heap.size = W44.heap.size + 1 := by rw [hW45]; simp
  rw [← hW45]
  clear hW45
  replace hB := bthen hB kW45
  replace hm := hm.carry kW45
  replace hd := hd.carry kW45
  replace hf := hf.carry kW45
  have b1 := iW45
  clear iW45
  obtain ⟨W46, hW46⟩ : ∃ v, v = World.alloc W45 (Obj.cells #[.int .i64 5, .int .i64 7] 3) := ⟨_, rfl⟩
  have kW46 : Below W45.heap.size W45 W46 := by rw [hW46]; exact below_new _ _
  have iW46 : Blk W46 (W44.heap.size + 1) 3 [.int .i64 5, .int .i64 7] := by rw [hW46, ← sW45]; exact Blk.new _ _ _
  have sW46 : W46.heap.size = W44.heap.size + 1 + 1 := by rw [hW46]; simp [sW45]
  rw [← hW46]
  clear hW46
  replace hB := bthen hB kW46
  replace hm := hm.carry kW46
  replace hd := hd.carry kW46
  replace hf := hf.carry kW46
  replace b1 := b1.carry kW46
  have b2 := iW46
  clear iW46
  clear sW46
  clear sW45
  replace b1 := BlkI.ints (n := 3) (l := [0, 0, 3]) b1 rfl
  replace b2 := BlkI.ints (n := 2) (l := [5, 7]) b2 rfl
  refine (aw_g _ _ W46 b1 b2).mono ?_
  rintro e W47 ⟨⟨ug, rfl, hg⟩, hl⟩
  replace hB := bthen hB hl
  replace hm := hm.carry hl
  replace hd := hd.carry hl
  replace hf := hf.carry hl
  replace b1 := b1.carry hl
  replace b2 := b2.carry hl
  clear hl
  clear b1
  clear b2
  go_wp2_with fail
  obtain ⟨W48, hW48⟩ : ∃ v, v = World.alloc W47 (Obj.cells #[.int .i64 3] 3) := ⟨_, rfl⟩
  have kW48 : Below W47.heap.size W47 W48 := by rw [hW48]; exact below_new _ _
  have iW48 : Blk W48 (W47.heap.size) 3 [.int .i64 3] := by rw [hW48]; exact Blk.new _ _ _
  have sW48 : W48.heap.size = W47.heap.size + 1 := by rw [hW48]; simp
  rw [← hW48]
  clear hW48
  clear sW48
  replace hB := bthen hB kW48
  replace hm := hm.carry kW48
  replace hd := hd.carry kW48
  replace hf := hf.carry kW48
  replace hg := hg.carry kW48
  have v1 := BlkI.ints (n := 1) (l := [3]) iW48 rfl
  clear iW48 kW48
  refine (sameInts um _ _ W48 hm v1 (by decide)).mono ?_
  rintro e W49 ⟨rfl, hl⟩
  replace hB := bthen hB hl
  replace hm := hm.carry hl
  replace hd := hd.carry hl
  replace hf := hf.carry hl
  replace hg := hg.carry hl
  replace v1 := v1.carry hl
  clear hl
  clear hm
  clear v1
  go_wp2_with fail
  obtain ⟨W50, hW50⟩ : ∃ v, v = World.alloc W49 (Obj.cells #[.int .i64 (-1), .int .i64 1] 3) := ⟨_, rfl⟩
  have kW50 : Below W49.heap.size W49 W50 := by rw [hW50]; exact below_new _ _
  have iW50 : Blk W50 (W49.heap.size) 3 [.int .i64 (-1), .int .i64 1] := by rw [hW50]; exact Blk.new _ _ _
  have sW50 : W50.heap.size = W49.heap.size + 1 := by rw [hW50]; simp
  rw [← hW50]
  clear hW50
  clear sW50
  replace hB := bthen hB kW50
  replace hd := hd.carry kW50
  replace hf := hf.carry kW50
  replace hg := hg.carry kW50
  have v1 := BlkI.ints (n := 2) (l := [-1, 1]) iW50 rfl
  clear iW50 kW50
  refine (sameInts ud _ _ W50 hd v1 (by decide)).mono ?_
  rintro e W51 ⟨rfl, hl⟩
  replace hB := bthen hB hl
  replace hd := hd.carry hl
  replace hf := hf.carry hl
  replace hg := hg.carry hl
  replace v1 := v1.carry hl
  clear hl
  clear hd
  clear v1
  go_wp2_with fail
  obtain ⟨W52, hW52⟩ : ∃ v, v = World.alloc W51 (Obj.cells #[.int .i64 8, .int .i64 8, .int .i64 8, .int .i64 8] 3) := ⟨_, rfl⟩
  have kW52 : Below W51.heap.size W51 W52 := by rw [hW52]; exact below_new _ _
  have iW52 : Blk W52 (W51.heap.size) 3 [.int .i64 8, .int .i64 8, .int .i64 8, .int .i64 8] := by rw [hW52]; exact Blk.new _ _ _
  have sW52 : W52.heap.size = W51.heap.size + 1 := by rw [hW52]; simp
  rw [← hW52]
  clear hW52
  clear sW52
  replace hB := bthen hB kW52
  replace hf := hf.carry kW52
  replace hg := hg.carry kW52
  have v1 := BlkI.ints (n := 4) (l := [8, 8, 8, 8]) iW52 rfl
  clear iW52 kW52
  refine (sameInts uf _ _ W52 hf v1 (by decide)).mono ?_
  rintro e W53 ⟨rfl, hl⟩
  replace hB := bthen hB hl
  replace hf := hf.carry hl
  replace hg := hg.carry hl
  replace v1 := v1.carry hl
  clear hl
  clear hf
  clear v1
  go_wp2_with fail
  obtain ⟨W54, hW54⟩ : ∃ v, v = World.alloc W53 (Obj.cells #[.int .i64 5, .int .i64 21, .int .i64 0] 3) := ⟨_, rfl⟩
  have kW54 : Below W53.heap.size W53 W54 := by rw [hW54]; exact below_new _ _
  have iW54 : Blk W54 (W53.heap.size) 3 [.int .i64 5, .int .i64 21, .int .i64 0] := by rw [hW54]; exact Blk.new _ _ _
  have sW54 : W54.heap.size = W53.heap.size + 1 := by rw [hW54]; simp
  rw [← hW54]
  clear hW54
  clear sW54
  replace hB := bthen hB kW54
  replace hg := hg.carry kW54
  have v1 := BlkI.ints (n := 3) (l := [5, 21, 0]) iW54 rfl
  clear iW54 kW54
  refine (sameInts ug _ _ W54 hg v1 (by decide)).mono ?_
  rintro e W55 ⟨rfl, hl⟩
  replace hB := bthen hB hl
  replace hg := hg.carry hl
  replace v1 := v1.carry hl
  clear hl
  clear hg
  clear v1
  go_wp2_with fail
  refine (aw_ring W55).mono ?_
  rintro e W56 ⟨⟨ur, rfl, hr⟩, hl⟩
  replace hB := bthen hB hl
  clear hl
  go_wp2_with fail
  obtain ⟨W57, hW57⟩ : ∃ v, v = World.alloc W56 (Obj.cells #[.int .i64 1, .int .i64 2, .int .i64 2, .int .i64 2, .int .i64 3, .int .i64 0] 3) := ⟨_, rfl⟩
  have kW57 : Below W56.heap.size W56 W57 := by rw [hW57]; exact below_new _ _
  have iW57 : Blk W57 (W56.heap.size) 3 [.int .i64 1, .int .i64 2, .int .i64 2, .int .i64 2, .int .i64 3, .int .i64 0] := by rw [hW57]; exact Blk.new _ _ _
  have sW57 : W57.heap.size = W56.heap.size + 1 := by rw [hW57]; simp
  rw [← hW57]
  clear hW57
  clear sW57
  replace hB := bthen hB kW57
  replace hr := hr.carry kW57
  have v1 := BlkI.ints (n := 6) (l := [1, 2, 2, 2, 3, 0]) iW57 rfl
  clear iW57 kW57
  refine (aw_n _ W57 v1).mono ?_
  rintro e W58 ⟨rfl, hl⟩
  replace hB := bthen hB hl
  replace hr := hr.carry hl
  replace v1 := v1.carry hl
  clear hl
  clear v1
  go_wp2_with fail
  obtain ⟨W59, hW59⟩ : ∃ v, v = World.alloc W58 (Obj.cells #[.int .i64 1, .int .i64 2, .int .i64 2, .int .i64 2, .int .i64 3, .int .i64 0] 3) := ⟨_, rfl⟩
  have kW59 : Below W58.heap.size W58 W59 := by rw [hW59]; exact below_new _ _
  have iW59 : Blk W59 (W58.heap.size) 3 [.int .i64 1, .int .i64 2, .int .i64 2, .int .i64 2, .int .i64 3, .int .i64 0] := by rw [hW59]; exact Blk.new _ _ _
  have sW59 : W59.heap.size = W58.heap.size + 1 := by rw [hW59]; simp
  rw [← hW59]
  clear hW59
  clear sW59
  replace hB := bthen hB kW59
  replace hr := hr.carry kW59
  have v1 := BlkI.ints (n := 6) (l := [1, 2, 2, 2, 3, 0]) iW59 rfl
  clear iW59 kW59
  refine (aw_l _ W59 v1).mono ?_
  rintro e W60 ⟨⟨ul, rfl, hll⟩, hl⟩
  replace hB := bthen hB hl
  replace hr := hr.carry hl
  replace v1 := v1.carry hl
  clear hl
  clear v1
  go_wp2_with fail
  obtain ⟨W61, hW61⟩ : ∃ v, v = World.alloc W60 (Obj.cells #[.int .i64 1, .int .i64 2, .int .i64 2, .int .i64 2, .int .i64 3, .int .i64 0] 3) := ⟨_, rfl⟩
  have kW61 : Below W60.heap.size W60 W61 := by rw [hW61]; exact below_new _ _
  have iW61 : Blk W61 (W60.heap.size) 3 [.int .i64 1, .int .i64 2, .int .i64 2, .int .i64 2, .int .i64 3, .int .i64 0] := by rw [hW61]; exact Blk.new _ _ _
  have sW61 : W61.heap.size = W60.heap.size + 1 := by rw [hW61]; simp
  rw [← hW61]
  clear hW61
  replace hB := bthen hB kW61
  replace hr := hr.carry kW61
  replace hll := hll.carry kW61
  have b1 := iW61
  clear iW61
  obtain ⟨W62, hW62⟩ : ∃ v, v = World.alloc W61 (Obj.cells #[.int .i64 2, .int .i64 1, .int .i64 0, .int .i64 1, .int .i64 2, .int .i64 3] 3) := ⟨_, rfl⟩
  have kW62 : Below W61.heap.size W61 W62 := by rw [hW62]; exact below_new _ _
  have iW62 : Blk W62 (W60.heap.size + 1) 3 [.int .i64 2, .int .i64 1, .int .i64 0, .int .i64 1, .int .i64 2, .int .i64 3] := by rw [hW62, ← sW61]; exact Blk.new _ _ _
  have sW62 : W62.heap.size = W60.heap.size + 1 + 1 := by rw [hW62]; simp [sW61]
  rw [← hW62]
  clear hW62
  replace hB := bthen hB kW62
  replace hr := hr.carry kW62
  replace hll := hll.carry kW62
  replace b1 := b1.carry kW62
  have b2 := iW62
  clear iW62
  clear sW62
  clear sW61
  replace b1 := BlkI.ints (n := 6) (l := [1, 2, 2, 2, 3, 0]) b1 rfl
  replace b2 := BlkI.ints (n := 6) (l := [2, 1, 0, 1, 2, 3]) b2 rfl
  refine (aw_e19 _ _ W62 b1 b2).mono ?_
  rintro e W63 ⟨rfl, hl⟩
  replace hB := bthen hB hl
  replace hr := hr.carry hl
  replace hll := hll.carry hl
  replace b1 := b1.carry hl
  replace b2 := b2.carry hl
  clear hl
  clear b1
  clear b2
  go_wp2_with fail
  refine (single_any 1 W63).mono ?_
  rintro e W64 ⟨⟨us, rfl, hs⟩, hl⟩
  replace hB := bthen hB hl
  replace hr := hr.carry hl
  replace hll := hll.carry hl
  clear hl
  go_wp2_with fail
  refine (aw_t us W64 (hp.below hB) hs).mono ?_
  rintro e W65 ⟨rfl, hl⟩
  replace hB := bthen hB hl
  replace hr := hr.carry hl
  replace hll := hll.carry hl
  replace hs := hs.carry hl
  clear hl
  clear hs
  go_wp2_with fail
  obtain ⟨W66, hW66⟩ : ∃ v, v = World.alloc W65 (Obj.cells #[.int .i64 1, .int .i64 2, .int .i64 2, .int .i64 2, .int .i64 3, .int .i64 0] 3) := ⟨_, rfl⟩
  have kW66 : Below W65.heap.size W65 W66 := by rw [hW66]; exact below_new _ _
  have iW66 : Blk W66 (W65.heap.size) 3 [.int .i64 1, .int .i64 2, .int .i64 2, .int .i64 2, .int .i64 3, .int .i64 0] := by rw [hW66]; exact Blk.new _ _ _
  have sW66 : W66.heap.size = W65.heap.size + 1 := by rw [hW66]; simp
  rw [← hW66]
  clear hW66
  clear sW66
  replace hB := bthen hB kW66
  replace hr := hr.carry kW66
  replace hll := hll.carry kW66
  have v1 := BlkI.ints (n := 6) (l := [1, 2, 2, 2, 3, 0]) iW66 rfl
  clear iW66 kW66
  refine (sameInts ur _ _ W66 hr v1 (by decide)).mono ?_
  rintro e W67 ⟨rfl, hl⟩
  replace hB := bthen hB hl
  replace hr := hr.carry hl
  replace hll := hll.carry hl
  replace v1 := v1.carry hl
  clear hl
  clear hr
  clear v1
  go_wp2_with fail
  obtain ⟨W68, hW68⟩ : ∃ v, v = World.alloc W67 (Obj.cells #[.int .i64 0, .int .i64 1, .int .i64 2, .int .i64 3, .int .i64 4, .int .i64 5] 3) := ⟨_, rfl⟩
  have kW68 : Below W67.heap.size W67 W68 := by rw [hW68]; exact below_new _ _
  have iW68 : Blk W68 (W67.heap.size) 3 [.int .i64 0, .int .i64 1, .int .i64 2, .int .i64 3, .int .i64 4, .int .i64 5] := by rw [hW68]; exact Blk.new _ _ _
  have sW68 : W68.heap.size = W67.heap.size + 1 := by rw [hW68]; simp
  rw [← hW68]
  clear hW68
  clear sW68
  replace hB := bthen hB kW68
  replace hll := hll.carry kW68
  have v1 := BlkI.ints (n := 6) (l := [0, 1, 2, 3, 4, 5]) iW68 rfl
  clear iW68 kW68
  refine (sameInts ul _ _ W68 hll v1 (by decide)).mono ?_
  rintro e W69 ⟨rfl, hl⟩
  replace hB := bthen hB hl
  replace hll := hll.carry hl
  replace v1 := v1.carry hl
  clear hl
  clear hll
  clear v1
  go_wp2
  go_ret
  exact ⟨rfl, hB⟩

end Go.Proofs.YtfdehcphmmhjaaaGreatDoor

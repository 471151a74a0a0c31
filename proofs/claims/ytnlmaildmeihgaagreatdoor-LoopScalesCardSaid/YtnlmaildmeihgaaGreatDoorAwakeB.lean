/- The law's and the reference's helpers: lists that are compared, converted, and the loop of the examples. -/
import Derived.Test.YtnlmaildmeihgaaGreatDoorPrintC
namespace Go.Proofs.YtnlmaildmeihgaaGreatDoor
open Go.RowKit

set_option maxHeartbeats 1000000 in
theorem SameInts_any (va vb : Value) (a b : List Int) (w : World) (ha : Ints w va a) (hb : Ints w vb b) (hl : a.length ≤ 1000000000) :
    Calls Tryz.prog 24 #[va, vb] w fun e w' => e = .returned (.bool (decide (a = b))) ∧ Below w.heap.size w w' := by
  obtain ⟨xa, ca, rfl, _, hca⟩ := ha
  obtain ⟨xb, cb, rfl, _, hcb⟩ := hb
  by_cases hlen : a.length = b.length
  · have hb0 : ((a.length : Int) != (b.length : Int)) = false := by rw [bne_eq_false_iff_eq]; omega
    rw [hlen] at hb0 hl hca ⊢
    have HL := Lib.hid hlen
    clear hlen hb0
    go_enter Tryz.func24, Tryz.ntmps24
    go_wp2
    go_loopw [5] (fun i wr => ∃ k : Nat, k ≤ b.length ∧ i = .int .i64 k ∧ a.take k = b.take k ∧ Below w.heap.size w wr) (fun i _ => b.length - (intOf i).toNat)
    case atStart => exact ⟨0, by omega, rfl, rfl, Below.refl _ _⟩
    case round =>
      obtain ⟨k, hk, rfl, hab, hbr⟩ := hrel
      have HAB := Lib.hid hab
      clear hab
      by_cases hlt : k < b.length
      · obtain ⟨ba, oa, rfl, hda⟩ := hca (by omega)
        obtain ⟨bb, ob, rfl, hdb⟩ := hcb (by omega)
        have c0 := cellb (hda k hlt) hbr
        have c1 := cellb (hdb k hlt) hbr
        obtain ⟨x, hx⟩ : ∃ x, a[k]? = some x := ⟨_, List.getElem?_eq_getElem (by rw [HL.out]; exact hlt)⟩
        obtain ⟨y, hy⟩ : ∃ y, b[k]? = some y := ⟨_, List.getElem?_eq_getElem hlt⟩
        rw [hx] at c0
        rw [hy] at c1
        simp only [Option.getD_some] at c0 c1
        have HX := Lib.hid hx
        have HY := Lib.hid hy
        have e1 : (k : Int) < (b.length : Int) := by omega
        have e2 : (0 : Int) ≤ (k : Int) := by omega
        clear hda hdb hx hy hca hcb
        by_cases hxy : x = y
        · subst hxy
          go_wp2_with fail
          refine wp_region_held_drew (S := (fun w' => w'.cell? ⟨ba, oa + k, none⟩ = some (.int .i64 x) ∧ w'.cell? ⟨bb, ob + k, none⟩ = some (.int .i64 x))) (by kernel_rfl) ?_ (fun hHeld0 => ?_)
          · (try dsimp only); go_keep
          refine wpAnyH_take (i := 0) (oi := { dst := some 17, op := Op.move (Operand.tmp 0), type := 22, pos := "words.go:97", after := #[], guard := none }) (v := ?_) rfl (by kernel_rfl) (by kernel_rfl) (by kernel_rfl) (fun _ _ _ h => h) (Or.inl ⟨by rfl, ?_⟩) (by assumption) ?_
          rotate_left
          · (intro w hSw; (try dsimp only at hSw); go_simp); (try with_reducible rfl)
          try simp only [Act.put, List.setIfInBounds_toArray, List.set_cons_zero, List.set_cons_succ]
          refine wpAnyH_take (i := 1) (oi := { dst := some 18, op := Op.move (Operand.tmp 5), type := 3, pos := "words.go:97", after := #[], guard := none }) (v := ?_) rfl (by kernel_rfl) (by kernel_rfl) (by kernel_rfl) (fun _ _ _ h => h) (Or.inl ⟨by rfl, ?_⟩) (by assumption) ?_
          rotate_left
          · (intro w hSw; (try dsimp only at hSw); go_simp); (try with_reducible rfl)
          try simp only [Act.put, List.setIfInBounds_toArray, List.set_cons_zero, List.set_cons_succ]
          refine wpAnyH_take (i := 2) (oi := { dst := some 19, op := Op.indexAddr 22 (Operand.tmp 17) (Operand.tmp 18), type := 0, pos := "words.go:97", after := #[{ on := 0, ground := Ground.data }, { on := 1, ground := Ground.data }], guard := none }) (v := ?_) rfl (by kernel_rfl) (by kernel_rfl) (by kernel_rfl) (fun _ _ _ h => h) (Or.inl ⟨by rfl, ?_⟩) (by assumption) ?_
          rotate_left
          · (intro w hSw; (try dsimp only at hSw); go_simp); (try with_reducible rfl)
          try simp only [Act.put, List.setIfInBounds_toArray, List.set_cons_zero, List.set_cons_succ]
          refine wpAnyH_take (i := 3) (oi := { dst := some 20, op := Op.load 3 (Operand.tmp 19), type := 3, pos := "words.go:97", after := #[{ on := 2, ground := Ground.data }], guard := none }) (v := ?_) rfl (by kernel_rfl) (by kernel_rfl) (by kernel_rfl) (fun _ _ _ h => h) (Or.inl ⟨by rfl, ?_⟩) (by assumption) ?_
          rotate_left
          · (intro w hSw; (try dsimp only at hSw); go_simp); (try with_reducible rfl)
          try simp only [Act.put, List.setIfInBounds_toArray, List.set_cons_zero, List.set_cons_succ]
          refine wpAnyH_take (i := 4) (oi := { dst := some 21, op := Op.move (Operand.tmp 1), type := 22, pos := "words.go:97", after := #[], guard := none }) (v := ?_) rfl (by kernel_rfl) (by kernel_rfl) (by kernel_rfl) (fun _ _ _ h => h) (Or.inl ⟨by rfl, ?_⟩) (by assumption) ?_
          rotate_left
          · (intro w hSw; (try dsimp only at hSw); go_simp); (try with_reducible rfl)
          try simp only [Act.put, List.setIfInBounds_toArray, List.set_cons_zero, List.set_cons_succ]
          refine wpAnyH_take (i := 5) (oi := { dst := some 22, op := Op.move (Operand.tmp 5), type := 3, pos := "words.go:97", after := #[], guard := none }) (v := ?_) rfl (by kernel_rfl) (by kernel_rfl) (by kernel_rfl) (fun _ _ _ h => h) (Or.inl ⟨by rfl, ?_⟩) (by assumption) ?_
          rotate_left
          · (intro w hSw; (try dsimp only at hSw); go_simp); (try with_reducible rfl)
          try simp only [Act.put, List.setIfInBounds_toArray, List.set_cons_zero, List.set_cons_succ]
          refine wpAnyH_take (i := 6) (oi := { dst := some 23, op := Op.indexAddr 22 (Operand.tmp 21) (Operand.tmp 22), type := 0, pos := "words.go:97", after := #[{ on := 4, ground := Ground.data }, { on := 5, ground := Ground.data }], guard := none }) (v := ?_) rfl (by kernel_rfl) (by kernel_rfl) (by kernel_rfl) (fun _ _ _ h => h) (Or.inl ⟨by rfl, ?_⟩) (by assumption) ?_
          rotate_left
          · (intro w hSw; (try dsimp only at hSw); go_simp); (try with_reducible rfl)
          try simp only [Act.put, List.setIfInBounds_toArray, List.set_cons_zero, List.set_cons_succ]
          refine wpAnyH_take (i := 7) (oi := { dst := some 24, op := Op.load 3 (Operand.tmp 23), type := 3, pos := "words.go:97", after := #[{ on := 6, ground := Ground.data }], guard := none }) (v := ?_) rfl (by kernel_rfl) (by kernel_rfl) (by kernel_rfl) (fun _ _ _ h => h) (Or.inl ⟨by rfl, ?_⟩) (by assumption) ?_
          rotate_left
          · (intro w hSw; (try dsimp only at hSw); go_simp); (try with_reducible rfl)
          try simp only [Act.put, List.setIfInBounds_toArray, List.set_cons_zero, List.set_cons_succ]
          refine wpAnyH_take (i := 8) (oi := { dst := some 25, op := Op.binOp BinOp.neq 3 (Operand.tmp 20) (Operand.tmp 24) 3, type := 4, pos := "words.go:97", after := #[{ on := 3, ground := Ground.data }, { on := 7, ground := Ground.data }], guard := none }) (v := ?_) rfl (by kernel_rfl) (by kernel_rfl) (by kernel_rfl) (fun _ _ _ h => h) (Or.inl ⟨by rfl, ?_⟩) (by assumption) ?_
          rotate_left
          · (intro w hSw; (try dsimp only at hSw); go_simp); (try with_reducible rfl)
          try simp only [Act.put, List.setIfInBounds_toArray, List.set_cons_zero, List.set_cons_succ]
          refine wpAnyH_done (by kernel_rfl) ?_ _
          clear hHeld0
          clear c0 c1
          go_wp2
          go_roundw
          case rel => exact ⟨k + 1, by omega, by go_num, take_eq_succ HAB.out HX.out HY.out, hbr.drew⟩
          case measure => simp [intOf]; omega
        · have hq : (x != y) = true := by rw [bne_iff_ne]; exact hxy
          have hne := ne_of_get HX.out HY.out hxy
          clear hxy
          have HN := Lib.hid hne
          clear hne
          go_wp2_with fail
          refine wp_region_held_drew (S := (fun w' => w'.cell? ⟨ba, oa + k, none⟩ = some (.int .i64 x) ∧ w'.cell? ⟨bb, ob + k, none⟩ = some (.int .i64 y))) (by kernel_rfl) ?_ (fun hHeld0 => ?_)
          · (try dsimp only); go_keep
          refine wpAnyH_take (i := 0) (oi := { dst := some 17, op := Op.move (Operand.tmp 0), type := 22, pos := "words.go:97", after := #[], guard := none }) (v := ?_) rfl (by kernel_rfl) (by kernel_rfl) (by kernel_rfl) (fun _ _ _ h => h) (Or.inl ⟨by rfl, ?_⟩) (by assumption) ?_
          rotate_left
          · (intro w hSw; (try dsimp only at hSw); go_simp); (try with_reducible rfl)
          try simp only [Act.put, List.setIfInBounds_toArray, List.set_cons_zero, List.set_cons_succ]
          refine wpAnyH_take (i := 1) (oi := { dst := some 18, op := Op.move (Operand.tmp 5), type := 3, pos := "words.go:97", after := #[], guard := none }) (v := ?_) rfl (by kernel_rfl) (by kernel_rfl) (by kernel_rfl) (fun _ _ _ h => h) (Or.inl ⟨by rfl, ?_⟩) (by assumption) ?_
          rotate_left
          · (intro w hSw; (try dsimp only at hSw); go_simp); (try with_reducible rfl)
          try simp only [Act.put, List.setIfInBounds_toArray, List.set_cons_zero, List.set_cons_succ]
          refine wpAnyH_take (i := 2) (oi := { dst := some 19, op := Op.indexAddr 22 (Operand.tmp 17) (Operand.tmp 18), type := 0, pos := "words.go:97", after := #[{ on := 0, ground := Ground.data }, { on := 1, ground := Ground.data }], guard := none }) (v := ?_) rfl (by kernel_rfl) (by kernel_rfl) (by kernel_rfl) (fun _ _ _ h => h) (Or.inl ⟨by rfl, ?_⟩) (by assumption) ?_
          rotate_left
          · (intro w hSw; (try dsimp only at hSw); go_simp); (try with_reducible rfl)
          try simp only [Act.put, List.setIfInBounds_toArray, List.set_cons_zero, List.set_cons_succ]
          refine wpAnyH_take (i := 3) (oi := { dst := some 20, op := Op.load 3 (Operand.tmp 19), type := 3, pos := "words.go:97", after := #[{ on := 2, ground := Ground.data }], guard := none }) (v := ?_) rfl (by kernel_rfl) (by kernel_rfl) (by kernel_rfl) (fun _ _ _ h => h) (Or.inl ⟨by rfl, ?_⟩) (by assumption) ?_
          rotate_left
          · (intro w hSw; (try dsimp only at hSw); go_simp); (try with_reducible rfl)
          try simp only [Act.put, List.setIfInBounds_toArray, List.set_cons_zero, List.set_cons_succ]
          refine wpAnyH_take (i := 4) (oi := { dst := some 21, op := Op.move (Operand.tmp 1), type := 22, pos := "words.go:97", after := #[], guard := none }) (v := ?_) rfl (by kernel_rfl) (by kernel_rfl) (by kernel_rfl) (fun _ _ _ h => h) (Or.inl ⟨by rfl, ?_⟩) (by assumption) ?_
          rotate_left
          · (intro w hSw; (try dsimp only at hSw); go_simp); (try with_reducible rfl)
          try simp only [Act.put, List.setIfInBounds_toArray, List.set_cons_zero, List.set_cons_succ]
          refine wpAnyH_take (i := 5) (oi := { dst := some 22, op := Op.move (Operand.tmp 5), type := 3, pos := "words.go:97", after := #[], guard := none }) (v := ?_) rfl (by kernel_rfl) (by kernel_rfl) (by kernel_rfl) (fun _ _ _ h => h) (Or.inl ⟨by rfl, ?_⟩) (by assumption) ?_
          rotate_left
          · (intro w hSw; (try dsimp only at hSw); go_simp); (try with_reducible rfl)
          try simp only [Act.put, List.setIfInBounds_toArray, List.set_cons_zero, List.set_cons_succ]
          refine wpAnyH_take (i := 6) (oi := { dst := some 23, op := Op.indexAddr 22 (Operand.tmp 21) (Operand.tmp 22), type := 0, pos := "words.go:97", after := #[{ on := 4, ground := Ground.data }, { on := 5, ground := Ground.data }], guard := none }) (v := ?_) rfl (by kernel_rfl) (by kernel_rfl) (by kernel_rfl) (fun _ _ _ h => h) (Or.inl ⟨by rfl, ?_⟩) (by assumption) ?_
          rotate_left
          · (intro w hSw; (try dsimp only at hSw); go_simp); (try with_reducible rfl)
          try simp only [Act.put, List.setIfInBounds_toArray, List.set_cons_zero, List.set_cons_succ]
          refine wpAnyH_take (i := 7) (oi := { dst := some 24, op := Op.load 3 (Operand.tmp 23), type := 3, pos := "words.go:97", after := #[{ on := 6, ground := Ground.data }], guard := none }) (v := ?_) rfl (by kernel_rfl) (by kernel_rfl) (by kernel_rfl) (fun _ _ _ h => h) (Or.inl ⟨by rfl, ?_⟩) (by assumption) ?_
          rotate_left
          · (intro w hSw; (try dsimp only at hSw); go_simp); (try with_reducible rfl)
          try simp only [Act.put, List.setIfInBounds_toArray, List.set_cons_zero, List.set_cons_succ]
          refine wpAnyH_take (i := 8) (oi := { dst := some 25, op := Op.binOp BinOp.neq 3 (Operand.tmp 20) (Operand.tmp 24) 3, type := 4, pos := "words.go:97", after := #[{ on := 3, ground := Ground.data }, { on := 7, ground := Ground.data }], guard := none }) (v := ?_) rfl (by kernel_rfl) (by kernel_rfl) (by kernel_rfl) (fun _ _ _ h => h) (Or.inl ⟨by rfl, ?_⟩) (by assumption) ?_
          rotate_left
          · (intro w hSw; (try dsimp only at hSw); go_simp); (try with_reducible rfl)
          try simp only [Act.put, List.setIfInBounds_toArray, List.set_cons_zero, List.set_cons_succ]
          refine wpAnyH_done (by kernel_rfl) ?_ _
          clear hHeld0
          clear c0 c1
          go_wp2
          go_ret
          exact ⟨ret_bool (by simp [HN.out]), hbr.drew⟩
      · obtain rfl : k = b.length := by omega
        have h := HAB.out
        rw [← HL.out, List.take_length, HL.out, List.take_length] at h
        have H := Lib.hid h
        clear h hca hcb
        go_wp2
        go_ret
        exact ⟨ret_bool (by rw [H.out]; simp), hbr⟩
  · have hb0 : ((a.length : Int) != (b.length : Int)) = true := by rw [bne_iff_ne]; omega
    have HN := Lib.hid (show a ≠ b by rintro rfl; exact hlen rfl)
    clear hlen hca hcb
    go_enter Tryz.func24, Tryz.ntmps24
    go_wp2
    go_ret
    exact ⟨ret_bool (by simp [HN.out]), Below.refl _ _⟩

/-- the loop of the examples. -/
def SingleIs (w : World) (k : Int) (u : Value) : Prop := ∃ va vb vc vd, u = .agg #[va, vb, vc, vd] ∧ Ints w va [k] ∧ Ints w vb [-1, 2] ∧ Ints w vc [1] ∧ Ints w vd [1]
theorem SingleIs.carry {w w' : World} {k : Int} {u : Value} (h : SingleIs w k u) (hb : Below w.heap.size w w') : SingleIs w' k u := by
  obtain ⟨va, vb, vc, vd, rfl, h1, h2, h3, h4⟩ := h
  exact ⟨va, vb, vc, vd, rfl, h1.carry hb, h2.carry hb, h3.carry hb, h4.carry hb⟩
set_option maxHeartbeats 1000000 in
theorem single_any (k : Int) (w : World) :
    Calls Tryz.prog 89 #[.int .i64 k] w fun e w' => (∃ u, e = .returned u ∧ SingleIs w' k u) ∧ Below w.heap.size w w' := by
  go_enter Tryz.func89, Tryz.ntmps89
  go_wp2_with fail
  obtain ⟨W1, hW1⟩ : ∃ v, v = World.alloc w (Obj.cells #[.slice (some ⟨w.heap.size + 1, 0, none⟩) 1 1, .slice (some ⟨w.heap.size + 1 + 1, 0, none⟩) 2 2, .slice (some ⟨w.heap.size + 1 + 1 + 1, 0, none⟩) 1 1, .slice (some ⟨w.heap.size + 1 + 1 + 1 + 1, 0, none⟩) 1 1] 44) := ⟨_, rfl⟩
  have kW1 : Below w.heap.size w W1 := by rw [hW1]; exact below_new _ _
  have iW1 : Blk W1 (w.heap.size) 44 [.slice (some ⟨w.heap.size + 1, 0, none⟩) 1 1, .slice (some ⟨w.heap.size + 1 + 1, 0, none⟩) 2 2, .slice (some ⟨w.heap.size + 1 + 1 + 1, 0, none⟩) 1 1, .slice (some ⟨w.heap.size + 1 + 1 + 1 + 1, 0, none⟩) 1 1] := by rw [hW1]; exact Blk.new _ _ _
  have sW1 : W1.heap.size = w.heap.size + 1 := by rw [hW1]; simp
  rw [← hW1]
  clear hW1
  obtain ⟨W2, hW2⟩ : ∃ v, v = World.alloc W1 (Obj.cells #[.int .i64 k] 3) := ⟨_, rfl⟩
  have kW2 : Below W1.heap.size W1 W2 := by rw [hW2]; exact below_new _ _
  have iW2 : Blk W2 (w.heap.size + 1) 3 [.int .i64 k] := by rw [hW2, ← sW1]; exact Blk.new _ _ _
  have sW2 : W2.heap.size = w.heap.size + 1 + 1 := by rw [hW2]; simp [sW1]
  rw [← hW2]
  clear hW2
  obtain ⟨W3, hW3⟩ : ∃ v, v = World.alloc W2 (Obj.cells #[.int .i64 (-1), .int .i64 2] 3) := ⟨_, rfl⟩
  have kW3 : Below W2.heap.size W2 W3 := by rw [hW3]; exact below_new _ _
  have iW3 : Blk W3 (w.heap.size + 1 + 1) 3 [.int .i64 (-1), .int .i64 2] := by rw [hW3, ← sW2]; exact Blk.new _ _ _
  have sW3 : W3.heap.size = w.heap.size + 1 + 1 + 1 := by rw [hW3]; simp [sW2]
  rw [← hW3]
  clear hW3
  obtain ⟨W4, hW4⟩ : ∃ v, v = World.alloc W3 (Obj.cells #[.int .i64 1] 3) := ⟨_, rfl⟩
  have kW4 : Below W3.heap.size W3 W4 := by rw [hW4]; exact below_new _ _
  have iW4 : Blk W4 (w.heap.size + 1 + 1 + 1) 3 [.int .i64 1] := by rw [hW4, ← sW3]; exact Blk.new _ _ _
  have sW4 : W4.heap.size = w.heap.size + 1 + 1 + 1 + 1 := by rw [hW4]; simp [sW3]
  rw [← hW4]
  clear hW4
  obtain ⟨W5, hW5⟩ : ∃ v, v = World.alloc W4 (Obj.cells #[.int .i64 1] 3) := ⟨_, rfl⟩
  have kW5 : Below W4.heap.size W4 W5 := by rw [hW5]; exact below_new _ _
  have iW5 : Blk W5 (w.heap.size + 1 + 1 + 1 + 1) 3 [.int .i64 1] := by rw [hW5, ← sW4]; exact Blk.new _ _ _
  have sW5 : W5.heap.size = w.heap.size + 1 + 1 + 1 + 1 + 1 := by rw [hW5]; simp [sW4]
  rw [← hW5]
  clear hW5
  have k25 := bthen (bthen kW3 kW4) kW5
  have j1 := (iW1.carry kW2).carry k25
  have y0 := j1.cell (j := 0) rfl
  have y1 := j1.cell (j := 1) rfl
  have y2 := j1.cell (j := 2) rfl
  have y3 := j1.cell (j := 3) rfl
  exact bodyPost_ret (v := .agg #[_, _, _, _]) (by simp [results, Tryz.f89, go_sem, y0, y1, y2, y3]) rfl
    ⟨⟨_, rfl, _, _, _, _, rfl, (BlkI.ints (l := [k]) (iW2.carry k25) rfl), (BlkI.ints (l := [-1, 2]) (iW3.carry (bthen kW4 kW5)) rfl), (BlkI.ints (l := [1]) (iW4.carry kW5) rfl), (BlkI.ints (l := [1]) iW5 rfl)⟩, bthen (bthen kW1 kW2) k25⟩

set_option maxRecDepth 100000 in
set_option maxHeartbeats 1000000 in
theorem SameRows_any (va vb : Value) (a b : List (List Int)) (w : World) (ha : RowsOf w va a) (hb : RowsOf w vb b) (hl : a.length ≤ 1000000000) (hl2 : ∀ l ∈ a, l.length ≤ 1000000000) :
    Calls Tryz.prog 79 #[va, vb] w fun e w' => e = .returned (.bool (decide (a = b))) ∧ Below w.heap.size w w' := by
  obtain ⟨ua, hua, hla, hra⟩ := ha
  obtain ⟨ub, hub, hlb, hrb⟩ := hb
  obtain ⟨xa, ca, rfl, _, hca⟩ := hua
  obtain ⟨xb, cb, rfl, _, hcb⟩ := hub
  by_cases hlen : a.length = b.length
  · rw [hla, hlen] at hca ⊢
    rw [hlb] at hcb ⊢
    rw [hlen] at hl hla
    have HL := Lib.hid hlen
    have HLA := Lib.hid hla
    have HLB := Lib.hid hlb
    clear hlen hla hlb
    go_enter Tryz.func79, Tryz.ntmps79
    go_wp2
    go_loopw [5] (fun i wr => ∃ k : Nat, k ≤ b.length ∧ i = .int .i64 k ∧ a.take k = b.take k ∧ Below w.heap.size w wr) (fun i _ => b.length - (intOf i).toNat)
    case atStart => exact ⟨0, by omega, rfl, rfl, Below.refl _ _⟩
    case round =>
      obtain ⟨k, hk, rfl, hab, hbr⟩ := hrel
      have HAB := Lib.hid hab
      clear hab
      by_cases hlt : k < b.length
      · obtain ⟨ba, oa, rfl, hda⟩ := hca (by omega)
        obtain ⟨bb, ob, rfl, hdb⟩ := hcb (by omega)
        obtain ⟨x, hx⟩ : ∃ x, a[k]? = some x := ⟨_, List.getElem?_eq_getElem (by rw [HL.out]; exact hlt)⟩
        obtain ⟨y, hy⟩ : ∃ y, b[k]? = some y := ⟨_, List.getElem?_eq_getElem hlt⟩
        obtain ⟨ux, hux⟩ : ∃ x, ua[k]? = some x := ⟨_, List.getElem?_eq_getElem (by rw [HLA.out]; exact hlt)⟩
        obtain ⟨uy, huy⟩ : ∃ y, ub[k]? = some y := ⟨_, List.getElem?_eq_getElem (by rw [HLB.out]; exact hlt)⟩
        have c0 := cellb (hda k ux hux) hbr
        have c1 := cellb (hdb k uy huy) hbr
        have ix := (hra k ux x hux hx).carry hbr
        have iy := (hrb k uy y huy hy).carry hbr
        have HX := Lib.hid hx
        have HY := Lib.hid hy
        have e1 : (k : Int) < (b.length : Int) := by omega
        have e2 : (0 : Int) ≤ (k : Int) := by omega
        have hlx := hl2 x (List.mem_of_getElem? hx)
        have HXA := Lib.hid ix
        have HYA := Lib.hid iy
        obtain ⟨pa, pc, rfl, _⟩ := ix
        obtain ⟨qa, qc, rfl, _⟩ := iy
        clear hda hdb hx hy hca hcb hux huy hra hrb hl2
        by_cases hxy : x = y
        · subst hxy
          go_wp2_with fail
          refine wp_region_held_drew (S := (fun w' => w'.cell? ⟨ba, oa + k, none⟩ = some (.slice pa x.length pc) ∧ w'.cell? ⟨bb, ob + k, none⟩ = some (.slice qa x.length qc))) (by kernel_rfl) ⟨cellb c0 (Below.refl _ _).drew, cellb c1 (Below.refl _ _).drew⟩ (fun hHeld0 => ?_)
          obtain ⟨wzd, hwz⟩ : ∃ v, v = wr.drew := ⟨_, rfl⟩
          rw [← hwz] at hHeld0 ⊢
          have hbzd : Below wr.heap.size wr wzd := by rw [hwz]; exact (Below.refl _ _).drew
          have hlzd : Below wr.heap.size wr wzd := by rw [hwz]; exact (Below.refl _ _).drew
          clear hwz hlzd
          refine wpAnyH_take (i := 0) (oi := { dst := some 17, op := Op.move (Operand.tmp 0), type := 104, pos := "ref.go:208", after := #[], guard := none }) (v := ?_) rfl (by kernel_rfl) (by kernel_rfl) (by kernel_rfl) (fun _ _ _ h => h) (Or.inl ⟨by rfl, ?_⟩) (by assumption) ?_
          rotate_left
          · (intro w hSw; (try dsimp only at hSw); go_simp); (try with_reducible rfl)
          try simp only [Act.put, List.setIfInBounds_toArray, List.set_cons_zero, List.set_cons_succ]
          refine wpAnyH_take (i := 1) (oi := { dst := some 18, op := Op.move (Operand.tmp 5), type := 3, pos := "ref.go:208", after := #[], guard := none }) (v := ?_) rfl (by kernel_rfl) (by kernel_rfl) (by kernel_rfl) (fun _ _ _ h => h) (Or.inl ⟨by rfl, ?_⟩) (by assumption) ?_
          rotate_left
          · (intro w hSw; (try dsimp only at hSw); go_simp); (try with_reducible rfl)
          try simp only [Act.put, List.setIfInBounds_toArray, List.set_cons_zero, List.set_cons_succ]
          refine wpAnyH_take (i := 2) (oi := { dst := some 19, op := Op.indexAddr 104 (Operand.tmp 17) (Operand.tmp 18), type := 0, pos := "ref.go:208", after := #[{ on := 0, ground := Ground.data }, { on := 1, ground := Ground.data }], guard := none }) (v := ?_) rfl (by kernel_rfl) (by kernel_rfl) (by kernel_rfl) (fun _ _ _ h => h) (Or.inl ⟨by rfl, ?_⟩) (by assumption) ?_
          rotate_left
          · (intro w hSw; (try dsimp only at hSw); go_simp); (try with_reducible rfl)
          try simp only [Act.put, List.setIfInBounds_toArray, List.set_cons_zero, List.set_cons_succ]
          refine wpAnyH_take (i := 3) (oi := { dst := some 20, op := Op.load 22 (Operand.tmp 19), type := 22, pos := "ref.go:208", after := #[{ on := 2, ground := Ground.data }], guard := none }) (v := ?_) rfl (by kernel_rfl) (by kernel_rfl) (by kernel_rfl) (fun _ _ _ h => h) (Or.inl ⟨by rfl, ?_⟩) (by assumption) ?_
          rotate_left
          · (intro w hSw; (try dsimp only at hSw); go_simp); (try with_reducible rfl)
          try simp only [Act.put, List.setIfInBounds_toArray, List.set_cons_zero, List.set_cons_succ]
          refine wpAnyH_take (i := 4) (oi := { dst := some 21, op := Op.move (Operand.tmp 1), type := 104, pos := "ref.go:208", after := #[], guard := none }) (v := ?_) rfl (by kernel_rfl) (by kernel_rfl) (by kernel_rfl) (fun _ _ _ h => h) (Or.inl ⟨by rfl, ?_⟩) (by assumption) ?_
          rotate_left
          · (intro w hSw; (try dsimp only at hSw); go_simp); (try with_reducible rfl)
          try simp only [Act.put, List.setIfInBounds_toArray, List.set_cons_zero, List.set_cons_succ]
          refine wpAnyH_take (i := 5) (oi := { dst := some 22, op := Op.move (Operand.tmp 5), type := 3, pos := "ref.go:208", after := #[], guard := none }) (v := ?_) rfl (by kernel_rfl) (by kernel_rfl) (by kernel_rfl) (fun _ _ _ h => h) (Or.inl ⟨by rfl, ?_⟩) (by assumption) ?_
          rotate_left
          · (intro w hSw; (try dsimp only at hSw); go_simp); (try with_reducible rfl)
          try simp only [Act.put, List.setIfInBounds_toArray, List.set_cons_zero, List.set_cons_succ]
          refine wpAnyH_take (i := 6) (oi := { dst := some 23, op := Op.indexAddr 104 (Operand.tmp 21) (Operand.tmp 22), type := 0, pos := "ref.go:208", after := #[{ on := 4, ground := Ground.data }, { on := 5, ground := Ground.data }], guard := none }) (v := ?_) rfl (by kernel_rfl) (by kernel_rfl) (by kernel_rfl) (fun _ _ _ h => h) (Or.inl ⟨by rfl, ?_⟩) (by assumption) ?_
          rotate_left
          · (intro w hSw; (try dsimp only at hSw); go_simp); (try with_reducible rfl)
          try simp only [Act.put, List.setIfInBounds_toArray, List.set_cons_zero, List.set_cons_succ]
          refine wpAnyH_take (i := 7) (oi := { dst := some 24, op := Op.load 22 (Operand.tmp 23), type := 22, pos := "ref.go:208", after := #[{ on := 6, ground := Ground.data }], guard := none }) (v := ?_) rfl (by kernel_rfl) (by kernel_rfl) (by kernel_rfl) (fun _ _ _ h => h) (Or.inl ⟨by rfl, ?_⟩) (by assumption) ?_
          rotate_left
          · (intro w hSw; (try dsimp only at hSw); go_simp); (try with_reducible rfl)
          try simp only [Act.put, List.setIfInBounds_toArray, List.set_cons_zero, List.set_cons_succ]
          refine wpAnyH_ready (rs := [8]) (by kernel_rfl) (by simp) ?_
          refine (AllReadyH.cons (o := { dst := some 25, op := Op.call { callee := Callee.value (Operand.func 24), args := #[Operand.tmp 20, Operand.tmp 24], argTypes := #[22, 22] }, type := 4, pos := "ref.go:208", after := #[{ on := 3, ground := Ground.data }, { on := 7, ground := Ground.data }], guard := none }) rfl (fun K hK => ?_) AllReadyH.nil)
          go_simp
          refine (SameInts_any _ _ x x wzd (HXA.out.carry hbzd) (HYA.out.carry hbzd) hlx).mono ?_
          rintro e wz8 ⟨rfl, hl⟩
          (try go_wp2_with fail)
          have hbz8 := bthen hbzd hl
          clear hl
          refine hK.out _ _ ⟨cellb c0 hbz8, cellb c1 hbz8⟩ (fun hHeld1 => ?_)
          clear hK K hHeld0
          try simp only [Act.put, List.setIfInBounds_toArray, List.set_cons_zero, List.set_cons_succ]
          refine wpAnyH_take (i := 9) (oi := { dst := some 26, op := Op.unOp UnOp.not 4 (Operand.tmp 25), type := 4, pos := "ref.go:208", after := #[{ on := 8, ground := Ground.data }], guard := none }) (v := ?_) rfl (by kernel_rfl) (by kernel_rfl) (by kernel_rfl) (fun _ _ _ h => h) (Or.inl ⟨by rfl, ?_⟩) (by assumption) ?_
          rotate_left
          · (intro w hSw; (try dsimp only at hSw); go_simp); (try with_reducible rfl)
          try simp only [Act.put, List.setIfInBounds_toArray, List.set_cons_zero, List.set_cons_succ]
          refine wpAnyH_done (by kernel_rfl) ?_ _
          clear hHeld1
          go_wp2
          go_roundw
          · exact ⟨k + 1, by omega, by go_num, take_eq_succ HAB.out HX.out HY.out, bthen hbr hbz8⟩
          · simp [intOf]; omega
        · have hq : decide (x = y) = false := by simpa using hxy
          have HN := Lib.hid (ne_of_get HX.out HY.out hxy)
          clear hxy
          go_wp2_with fail
          refine wp_region_held_drew (S := (fun w' => w'.cell? ⟨ba, oa + k, none⟩ = some (.slice pa x.length pc) ∧ w'.cell? ⟨bb, ob + k, none⟩ = some (.slice qa y.length qc))) (by kernel_rfl) ⟨cellb c0 (Below.refl _ _).drew, cellb c1 (Below.refl _ _).drew⟩ (fun hHeld0 => ?_)
          obtain ⟨wzd, hwz⟩ : ∃ v, v = wr.drew := ⟨_, rfl⟩
          rw [← hwz] at hHeld0 ⊢
          have hbzd : Below wr.heap.size wr wzd := by rw [hwz]; exact (Below.refl _ _).drew
          have hlzd : Below wr.heap.size wr wzd := by rw [hwz]; exact (Below.refl _ _).drew
          clear hwz hlzd
          refine wpAnyH_take (i := 0) (oi := { dst := some 17, op := Op.move (Operand.tmp 0), type := 104, pos := "ref.go:208", after := #[], guard := none }) (v := ?_) rfl (by kernel_rfl) (by kernel_rfl) (by kernel_rfl) (fun _ _ _ h => h) (Or.inl ⟨by rfl, ?_⟩) (by assumption) ?_
          rotate_left
          · (intro w hSw; (try dsimp only at hSw); go_simp); (try with_reducible rfl)
          try simp only [Act.put, List.setIfInBounds_toArray, List.set_cons_zero, List.set_cons_succ]
          refine wpAnyH_take (i := 1) (oi := { dst := some 18, op := Op.move (Operand.tmp 5), type := 3, pos := "ref.go:208", after := #[], guard := none }) (v := ?_) rfl (by kernel_rfl) (by kernel_rfl) (by kernel_rfl) (fun _ _ _ h => h) (Or.inl ⟨by rfl, ?_⟩) (by assumption) ?_
          rotate_left
          · (intro w hSw; (try dsimp only at hSw); go_simp); (try with_reducible rfl)
          try simp only [Act.put, List.setIfInBounds_toArray, List.set_cons_zero, List.set_cons_succ]
          refine wpAnyH_take (i := 2) (oi := { dst := some 19, op := Op.indexAddr 104 (Operand.tmp 17) (Operand.tmp 18), type := 0, pos := "ref.go:208", after := #[{ on := 0, ground := Ground.data }, { on := 1, ground := Ground.data }], guard := none }) (v := ?_) rfl (by kernel_rfl) (by kernel_rfl) (by kernel_rfl) (fun _ _ _ h => h) (Or.inl ⟨by rfl, ?_⟩) (by assumption) ?_
          rotate_left
          · (intro w hSw; (try dsimp only at hSw); go_simp); (try with_reducible rfl)
          try simp only [Act.put, List.setIfInBounds_toArray, List.set_cons_zero, List.set_cons_succ]
          refine wpAnyH_take (i := 3) (oi := { dst := some 20, op := Op.load 22 (Operand.tmp 19), type := 22, pos := "ref.go:208", after := #[{ on := 2, ground := Ground.data }], guard := none }) (v := ?_) rfl (by kernel_rfl) (by kernel_rfl) (by kernel_rfl) (fun _ _ _ h => h) (Or.inl ⟨by rfl, ?_⟩) (by assumption) ?_
          rotate_left
          · (intro w hSw; (try dsimp only at hSw); go_simp); (try with_reducible rfl)
          try simp only [Act.put, List.setIfInBounds_toArray, List.set_cons_zero, List.set_cons_succ]
          refine wpAnyH_take (i := 4) (oi := { dst := some 21, op := Op.move (Operand.tmp 1), type := 104, pos := "ref.go:208", after := #[], guard := none }) (v := ?_) rfl (by kernel_rfl) (by kernel_rfl) (by kernel_rfl) (fun _ _ _ h => h) (Or.inl ⟨by rfl, ?_⟩) (by assumption) ?_
          rotate_left
          · (intro w hSw; (try dsimp only at hSw); go_simp); (try with_reducible rfl)
          try simp only [Act.put, List.setIfInBounds_toArray, List.set_cons_zero, List.set_cons_succ]
          refine wpAnyH_take (i := 5) (oi := { dst := some 22, op := Op.move (Operand.tmp 5), type := 3, pos := "ref.go:208", after := #[], guard := none }) (v := ?_) rfl (by kernel_rfl) (by kernel_rfl) (by kernel_rfl) (fun _ _ _ h => h) (Or.inl ⟨by rfl, ?_⟩) (by assumption) ?_
          rotate_left
          · (intro w hSw; (try dsimp only at hSw); go_simp); (try with_reducible rfl)
          try simp only [Act.put, List.setIfInBounds_toArray, List.set_cons_zero, List.set_cons_succ]
          refine wpAnyH_take (i := 6) (oi := { dst := some 23, op := Op.indexAddr 104 (Operand.tmp 21) (Operand.tmp 22), type := 0, pos := "ref.go:208", after := #[{ on := 4, ground := Ground.data }, { on := 5, ground := Ground.data }], guard := none }) (v := ?_) rfl (by kernel_rfl) (by kernel_rfl) (by kernel_rfl) (fun _ _ _ h => h) (Or.inl ⟨by rfl, ?_⟩) (by assumption) ?_
          rotate_left
          · (intro w hSw; (try dsimp only at hSw); go_simp); (try with_reducible rfl)
          try simp only [Act.put, List.setIfInBounds_toArray, List.set_cons_zero, List.set_cons_succ]
          refine wpAnyH_take (i := 7) (oi := { dst := some 24, op := Op.load 22 (Operand.tmp 23), type := 22, pos := "ref.go:208", after := #[{ on := 6, ground := Ground.data }], guard := none }) (v := ?_) rfl (by kernel_rfl) (by kernel_rfl) (by kernel_rfl) (fun _ _ _ h => h) (Or.inl ⟨by rfl, ?_⟩) (by assumption) ?_
          rotate_left
          · (intro w hSw; (try dsimp only at hSw); go_simp); (try with_reducible rfl)
          try simp only [Act.put, List.setIfInBounds_toArray, List.set_cons_zero, List.set_cons_succ]
          refine wpAnyH_ready (rs := [8]) (by kernel_rfl) (by simp) ?_
          refine (AllReadyH.cons (o := { dst := some 25, op := Op.call { callee := Callee.value (Operand.func 24), args := #[Operand.tmp 20, Operand.tmp 24], argTypes := #[22, 22] }, type := 4, pos := "ref.go:208", after := #[{ on := 3, ground := Ground.data }, { on := 7, ground := Ground.data }], guard := none }) rfl (fun K hK => ?_) AllReadyH.nil)
          go_simp
          refine (SameInts_any _ _ x y wzd (HXA.out.carry hbzd) (HYA.out.carry hbzd) hlx).mono ?_
          rintro e wz8 ⟨rfl, hl⟩
          (try go_wp2_with fail)
          have hbz8 := bthen hbzd hl
          clear hl
          refine hK.out _ _ ⟨cellb c0 hbz8, cellb c1 hbz8⟩ (fun hHeld1 => ?_)
          clear hK K hHeld0
          try simp only [Act.put, List.setIfInBounds_toArray, List.set_cons_zero, List.set_cons_succ]
          refine wpAnyH_take (i := 9) (oi := { dst := some 26, op := Op.unOp UnOp.not 4 (Operand.tmp 25), type := 4, pos := "ref.go:208", after := #[{ on := 8, ground := Ground.data }], guard := none }) (v := ?_) rfl (by kernel_rfl) (by kernel_rfl) (by kernel_rfl) (fun _ _ _ h => h) (Or.inl ⟨by rfl, ?_⟩) (by assumption) ?_
          rotate_left
          · (intro w hSw; (try dsimp only at hSw); go_simp); (try with_reducible rfl)
          try simp only [Act.put, List.setIfInBounds_toArray, List.set_cons_zero, List.set_cons_succ]
          refine wpAnyH_done (by kernel_rfl) ?_ _
          clear hHeld1
          go_wp2
          go_ret
          exact ⟨ret_bool (by simp [HN.out]), bthen hbr hbz8⟩
      · obtain rfl : k = b.length := by omega
        have h := HAB.out
        rw [← HL.out, List.take_length, HL.out, List.take_length] at h
        have H := Lib.hid h
        clear h hca hcb hra hrb hl2
        go_wp2
        go_ret
        exact ⟨ret_bool (by rw [H.out]; simp), hbr⟩
  · rw [hla, hlb]
    have hb0 : ((a.length : Int) != (b.length : Int)) = true := by rw [bne_iff_ne]; omega
    have HN := Lib.hid (show a ≠ b by rintro rfl; exact hlen rfl)
    clear hlen hca hcb hra hrb hla hlb hl2
    go_enter Tryz.func79, Tryz.ntmps79
    go_wp2
    go_ret
    exact ⟨ret_bool (by simp [HN.out]), Below.refl _ _⟩

theorem OwnI.one {e base : Nat} {w : World} {v : Value} {l : List Int} (h : OwnI e base w v l) : v.oneCell' = true := by
  obtain ⟨_, ⟨rfl, _⟩ | ⟨g, cap, cur, rfl, _⟩⟩ := h <;> rfl

theorem run_append_freshI {P : Program} (w : World) (t tx ty e' : TypeId) (i : TypeInfo) (z : Value) (ht : P.underlying t = some (.slice 3)) (htx : P.underlying tx = some (.slice e')) (hi : P.info? 3 = some i) (hz : i.zero = some z) (hs1 : i.size = 1) (hby : i.bytes = 8) (hzs : z.cells.size = 1)
    (g : Nat) (hg : Blk w g 3 []) (v : Value) (l : List Int) (hv : Ints w v l) (hl : l.length ≤ 1000000) :
    ∃ u w', (Builtin.append_ #[t, tx] ty #[.slice (some ⟨g, 0, none⟩) 0 0, v]).run P w = .ok u w' ∧ OwnI 3 0 w' u l ∧ Below w.heap.size w w' := by
  rcases Nat.eq_zero_or_pos l.length with h0 | h0
  · obtain rfl : l = [] := List.length_eq_zero_iff.1 h0
    obtain ⟨a, cp, rfl, hc, hv⟩ := hv
    exact ⟨_, _, run_append_empty (P := P) w t tx ty 3 e' i z ht htx hi hz g 0 a cp, ⟨rfl, .inr ⟨g, 0, #[], rfl, Nat.zero_le _, hg, Nat.le_refl _, by unfold maxLen; omega, rfl, rfl⟩⟩, Below.refl _ _⟩
  · obtain ⟨u, w', hr, ho, hb⟩ := run_append_freshO (P := P) w t tx ty 3 i z 1 8 ht hi hz hs1 hby hzs g 0 v l.length _ (hv.src htx h0) h0 (by unfold maxLen; omega) (by omega)
    exact ⟨u, w', hr, OwnI.base ho (Nat.zero_le _), hb⟩

theorem wpList_append_freshI {P : Program} {ops : Array Oper} {rest : List Oper} {o : Oper} {a : Act} {w : World} {Q : Exit → Act → World → Prop} (hgd : o.guard = none) (s x : Operand) (t tx e' : TypeId)
    (ho : o.op = .call { callee := .builtin .append, args := #[s, x], argTypes := #[t, tx] })
    (i : TypeInfo) (z : Value) (ht : P.underlying t = some (.slice 3)) (htx : P.underlying tx = some (.slice e')) (hi : P.info? 3 = some i) (hz : i.zero = some z) (hs1 : i.size = 1) (hby : i.bytes = 8) (hzs : z.cells.size = 1)
    (g : Nat) (hg : Blk w g 3 []) (hs : a.eval s = .slice (some ⟨g, 0, none⟩) 0 0) (v : Value) (l : List Int) (hx : a.eval x = v) (hv : Ints w v l) (hl : l.length ≤ 1000000)
    (h : ∀ u w', OwnI 3 0 w' u l → Below w.heap.size w w' → wpList P ops Q rest (a.put o.dst u) w') : wpList P ops Q (o :: rest) a w :=
  wpList_plain hgd fun _ hK => by
    obtain ⟨u, w', hr, h2, h3⟩ := run_append_freshI (P := P) w t tx o.type e' i z ht htx hi hz hs1 hby hzs g hg v l hv hl
    unfold Oper.wp execOp
    simp only [ho, resolve, invoke, builtin, Sem.run_bind, Sem.run_pure, Result.andThen_ok, List.map_toArray, List.map_cons, List.map_nil, hs, hx, hr]
    exact hK _ _ (h u w' h2 h3)

theorem Tryz.infoInts : (Tryz.prog.info? 22).map (fun i => (i.zero, i.size, i.bytes)) = some (some (.slice none 0 0), 1, 24) := by kernel_rfl

set_option maxHeartbeats 400000 in
theorem polyL_any (v : Value) (l : List Int) (w : World) (hv : Ints w v l) (hl : l.length ≤ 1000000) :
    Calls Tryz.prog 20 #[v] w (GivesInts w l) := by
  have hv' := hv
  obtain ⟨a, cap, rfl, _⟩ := hv'
  obtain ⟨i0, hi, hz0, hz1, hz2⟩ := info_parts Tryz.infoInt
  go_enter Tryz.func20, Tryz.ntmps20
  have kW1 := below_new w (Obj.cells #[] 3)
  go_wp2_with (at_builtin; refine wpList_append_freshI rfl (.tmp 3) (.tmp 4) 26 22 3 rfl i0 (.int .i64 0) Tryz.underlying26 Tryz.underlying22 hi hz0 hz1 hz2 rfl w.heap.size (Blk.new w _ []) rfl _ l rfl (hv.carry kW1) hl ?_; intro u w2 hu hb2)
  go_ret
  exact ⟨⟨_, rfl, hu.ints⟩, bthen kW1 hb2⟩

set_option maxHeartbeats 400000 in
theorem ringL_any (v : Value) (l : List Int) (w : World) (hv : Ints w v l) (hl : l.length ≤ 1000000) :
    Calls Tryz.prog 45 #[v] w (GivesInts w l) := by
  have hv' := hv
  obtain ⟨a, cap, rfl, _⟩ := hv'
  obtain ⟨i0, hi, hz0, hz1, hz2⟩ := info_parts Tryz.infoInt
  go_enter Tryz.func45, Tryz.ntmps45
  have kW1 := below_new w (Obj.cells #[] 3)
  go_wp2_with (at_builtin; refine wpList_append_freshI rfl (.tmp 3) (.tmp 4) 81 22 3 rfl i0 (.int .i64 0) Tryz.underlying81 Tryz.underlying22 hi hz0 hz1 hz2 rfl w.heap.size (Blk.new w _ []) rfl _ l rfl (hv.carry kW1) hl ?_; intro u w2 hu hb2)
  go_ret
  exact ⟨⟨_, rfl, hu.ints⟩, bthen kW1 hb2⟩

set_option maxHeartbeats 400000 in
theorem intsL_any (v : Value) (l : List Int) (w : World) (hv : Ints w v l) (hl : l.length ≤ 1000000) :
    Calls Tryz.prog 42 #[v] w (GivesInts w l) := by
  have hv' := hv
  obtain ⟨a, cap, rfl, _⟩ := hv'
  obtain ⟨i0, hi, hz0, hz1, hz2⟩ := info_parts Tryz.infoInt
  go_enter Tryz.func42, Tryz.ntmps42
  have kW1 := below_new w (Obj.cells #[] 3)
  go_wp2_with (at_builtin; refine wpList_append_freshI rfl (.tmp 3) (.tmp 4) 22 22 3 rfl i0 (.int .i64 0) Tryz.underlying22 Tryz.underlying22 hi hz0 hz1 hz2 rfl w.heap.size (Blk.new w _ []) rfl _ l rfl (hv.carry kW1) hl ?_; intro u w2 hu hb2)
  go_ret
  exact ⟨⟨_, rfl, hu.ints⟩, bthen kW1 hb2⟩


set_option maxRecDepth 100000 in
set_option maxHeartbeats 2000000 in
theorem rowsL_any (v : Value) (ll : List (List Int)) (w : World) (hv : RowsOf w v ll) (hl : ll.length ≤ 100000) (hl2 : ∀ l ∈ ll, l.length ≤ 1000000) :
    Calls Tryz.prog 80 #[v] w fun e w' => (∃ u, e = .returned u ∧ RowsOf w' u ll) ∧ Below w.heap.size w w' := by
  obtain ⟨ua, hua, hla, hra⟩ := hv
  obtain ⟨xa, ca, rfl, _, hca⟩ := hua
  rw [hla] at hca ⊢
  obtain ⟨i0, hi, hz0, hz1, hz2⟩ := info_parts Tryz.infoInt
  obtain ⟨j0, hj, jz0, jz1, jz2⟩ := info_parts Tryz.infoInts
  have HLA := Lib.hid hla
  clear hla
  go_enter Tryz.func80, Tryz.ntmps80
  go_wp2
  go_loopw [3, 8] (fun vo vi wr => ∃ (k : Nat) (us : List Value), k ≤ ll.length ∧ vi = .int .i64 k ∧ us.length = k ∧ wr.ownsRow w.heap.size 22 1 vo k us ∧ (∀ (j : Nat) (u : Value) (l : List Int), us[j]? = some u → ll[j]? = some l → OwnI 3 0 wr u l) ∧ Below w.heap.size w wr) (fun _ vi _ => ll.length - (intOf vi).toNat)
  case atStart => exact ⟨0, [], by omega, rfl, rfl, World.ownsRow_nil _ _ _ _, fun j u l h => by simp at h, Below.refl _ _⟩
  case round =>
    obtain ⟨k, us, hk, rfl, hlen, hown, hus, hbr⟩ := hrel
    have HLN := Lib.hid hlen
    clear hlen
    by_cases hlt : k < ll.length
    · obtain ⟨ba, oa, rfl, hda⟩ := hca (by omega)
      obtain ⟨x, hx⟩ : ∃ x, ll[k]? = some x := ⟨_, List.getElem?_eq_getElem hlt⟩
      obtain ⟨ux, hux⟩ : ∃ x, ua[k]? = some x := ⟨_, List.getElem?_eq_getElem (by rw [HLA.out]; exact hlt)⟩
      have c0 := cellb (hda k ux hux) hbr
      have ix := (hra k ux x hux hx).carry hbr
      have hlx := hl2 x (List.mem_of_getElem? hx)
      have HX := Lib.hid hx
      have HIX := Lib.hid ix
      obtain ⟨pa, pc, rfl, _⟩ := ix
      clear hda hx hca hux hra hl2
      have kW1 := below_new wr (Obj.cells #[] 3)
      have i1 : Blk (wr.alloc (Obj.cells #[] 3)) wr.heap.size 3 [] := Blk.new wr _ []
      have hix := HIX.out.carry kW1
      have s1 : (wr.alloc (Obj.cells #[] 3)).heap.size = wr.heap.size + 1 := by simp
      go_wp2_with (at_builtin; first
        | (refine wpList_append_freshI rfl (.tmp 13) (.tmp 14) 22 181 3 rfl i0 (.int .i64 0) Tryz.underlying22 Tryz.underlying181 hi hz0 hz1 hz2 rfl wr.heap.size i1 rfl _ x rfl hix hlx ?_; intro u w2 hu hb2; clear i1 hix; have hb02 := bthen kW1 hb2; have hown2 := own_below hown hb02; have hk2 := KInt.below hb02; have hs2 := (bthen hbr hb02).size; obtain ⟨pu, cu, eu, _⟩ := hu.ints; subst eu)
        | (go_loud (refine wpList_append_own _ rfl _ _ 104 rfl w.heap.size 22 j0 (.slice none 0 0) 1 24 Tryz.underlying104 hj jz0 jz1 jz2 rfl (by decide) _ _ _ rfl (hown2.alloc _) ⟨w2.heap.size, 0, none⟩ 1 1 [.slice pu x.length cu] rfl rfl (cell_one_new _ _ _) (by simp [Value.oneCell']) (by unfold maxLen; omega) (by omega) (by simp; omega) ?_; intro v' w5 hown5 hgrow5 _)))
      have hb5 := below_own (bthen hbr hb02) hown2 hgrow5
      have hk5 := kint_append hown2 (by decide) hgrow5
      have hus5 : ∀ (j : Nat) (y : Value) (l : List Int), (us ++ [.slice pu x.length cu])[j]? = some y → ll[j]? = some l → OwnI 3 0 w5 y l := by
        intro j y l hy hl'
        by_cases hj : j < us.length
        · rw [List.getElem?_append_left hj] at hy
          exact ((hus j y l hy hl').kint hk2).kint hk5
        · rw [List.getElem?_append_right (by omega)] at hy
          have hjl : ¬ us.length < j := fun hne => by
            rw [List.getElem?_eq_none (by simp; omega)] at hy
            cases hy
          obtain rfl : j = us.length := by omega
          simp at hy
          subst hy
          rw [HLN.out, HX.out] at hl'
          cases hl'
          exact hu.kint hk5
      go_wp2
      go_roundw
      case rel => exact ⟨k + 1, us ++ [.slice pu x.length cu], by omega, by go_num, by simp [HLN.out], hown5, hus5, hb5⟩
      case measure => simp [intOf]; omega
    · obtain rfl : k = ll.length := by omega
      have hout : RowsOf wr u3 ll := ⟨us, Vals.of_own (by rw [HLN.out]; exact hown), HLN.out, fun j u l h1 h2 => (hus j u l h1 h2).ints⟩
      clear hown hus
      go_wp2
      go_ret
      exact ⟨⟨_, rfl, hout⟩, hbr⟩

set_option maxRecDepth 100000 in
set_option maxHeartbeats 2000000 in
theorem tableL_any (v : Value) (ll : List (List Int)) (w : World) (hv : RowsOf w v ll) (hl : ll.length ≤ 100000) (hl2 : ∀ l ∈ ll, l.length ≤ 1000000) :
    Calls Tryz.prog 76 #[v] w fun e w' => (∃ u, e = .returned u ∧ RowsOf w' u ll) ∧ Below w.heap.size w w' := by
  obtain ⟨ua, hua, hla, hra⟩ := hv
  obtain ⟨xa, ca, rfl, _, hca⟩ := hua
  rw [hla] at hca ⊢
  obtain ⟨i0, hi, hz0, hz1, hz2⟩ := info_parts Tryz.infoInt
  obtain ⟨j0, hj, jz0, jz1, jz2⟩ := info_parts Tryz.infoRow
  have HLA := Lib.hid hla
  clear hla
  go_enter Tryz.func76, Tryz.ntmps76
  go_wp2
  go_loopw [3, 8] (fun vo vi wr => ∃ (k : Nat) (us : List Value), k ≤ ll.length ∧ vi = .int .i64 k ∧ us.length = k ∧ wr.ownsRow w.heap.size 181 1 vo k us ∧ (∀ (j : Nat) (u : Value) (l : List Int), us[j]? = some u → ll[j]? = some l → OwnI 3 0 wr u l) ∧ Below w.heap.size w wr) (fun _ vi _ => ll.length - (intOf vi).toNat)
  case atStart => exact ⟨0, [], by omega, rfl, rfl, World.ownsRow_nil _ _ _ _, fun j u l h => by simp at h, Below.refl _ _⟩
  case round =>
    obtain ⟨k, us, hk, rfl, hlen, hown, hus, hbr⟩ := hrel
    have HLN := Lib.hid hlen
    clear hlen
    by_cases hlt : k < ll.length
    · obtain ⟨ba, oa, rfl, hda⟩ := hca (by omega)
      obtain ⟨x, hx⟩ : ∃ x, ll[k]? = some x := ⟨_, List.getElem?_eq_getElem hlt⟩
      obtain ⟨ux, hux⟩ : ∃ x, ua[k]? = some x := ⟨_, List.getElem?_eq_getElem (by rw [HLA.out]; exact hlt)⟩
      have c0 := cellb (hda k ux hux) hbr
      have ix := (hra k ux x hux hx).carry hbr
      have hlx := hl2 x (List.mem_of_getElem? hx)
      have HX := Lib.hid hx
      have HIX := Lib.hid ix
      obtain ⟨pa, pc, rfl, _⟩ := ix
      clear hda hx hca hux hra hl2
      have kW1 := below_new wr (Obj.cells #[] 3)
      have i1 : Blk (wr.alloc (Obj.cells #[] 3)) wr.heap.size 3 [] := Blk.new wr _ []
      have hix := HIX.out.carry kW1
      have s1 : (wr.alloc (Obj.cells #[] 3)).heap.size = wr.heap.size + 1 := by simp
      go_wp2_with (at_builtin; first
        | (refine wpList_append_freshI rfl (.tmp 13) (.tmp 14) 181 22 3 rfl i0 (.int .i64 0) Tryz.underlying181 Tryz.underlying22 hi hz0 hz1 hz2 rfl wr.heap.size i1 rfl _ x rfl hix hlx ?_; intro u w2 hu hb2; clear i1 hix; have hb02 := bthen kW1 hb2; have hown2 := own_below hown hb02; have hk2 := KInt.below hb02; have hs2 := (bthen hbr hb02).size; obtain ⟨pu, cu, eu, _⟩ := hu.ints; subst eu)
        | (go_loud (refine wpList_append_own _ rfl _ _ 122 rfl w.heap.size 181 j0 (.slice none 0 0) 1 24 Tryz.underlying122 hj jz0 jz1 jz2 rfl (by decide) _ _ _ rfl (hown2.alloc _) ⟨w2.heap.size, 0, none⟩ 1 1 [.slice pu x.length cu] rfl rfl (cell_one_new _ _ _) (by simp [Value.oneCell']) (by unfold maxLen; omega) (by omega) (by simp; omega) ?_; intro v' w5 hown5 hgrow5 _)))
      have hb5 := below_own (bthen hbr hb02) hown2 hgrow5
      have hk5 := kint_append hown2 (by decide) hgrow5
      have hus5 : ∀ (j : Nat) (y : Value) (l : List Int), (us ++ [.slice pu x.length cu])[j]? = some y → ll[j]? = some l → OwnI 3 0 w5 y l := by
        intro j y l hy hl'
        by_cases hj : j < us.length
        · rw [List.getElem?_append_left hj] at hy
          exact ((hus j y l hy hl').kint hk2).kint hk5
        · rw [List.getElem?_append_right (by omega)] at hy
          have hjl : ¬ us.length < j := fun hne => by
            rw [List.getElem?_eq_none (by simp; omega)] at hy
            cases hy
          obtain rfl : j = us.length := by omega
          simp at hy
          subst hy
          rw [HLN.out, HX.out] at hl'
          cases hl'
          exact hu.kint hk5
      go_wp2
      go_roundw
      case rel => exact ⟨k + 1, us ++ [.slice pu x.length cu], by omega, by go_num, by simp [HLN.out], hown5, hus5, hb5⟩
      case measure => simp [intOf]; omega
    · obtain rfl : k = ll.length := by omega
      have hout : RowsOf wr u3 ll := ⟨us, Vals.of_own (by rw [HLN.out]; exact hown), HLN.out, fun j u l h1 h2 => (hus j u l h1 h2).ints⟩
      clear hown hus
      go_wp2
      go_ret
      exact ⟨⟨_, rfl, hout⟩, hbr⟩

end Go.Proofs.YtnlmaildmeihgaaGreatDoor

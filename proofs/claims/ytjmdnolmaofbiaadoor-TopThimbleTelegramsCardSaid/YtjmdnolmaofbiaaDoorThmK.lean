/- The law's helpers: SameInts, HasInt, thimbleNumber, thimblePair, thimbleWires. (printed by gen/thmK.py) -/
import Derived.Test.YtjmdnolmaofbiaaDoorThmJ
namespace Go.Proofs.YtjmdnolmaofbiaaDoor
set_option linter.unusedSimpArgs false
set_option linter.unusedVariables false
open Go.RowKit

theorem take_eq_succ {α : Type} {a b : List α} {k : Nat} {x : α} (h : a.take k = b.take k) (ha : a[k]? = some x) (hb : b[k]? = some x) : a.take (k + 1) = b.take (k + 1) := by
  rw [List.take_add_one, List.take_add_one, h, ha, hb]
theorem ne_of_get {α : Type} {a b : List α} {k : Nat} {x y : α} (ha : a[k]? = some x) (hb : b[k]? = some y) (h : x ≠ y) : a ≠ b := by
  rintro rfl; rw [ha] at hb; exact h (Option.some.inj hb)


set_option maxRecDepth 100000 in
set_option maxHeartbeats 1000000 in
theorem SameInts_any (va vb : Value) (a b : List Int) (w : World) (ha : Ints w va a) (hb : Ints w vb b) (hl : a.length ≤ 1000000000) :
    Calls Tryd.prog 9 #[va, vb] w fun e w' => e = .returned (.bool (decide (a = b))) ∧ Below w.heap.size w w' := by
  obtain ⟨xa, ca, rfl, _, hca⟩ := ha
  obtain ⟨xb, cb, rfl, _, hcb⟩ := hb
  by_cases hlen : a.length = b.length
  · have hb0 : ((a.length : Int) != (b.length : Int)) = false := by rw [bne_eq_false_iff_eq]; omega
    rw [hlen] at hb0 hl hca ⊢
    have HL := Lib.hid hlen
    clear hlen hb0
    go_enter Tryd.func9, Tryd.ntmps9
    go_wp2
    go_loopw [5] (fun i wr => ∃ k : Nat, k ≤ b.length ∧ i = .int .i64 k ∧ a.take k = b.take k ∧ Below w.heap.size w wr) (fun i _ => b.length - (intOf i).toNat)
    case atStart => exact ⟨0, by omega, rfl, rfl, Below.refl _ _⟩
    case round =>
      obtain ⟨k, hk, rfl, hab, hbr⟩ := hrel
      have HAB := Lib.hid hab
      clear hab
      by_cases hlt : k < b.length
      · obtain ⟨ba, oa, rfl, hda⟩ := hca (by omega)
        obtain ⟨bb, ob, rfl, hdb⟩ := hcb (by omega)
        have c0 := cellb (hda k hlt) hbr
        have c1 := cellb (hdb k hlt) hbr
        obtain ⟨x, hx⟩ : ∃ x, a[k]? = some x := ⟨_, List.getElem?_eq_getElem (by rw [HL.out]; exact hlt)⟩
        obtain ⟨y, hy⟩ : ∃ y, b[k]? = some y := ⟨_, List.getElem?_eq_getElem hlt⟩
        rw [hx] at c0
        rw [hy] at c1
        simp only [Option.getD_some] at c0 c1
        have HX := Lib.hid hx
        have HY := Lib.hid hy
        have e1 : (k : Int) < (b.length : Int) := by omega
        have e2 : (0 : Int) ≤ (k : Int) := by omega
        clear hda hdb hx hy hca hcb
        by_cases hxy : x = y
        · subst hxy
          go_wp2_with fail
          refine wp_region_held_drew (S := (fun w' => w'.cell? ⟨ba, oa + k, none⟩ = some (.int .i64 x) ∧ w'.cell? ⟨bb, ob + k, none⟩ = some (.int .i64 x))) (by kernel_rfl) ?_ (fun hHeld0 => ?_)
          · (try dsimp only); go_keep
          refine wpAnyH_take (i := 0) (oi := { dst := some 17, op := Op.move (Operand.tmp 0), type := 29, pos := "words.go:97", after := #[], guard := none }) (v := ?_) rfl (by kernel_rfl) (by kernel_rfl) (by kernel_rfl) (fun _ _ _ h => h) (Or.inl ⟨by rfl, ?_⟩) (by assumption) ?_
          rotate_left
          · (intro w hSw; (try dsimp only at hSw); go_simp); (try with_reducible rfl)
          try simp only [Act.put, List.setIfInBounds_toArray, List.set_cons_zero, List.set_cons_succ]
          refine wpAnyH_take (i := 1) (oi := { dst := some 18, op := Op.move (Operand.tmp 5), type := 3, pos := "words.go:97", after := #[], guard := none }) (v := ?_) rfl (by kernel_rfl) (by kernel_rfl) (by kernel_rfl) (fun _ _ _ h => h) (Or.inl ⟨by rfl, ?_⟩) (by assumption) ?_
          rotate_left
          · (intro w hSw; (try dsimp only at hSw); go_simp); (try with_reducible rfl)
          try simp only [Act.put, List.setIfInBounds_toArray, List.set_cons_zero, List.set_cons_succ]
          refine wpAnyH_take (i := 2) (oi := { dst := some 19, op := Op.indexAddr 29 (Operand.tmp 17) (Operand.tmp 18), type := 0, pos := "words.go:97", after := #[{ on := 0, ground := Ground.data }, { on := 1, ground := Ground.data }], guard := none }) (v := ?_) rfl (by kernel_rfl) (by kernel_rfl) (by kernel_rfl) (fun _ _ _ h => h) (Or.inl ⟨by rfl, ?_⟩) (by assumption) ?_
          rotate_left
          · (intro w hSw; (try dsimp only at hSw); go_simp); (try with_reducible rfl)
          try simp only [Act.put, List.setIfInBounds_toArray, List.set_cons_zero, List.set_cons_succ]
          refine wpAnyH_take (i := 3) (oi := { dst := some 20, op := Op.load 3 (Operand.tmp 19), type := 3, pos := "words.go:97", after := #[{ on := 2, ground := Ground.data }], guard := none }) (v := ?_) rfl (by kernel_rfl) (by kernel_rfl) (by kernel_rfl) (fun _ _ _ h => h) (Or.inl ⟨by rfl, ?_⟩) (by assumption) ?_
          rotate_left
          · (intro w hSw; (try dsimp only at hSw); go_simp); (try with_reducible rfl)
          try simp only [Act.put, List.setIfInBounds_toArray, List.set_cons_zero, List.set_cons_succ]
          refine wpAnyH_take (i := 4) (oi := { dst := some 21, op := Op.move (Operand.tmp 1), type := 29, pos := "words.go:97", after := #[], guard := none }) (v := ?_) rfl (by kernel_rfl) (by kernel_rfl) (by kernel_rfl) (fun _ _ _ h => h) (Or.inl ⟨by rfl, ?_⟩) (by assumption) ?_
          rotate_left
          · (intro w hSw; (try dsimp only at hSw); go_simp); (try with_reducible rfl)
          try simp only [Act.put, List.setIfInBounds_toArray, List.set_cons_zero, List.set_cons_succ]
          refine wpAnyH_take (i := 5) (oi := { dst := some 22, op := Op.move (Operand.tmp 5), type := 3, pos := "words.go:97", after := #[], guard := none }) (v := ?_) rfl (by kernel_rfl) (by kernel_rfl) (by kernel_rfl) (fun _ _ _ h => h) (Or.inl ⟨by rfl, ?_⟩) (by assumption) ?_
          rotate_left
          · (intro w hSw; (try dsimp only at hSw); go_simp); (try with_reducible rfl)
          try simp only [Act.put, List.setIfInBounds_toArray, List.set_cons_zero, List.set_cons_succ]
          refine wpAnyH_take (i := 6) (oi := { dst := some 23, op := Op.indexAddr 29 (Operand.tmp 21) (Operand.tmp 22), type := 0, pos := "words.go:97", after := #[{ on := 4, ground := Ground.data }, { on := 5, ground := Ground.data }], guard := none }) (v := ?_) rfl (by kernel_rfl) (by kernel_rfl) (by kernel_rfl) (fun _ _ _ h => h) (Or.inl ⟨by rfl, ?_⟩) (by assumption) ?_
          rotate_left
          · (intro w hSw; (try dsimp only at hSw); go_simp); (try with_reducible rfl)
          try simp only [Act.put, List.setIfInBounds_toArray, List.set_cons_zero, List.set_cons_succ]
          refine wpAnyH_take (i := 7) (oi := { dst := some 24, op := Op.load 3 (Operand.tmp 23), type := 3, pos := "words.go:97", after := #[{ on := 6, ground := Ground.data }], guard := none }) (v := ?_) rfl (by kernel_rfl) (by kernel_rfl) (by kernel_rfl) (fun _ _ _ h => h) (Or.inl ⟨by rfl, ?_⟩) (by assumption) ?_
          rotate_left
          · (intro w hSw; (try dsimp only at hSw); go_simp); (try with_reducible rfl)
          try simp only [Act.put, List.setIfInBounds_toArray, List.set_cons_zero, List.set_cons_succ]
          refine wpAnyH_take (i := 8) (oi := { dst := some 25, op := Op.binOp BinOp.neq 3 (Operand.tmp 20) (Operand.tmp 24) 3, type := 4, pos := "words.go:97", after := #[{ on := 3, ground := Ground.data }, { on := 7, ground := Ground.data }], guard := none }) (v := ?_) rfl (by kernel_rfl) (by kernel_rfl) (by kernel_rfl) (fun _ _ _ h => h) (Or.inl ⟨by rfl, ?_⟩) (by assumption) ?_
          rotate_left
          · (intro w hSw; (try dsimp only at hSw); go_simp); (try with_reducible rfl)
          try simp only [Act.put, List.setIfInBounds_toArray, List.set_cons_zero, List.set_cons_succ]
          refine wpAnyH_done (by kernel_rfl) ?_ _
          clear hHeld0
          clear c0 c1
          go_wp2
          go_roundw
          case rel => exact ⟨k + 1, by omega, by go_num, take_eq_succ HAB.out HX.out HY.out, hbr.drew⟩
          case measure => simp [intOf]; omega
        · have hq : (x != y) = true := by rw [bne_iff_ne]; exact hxy
          have hne := ne_of_get HX.out HY.out hxy
          clear hxy
          have HN := Lib.hid hne
          clear hne
          go_wp2_with fail
          refine wp_region_held_drew (S := (fun w' => w'.cell? ⟨ba, oa + k, none⟩ = some (.int .i64 x) ∧ w'.cell? ⟨bb, ob + k, none⟩ = some (.int .i64 y))) (by kernel_rfl) ?_ (fun hHeld0 => ?_)
          · (try dsimp only); go_keep
          refine wpAnyH_take (i := 0) (oi := { dst := some 17, op := Op.move (Operand.tmp 0), type := 29, pos := "words.go:97", after := #[], guard := none }) (v := ?_) rfl (by kernel_rfl) (by kernel_rfl) (by kernel_rfl) (fun _ _ _ h => h) (Or.inl ⟨by rfl, ?_⟩) (by assumption) ?_
          rotate_left
          · (intro w hSw; (try dsimp only at hSw); go_simp); (try with_reducible rfl)
          try simp only [Act.put, List.setIfInBounds_toArray, List.set_cons_zero, List.set_cons_succ]
          refine wpAnyH_take (i := 1) (oi := { dst := some 18, op := Op.move (Operand.tmp 5), type := 3, pos := "words.go:97", after := #[], guard := none }) (v := ?_) rfl (by kernel_rfl) (by kernel_rfl) (by kernel_rfl) (fun _ _ _ h => h) (Or.inl ⟨by rfl, ?_⟩) (by assumption) ?_
          rotate_left
          · (intro w hSw; (try dsimp only at hSw); go_simp); (try with_reducible rfl)
          try simp only [Act.put, List.setIfInBounds_toArray, List.set_cons_zero, List.set_cons_succ]
          refine wpAnyH_take (i := 2) (oi := { dst := some 19, op := Op.indexAddr 29 (Operand.tmp 17) (Operand.tmp 18), type := 0, pos := "words.go:97", after := #[{ on := 0, ground := Ground.data }, { on := 1, ground := Ground.data }], guard := none }) (v := ?_) rfl (by kernel_rfl) (by kernel_rfl) (by kernel_rfl) (fun _ _ _ h => h) (Or.inl ⟨by rfl, ?_⟩) (by assumption) ?_
          rotate_left
          · (intro w hSw; (try dsimp only at hSw); go_simp); (try with_reducible rfl)
          try simp only [Act.put, List.setIfInBounds_toArray, List.set_cons_zero, List.set_cons_succ]
          refine wpAnyH_take (i := 3) (oi := { dst := some 20, op := Op.load 3 (Operand.tmp 19), type := 3, pos := "words.go:97", after := #[{ on := 2, ground := Ground.data }], guard := none }) (v := ?_) rfl (by kernel_rfl) (by kernel_rfl) (by kernel_rfl) (fun _ _ _ h => h) (Or.inl ⟨by rfl, ?_⟩) (by assumption) ?_
          rotate_left
          · (intro w hSw; (try dsimp only at hSw); go_simp); (try with_reducible rfl)
          try simp only [Act.put, List.setIfInBounds_toArray, List.set_cons_zero, List.set_cons_succ]
          refine wpAnyH_take (i := 4) (oi := { dst := some 21, op := Op.move (Operand.tmp 1), type := 29, pos := "words.go:97", after := #[], guard := none }) (v := ?_) rfl (by kernel_rfl) (by kernel_rfl) (by kernel_rfl) (fun _ _ _ h => h) (Or.inl ⟨by rfl, ?_⟩) (by assumption) ?_
          rotate_left
          · (intro w hSw; (try dsimp only at hSw); go_simp); (try with_reducible rfl)
          try simp only [Act.put, List.setIfInBounds_toArray, List.set_cons_zero, List.set_cons_succ]
          refine wpAnyH_take (i := 5) (oi := { dst := some 22, op := Op.move (Operand.tmp 5), type := 3, pos := "words.go:97", after := #[], guard := none }) (v := ?_) rfl (by kernel_rfl) (by kernel_rfl) (by kernel_rfl) (fun _ _ _ h => h) (Or.inl ⟨by rfl, ?_⟩) (by assumption) ?_
          rotate_left
          · (intro w hSw; (try dsimp only at hSw); go_simp); (try with_reducible rfl)
          try simp only [Act.put, List.setIfInBounds_toArray, List.set_cons_zero, List.set_cons_succ]
          refine wpAnyH_take (i := 6) (oi := { dst := some 23, op := Op.indexAddr 29 (Operand.tmp 21) (Operand.tmp 22), type := 0, pos := "words.go:97", after := #[{ on := 4, ground := Ground.data }, { on := 5, ground := Ground.data }], guard := none }) (v := ?_) rfl (by kernel_rfl) (by kernel_rfl) (by kernel_rfl) (fun _ _ _ h => h) (Or.inl ⟨by rfl, ?_⟩) (by assumption) ?_
          rotate_left
          · (intro w hSw; (try dsimp only at hSw); go_simp); (try with_reducible rfl)
          try simp only [Act.put, List.setIfInBounds_toArray, List.set_cons_zero, List.set_cons_succ]
          refine wpAnyH_take (i := 7) (oi := { dst := some 24, op := Op.load 3 (Operand.tmp 23), type := 3, pos := "words.go:97", after := #[{ on := 6, ground := Ground.data }], guard := none }) (v := ?_) rfl (by kernel_rfl) (by kernel_rfl) (by kernel_rfl) (fun _ _ _ h => h) (Or.inl ⟨by rfl, ?_⟩) (by assumption) ?_
          rotate_left
          · (intro w hSw; (try dsimp only at hSw); go_simp); (try with_reducible rfl)
          try simp only [Act.put, List.setIfInBounds_toArray, List.set_cons_zero, List.set_cons_succ]
          refine wpAnyH_take (i := 8) (oi := { dst := some 25, op := Op.binOp BinOp.neq 3 (Operand.tmp 20) (Operand.tmp 24) 3, type := 4, pos := "words.go:97", after := #[{ on := 3, ground := Ground.data }, { on := 7, ground := Ground.data }], guard := none }) (v := ?_) rfl (by kernel_rfl) (by kernel_rfl) (by kernel_rfl) (fun _ _ _ h => h) (Or.inl ⟨by rfl, ?_⟩) (by assumption) ?_
          rotate_left
          · (intro w hSw; (try dsimp only at hSw); go_simp); (try with_reducible rfl)
          try simp only [Act.put, List.setIfInBounds_toArray, List.set_cons_zero, List.set_cons_succ]
          refine wpAnyH_done (by kernel_rfl) ?_ _
          clear hHeld0
          clear c0 c1
          go_wp2
          go_ret
          exact ⟨ret_bool (by simp [HN.out]), hbr.drew⟩
      · obtain rfl : k = b.length := by omega
        have h := HAB.out
        rw [← HL.out, List.take_length, HL.out, List.take_length] at h
        have H := Lib.hid h
        clear h hca hcb
        go_wp2
        go_ret
        exact ⟨ret_bool (by rw [H.out]; simp), hbr⟩
  · have hb0 : ((a.length : Int) != (b.length : Int)) = true := by rw [bne_iff_ne]; omega
    have HN := Lib.hid (show a ≠ b by rintro rfl; exact hlen rfl)
    clear hlen hca hcb
    go_enter Tryd.func9, Tryd.ntmps9
    go_wp2
    go_ret
    exact ⟨ret_bool (by simp [HN.out]), Below.refl _ _⟩



def hasI (l : List Int) (n : Int) : Bool := l.contains n

set_option maxHeartbeats 400000 in
theorem HasInt_any (v : Value) (l : List Int) (n : Int) (w : World) (hl : l.length ≤ 1000000000) (hv : Ints w v l) :
    Calls Tryd.prog 10 #[v, .int .i64 n] w fun r w' => r = .returned (.bool (hasI l n)) ∧ w = w' := by
  obtain ⟨a, cap, rfl, hc, hv⟩ := hv
  rcases Nat.eq_zero_or_pos l.length with h0 | h0
  · obtain rfl : l = [] := List.length_eq_zero_iff.1 h0
    go_enter Tryd.func10, Tryd.ntmps10
    go_wp2
    go_loop [5] (fun i => i = .int .i64 0) (fun _ => 0)
    case atStart => rfl
    case round =>
      obtain rfl := hrel
      go_wp2
      go_ret
      exact ⟨rfl, rfl⟩
  · obtain ⟨b, off, rfl, hcs⟩ := hv h0
    clear hv
    go_enter Tryd.func10, Tryd.ntmps10
    go_wp2
    go_loop [5] (fun i => ∃ k : Nat, k ≤ l.length ∧ i = .int .i64 k ∧ hasI (l.take k) n = false) (fun i => l.length - (intOf i).toNat)
    case atStart => exact ⟨0, by omega, rfl, rfl⟩
    case round =>
      obtain ⟨k, hk, rfl, hf⟩ := hrel
      by_cases hlt : k < l.length
      · have hcell := hcs k hlt
        obtain ⟨x, hx⟩ : ∃ x, l[k]? = some x := ⟨_, List.getElem?_eq_getElem hlt⟩
        rw [hx] at hcell
        simp only [Option.getD_some] at hcell
        have HX := Lib.hid hx
        have HF := Lib.hid hf
        clear hcs hx hf
        by_cases hz : x = n
        · have HR := Lib.hid (show hasI l n = true by rw [hasI, List.contains_iff_mem, ← hz]; exact List.mem_of_getElem? HX.out)
          subst hz
          go_wp2
          go_ret
          exact ⟨by rw [HR.out]; rfl, rfl⟩
        · have HR := Lib.hid (show hasI (l.take (k + 1)) n = false by
            have := HF.out
            unfold hasI at this ⊢
            rw [List.take_add_one, HX.out]
            simp at this ⊢
            exact ⟨this, fun h => hz h.symm⟩)
          go_wp2
          go_round
          case rel => exact ⟨k + 1, by omega, by go_num, HR.out⟩
          case measure => simp [intOf]; omega
      · obtain rfl : k = l.length := by omega
        rw [List.take_length] at hf
        have HR := Lib.hid hf
        clear hf
        go_wp2
        go_ret
        exact ⟨by rw [HR.out]; rfl, rfl⟩



theorem tm101 (a : Int) : -100 ≤ a.tmod 101 ∧ a.tmod 101 ≤ 100 := by
  have h1 := Int.tmod_lt_of_pos a (show (0 : Int) < 101 by decide)
  have h2 := Int.lt_tmod_of_pos a (show (0 : Int) < 101 by decide)
  omega
set_option maxRecDepth 100000 in
set_option maxHeartbeats 1000000 in
theorem thNumber_ok (a b : Int) (w : World) (ha : -128 ≤ a ∧ a ≤ 127) (hb : -128 ≤ b ∧ b ≤ 127) :
    Calls Tryd.prog 5 #[.agg #[.int .i8 a, .int .i8 b]] w fun e w' => e = .returned (.agg #[.int .i64 (a.tmod 101), .int .i64 (b.tmod 101)]) ∧ Below w.heap.size w w' := by
  have q0 : IntKind.i64.wrap a = a := IntWalk.i64_in _ (by omega)
  have q1 : IntKind.i64.wrap b = b := IntWalk.i64_in _ (by omega)
  obtain ⟨x, hx⟩ : ∃ x, x = a.tmod 101 := ⟨_, rfl⟩
  obtain ⟨y, hy⟩ : ∃ y, y = b.tmod 101 := ⟨_, rfl⟩
  rw [← hx, ← hy]
  have hx2 := hx.symm
  have hy2 := hy.symm
  have hxw : IntKind.i64.wrap x = x := IntWalk.i64_in _ (by have := tm101 a; omega)
  have hyw : IntKind.i64.wrap y = y := IntWalk.i64_in _ (by have := tm101 b; omega)
  clear hx hy
  go_enter Tryd.func5, Tryd.ntmps5
  go_upto_region 1 with fail
  obtain ⟨W1, hW1⟩ : ∃ v, v = World.alloc w (Obj.cells #[.int .i8 a, .int .i8 b] 35) := ⟨_, rfl⟩
  have kW1 : Below w.heap.size w W1 := by rw [hW1]; exact below_new _ _
  have iW1 : Blk W1 (w.heap.size) 35 [.int .i8 a, .int .i8 b] := by rw [hW1]; exact Blk.new _ _ _
  have sW1 : W1.heap.size = w.heap.size + 1 := by rw [hW1]; simp
  rw [← hW1]
  clear hW1
  obtain ⟨W2, hW2⟩ : ∃ v, v = World.alloc W1 (Obj.cells #[.int .i64 0, .int .i64 0] 33) := ⟨_, rfl⟩
  have kW2 : Below W1.heap.size W1 W2 := by rw [hW2]; exact below_new _ _
  have iW2 : Blk W2 (w.heap.size + 1) 33 [.int .i64 0, .int .i64 0] := by rw [hW2, ← sW1]; exact Blk.new _ _ _
  have sW2 : W2.heap.size = w.heap.size + 1 + 1 := by rw [hW2]; simp [sW1]
  rw [← hW2]
  clear hW2
  have i1 := iW1.carry kW2
  have i2 : BlkI W2 (w.heap.size + 1) 33 [0, 0] := iW2
  have hB : Below w.heap.size w W2 := bthen kW1 kW2
  have a0 := i1.cell (j := 0) (v := .int .i8 a) rfl
  have a1 := i1.cell (j := 1) (v := .int .i8 b) rfl
  clear iW1 kW1 sW1 iW2 kW2 sW2 i1
  go_wp2_with (refine wpList_storeA rfl _ _ _ rfl (w.heap.size + 1) [x, y] [0, 0] rfl rfl i2 rfl Tryd.sizeApiE ?_)
  have i9 := BlkI.setRowA i2 [x, y]
  have x0 := BlkI.cell i9 (j := 0) (by simp)
  have x1 := BlkI.cell i9 (j := 1) (by simp)
  simp at x0 x1
  exact bodyPost_ret (v := .agg #[.int .i64 x, .int .i64 y]) (by simp [results, Tryd.f5, go_sem, x0, x1]) rfl ⟨rfl, below_rowA hB (by omega) _⟩
theorem Tryd.sizePair : (Tryd.prog.info? 41).map (fun x => x.size) = some 12 := by kernel_rfl
/-- two telegrams of three numbers. -/
def tg1 (x : E3) (n : Int) : Tg := (5, (2 * n) % 65536, x.1, x.2.1, x.2.2.1, x.2.2.2.1)
def tg2 (x : E3) (n : Int) : Tg := (5, (2 * n + 1) % 65536, x.2.2.2.2.1, x.2.2.2.2.2, 0, 0)
set_option maxRecDepth 100000 in
set_option maxHeartbeats 2000000 in
theorem thPair_ok (x : E3) (n : Int) (w : World) (hn : 0 ≤ n ∧ n ≤ 1000000) :
    Calls Tryd.prog 6 #[.agg (ia (e3L x)), .int .i64 n] w fun e w' => e = .returned (.agg (ia (tgI (tg1 x n) ++ tgI (tg2 x n)))) ∧ Below w.heap.size w w' := by
  obtain ⟨y0, y1, y2, y3, y4, y5⟩ := x
  have q0 : IntKind.i64.wrap (2 * n) = 2 * n := IntWalk.i64_in _ (by omega)
  have q1 : IntKind.i64.wrap (2 * n + 1) = 2 * n + 1 := IntWalk.i64_in _ (by omega)
  obtain ⟨c, hc⟩ : ∃ c, c = (2 * n) % 65536 := ⟨_, rfl⟩
  obtain ⟨d, hd⟩ : ∃ d, d = (2 * n + 1) % 65536 := ⟨_, rfl⟩
  have hc' : (2 * n).tmod 65536 = c := by rw [hc]; exact Int.tmod_eq_emod_of_nonneg (by omega)
  have hd' : (2 * n + 1).tmod 65536 = d := by rw [hd]; exact Int.tmod_eq_emod_of_nonneg (by omega)
  have hres : tgI (tg1 (y0, y1, y2, y3, y4, y5) n) ++ tgI (tg2 (y0, y1, y2, y3, y4, y5) n) = [5, c, y0, y1, y2, y3, 5, d, y4, y5, 0, 0] := by rw [hc, hd]; rfl
  rw [hres]
  have g0 : 0 ≤ 2 * n := by omega
  have g1 : 0 ≤ 2 * n + 1 := by omega
  have hc2 := hc.symm
  have hd2 := hd.symm
  clear hres hc hd hn
  show Calls _ _ #[.agg #[.int .i64 y0, .int .i64 y1, .int .i64 y2, .int .i64 y3, .int .i64 y4, .int .i64 y5], _] _ _
  go_enter Tryd.func6, Tryd.ntmps6
  go_upto_region 1 with fail
  obtain ⟨W1, hW1⟩ : ∃ v, v = World.alloc w (Obj.cells #[.int .i64 y0, .int .i64 y1, .int .i64 y2, .int .i64 y3, .int .i64 y4, .int .i64 y5] 37) := ⟨_, rfl⟩
  have kW1 : Below w.heap.size w W1 := by rw [hW1]; exact below_new _ _
  have iW1 : Blk W1 (w.heap.size) 37 [.int .i64 y0, .int .i64 y1, .int .i64 y2, .int .i64 y3, .int .i64 y4, .int .i64 y5] := by rw [hW1]; exact Blk.new _ _ _
  have sW1 : W1.heap.size = w.heap.size + 1 := by rw [hW1]; simp
  rw [← hW1]
  clear hW1
  obtain ⟨W2, hW2⟩ : ∃ v, v = World.alloc W1 (Obj.cells #[.int .i64 0, .int .i64 0, .int .i64 0, .int .i64 0, .int .i64 0, .int .i64 0, .int .i64 0, .int .i64 0, .int .i64 0, .int .i64 0, .int .i64 0, .int .i64 0] 41) := ⟨_, rfl⟩
  have kW2 : Below W1.heap.size W1 W2 := by rw [hW2]; exact below_new _ _
  have iW2 : Blk W2 (w.heap.size + 1) 41 [.int .i64 0, .int .i64 0, .int .i64 0, .int .i64 0, .int .i64 0, .int .i64 0, .int .i64 0, .int .i64 0, .int .i64 0, .int .i64 0, .int .i64 0, .int .i64 0] := by rw [hW2, ← sW1]; exact Blk.new _ _ _
  have sW2 : W2.heap.size = w.heap.size + 1 + 1 := by rw [hW2]; simp [sW1]
  rw [← hW2]
  clear hW2
  have i1 := iW1.carry kW2
  have i2 : BlkI W2 (w.heap.size + 1) 41 [0, 0, 0, 0, 0, 0, 0, 0, 0, 0, 0, 0] := iW2
  have hB : Below w.heap.size w W2 := bthen kW1 kW2
  have a0 := i1.cell (j := 0) (v := .int .i64 y0) rfl
  have a1 := i1.cell (j := 1) (v := .int .i64 y1) rfl
  have a2 := i1.cell (j := 2) (v := .int .i64 y2) rfl
  have a3 := i1.cell (j := 3) (v := .int .i64 y3) rfl
  have a4 := i1.cell (j := 4) (v := .int .i64 y4) rfl
  have a5 := i1.cell (j := 5) (v := .int .i64 y5) rfl
  clear iW1 kW1 sW1 iW2 kW2 sW2 i1
  go_wp2_with (refine wpList_storeA rfl _ _ _ rfl (w.heap.size + 1) [5, c, y0, y1, y2, y3, 5, d, y4, y5, 0, 0] [0, 0, 0, 0, 0, 0, 0, 0, 0, 0, 0, 0] rfl rfl i2 rfl Tryd.sizePair ?_)
  have i9 := BlkI.setRowA i2 [5, c, y0, y1, y2, y3, 5, d, y4, y5, 0, 0]
  have x0 := BlkI.cell i9 (j := 0) (by simp)
  have x1 := BlkI.cell i9 (j := 1) (by simp)
  have x2 := BlkI.cell i9 (j := 2) (by simp)
  have x3 := BlkI.cell i9 (j := 3) (by simp)
  have x4 := BlkI.cell i9 (j := 4) (by simp)
  have x5 := BlkI.cell i9 (j := 5) (by simp)
  have x6 := BlkI.cell i9 (j := 6) (by simp)
  have x7 := BlkI.cell i9 (j := 7) (by simp)
  have x8 := BlkI.cell i9 (j := 8) (by simp)
  have x9 := BlkI.cell i9 (j := 9) (by simp)
  have x10 := BlkI.cell i9 (j := 10) (by simp)
  have x11 := BlkI.cell i9 (j := 11) (by simp)
  simp at x0 x1 x2 x3 x4 x5 x6 x7 x8 x9 x10 x11
  exact bodyPost_ret (v := .agg #[.int .i64 5, .int .i64 c, .int .i64 y0, .int .i64 y1, .int .i64 y2, .int .i64 y3, .int .i64 5, .int .i64 d, .int .i64 y4, .int .i64 y5, .int .i64 0, .int .i64 0]) (by simp [results, Tryd.f6, go_sem, x0, x1, x2, x3, x4, x5, x6, x7, x8, x9, x10, x11]) rfl ⟨rfl, below_rowA hB (by omega) _⟩


theorem Tryd.undA12u : Tryd.prog.underlying 59 = some (.array 12 5) := by kernel_rfl
theorem arr12u (a : Option Addr) (n cap : Nat) (w : World) (h : 12 ≤ n) : Sem.run Tryd.prog (Instr.arrayAt 59 (.slice a n cap)) w = .ok (.pointer a) w := by
  unfold Instr.arrayAt
  rw [Sem.run_bind, run_underlying Tryd.undA12u w]
  simp [Nat.not_lt.2 h]
theorem eqF1 (w : World) : Sem.run Tryd.prog (binOp .eql 59 (.agg #[.int .u8 177, .int .u8 5, .int .u8 0, .int .u8 6, .int .u8 0, .int .u8 2, .int .u8 0, .int .u8 0, .int .u8 255, .int .u8 254, .int .u8 255, .int .u8 254]) (.agg #[.int .u8 177, .int .u8 5, .int .u8 0, .int .u8 6, .int .u8 0, .int .u8 2, .int .u8 0, .int .u8 0, .int .u8 255, .int .u8 254, .int .u8 255, .int .u8 254])) w = .ok (.bool true) w := by kernel_rfl
theorem eqF2 (w : World) : Sem.run Tryd.prog (binOp .eql 59 (.agg #[.int .u8 177, .int .u8 5, .int .u8 0, .int .u8 7, .int .u8 0, .int .u8 0, .int .u8 0, .int .u8 2, .int .u8 0, .int .u8 0, .int .u8 0, .int .u8 0]) (.agg #[.int .u8 177, .int .u8 5, .int .u8 0, .int .u8 7, .int .u8 0, .int .u8 0, .int .u8 0, .int .u8 2, .int .u8 0, .int .u8 0, .int .u8 0, .int .u8 0])) w = .ok (.bool true) w := by kernel_rfl
theorem eqC6 (w : World) : Sem.run Tryd.prog (binOp .eql 36 (.agg #[.int .i64 0, .int .i64 0, .int .i64 6, .int .i64 0, .int .i64 0, .int .i64 0]) (.agg #[.int .i64 0, .int .i64 0, .int .i64 6, .int .i64 0, .int .i64 0, .int .i64 0])) w = .ok (.bool true) w := by kernel_rfl
set_option maxRecDepth 100000 in
set_option maxHeartbeats 4000000 in
theorem thWires_ok (w : World) (hT : Thirds w) :
    Calls Tryd.prog 4 #[] w fun e w' => e = .returned (.bool true) ∧ Below w.heap.size w w' := by
  have TP := Lib.hid (fun W => thPair_ok (2, 0, -2, -2, 0, 2) 3 W (by omega))
  have TE1 := Lib.hid (fun W => Encode_ok 5 6 2 0 (-2) (-2) (by simp only [TgOk]; omega) W)
  have TE2 := Lib.hid (fun W => Encode_ok 5 7 0 2 0 0 (by simp only [TgOk]; omega) W)
  have TC := Lib.hid (fun W hT => Components_ok (2, 0, -2, -2, 0, 2) W hT (by simp only [SmlE]; omega))
  have e1 := fun W => eqF1 W
  have e2 := fun W => eqF2 W
  have e3 := fun W => eqC6 W
  have r12 := fun A W => arr12u (some ⟨A, 0, none⟩) 12 16 W (by omega)
  go_enter Tryd.func4, Tryd.ntmps4
  go_upto_region 2 with fail
  obtain ⟨W1, hW1⟩ : ∃ v, v = World.alloc w (Obj.cells #[.int .i64 2, .int .i64 0, .int .i64 (-2), .int .i64 (-2), .int .i64 0, .int .i64 2] 37) := ⟨_, rfl⟩
  have kW1 : Below w.heap.size w W1 := by rw [hW1]; exact below_new _ _
  have iW1 : Blk W1 (w.heap.size) 37 [.int .i64 2, .int .i64 0, .int .i64 (-2), .int .i64 (-2), .int .i64 0, .int .i64 2] := by rw [hW1]; exact Blk.new _ _ _
  have sW1 : W1.heap.size = w.heap.size + 1 := by rw [hW1]; simp
  rw [← hW1]
  clear hW1
  have i1 := iW1
  have hB := kW1
  replace hT := hT.carry kW1
  have a0 := i1.cell (j := 0) (v := .int .i64 2) rfl
  have a1 := i1.cell (j := 1) (v := .int .i64 0) rfl
  have a2 := i1.cell (j := 2) (v := .int .i64 (-2)) rfl
  have a3 := i1.cell (j := 3) (v := .int .i64 (-2)) rfl
  have a4 := i1.cell (j := 4) (v := .int .i64 0) rfl
  have a5 := i1.cell (j := 5) (v := .int .i64 2) rfl
  clear iW1 kW1 sW1
  go_wp2_with fail
  refine (TP.out W1).mono ?_
  rintro e w2 ⟨he, hb2⟩
  replace he : e = .returned (.agg #[.int .i64 5, .int .i64 6, .int .i64 2, .int .i64 0, .int .i64 (-2), .int .i64 (-2), .int .i64 5, .int .i64 7, .int .i64 0, .int .i64 2, .int .i64 0, .int .i64 0]) := he
  subst he
  replace hT := hT.carry hb2
  replace hB := bthen hB hb2
  replace i1 := i1.carry hb2
  clear a0 a1 a2 a3 a4 a5 hb2
  go_upto_region 3 with fail
  obtain ⟨W3, hW3⟩ : ∃ v, v = World.alloc w2 (Obj.cells #[.int .i64 5, .int .i64 6, .int .i64 2, .int .i64 0, .int .i64 (-2), .int .i64 (-2), .int .i64 5, .int .i64 7, .int .i64 0, .int .i64 2, .int .i64 0, .int .i64 0] 41) := ⟨_, rfl⟩
  have kW3 : Below w2.heap.size w2 W3 := by rw [hW3]; exact below_new _ _
  have iW3 : Blk W3 (w2.heap.size) 41 [.int .i64 5, .int .i64 6, .int .i64 2, .int .i64 0, .int .i64 (-2), .int .i64 (-2), .int .i64 5, .int .i64 7, .int .i64 0, .int .i64 2, .int .i64 0, .int .i64 0] := by rw [hW3]; exact Blk.new _ _ _
  have sW3 : W3.heap.size = w2.heap.size + 1 := by rw [hW3]; simp
  rw [← hW3]
  clear hW3
  have i3 := iW3
  replace hT := hT.carry kW3
  replace hB := bthen hB kW3
  replace i1 := i1.carry kW3
  have p0 := i3.cell (j := 0) (v := .int .i64 5) rfl
  have p1 := i3.cell (j := 1) (v := .int .i64 6) rfl
  have p2 := i3.cell (j := 2) (v := .int .i64 2) rfl
  have p3 := i3.cell (j := 3) (v := .int .i64 0) rfl
  have p4 := i3.cell (j := 4) (v := .int .i64 (-2)) rfl
  have p5 := i3.cell (j := 5) (v := .int .i64 (-2)) rfl
  have p6 := i3.cell (j := 6) (v := .int .i64 5) rfl
  have p7 := i3.cell (j := 7) (v := .int .i64 7) rfl
  have p8 := i3.cell (j := 8) (v := .int .i64 0) rfl
  have p9 := i3.cell (j := 9) (v := .int .i64 2) rfl
  have p10 := i3.cell (j := 10) (v := .int .i64 0) rfl
  have p11 := i3.cell (j := 11) (v := .int .i64 0) rfl
  clear iW3 kW3 sW3
  go_wp2_with fail
  refine (TE1.out W3).mono ?_
  rintro e w4 ⟨he, hb4⟩
  replace he : e = .returned (.tuple #[.agg #[.int .u8 177, .int .u8 5, .int .u8 0, .int .u8 6, .int .u8 0, .int .u8 2, .int .u8 0, .int .u8 0, .int .u8 255, .int .u8 254, .int .u8 255, .int .u8 254, .int .u8 0, .int .u8 121, .int .u8 28, .int .u8 10], .int .i64 0]) := he
  subst he
  replace hT := hT.carry hb4
  replace hB := bthen hB hb4
  replace i1 := i1.carry hb4
  replace i3 := i3.carry hb4
  clear p0 p1 p2 p3 p4 p5 p6 p7 p8 p9 p10 p11 hb4
  go_upto_region 4 with fail
  obtain ⟨W5, hW5⟩ : ∃ v, v = World.alloc w4 (Obj.cells #[.int .u8 177, .int .u8 5, .int .u8 0, .int .u8 6, .int .u8 0, .int .u8 2, .int .u8 0, .int .u8 0, .int .u8 255, .int .u8 254, .int .u8 255, .int .u8 254, .int .u8 0, .int .u8 121, .int .u8 28, .int .u8 10] 43) := ⟨_, rfl⟩
  have kW5 : Below w4.heap.size w4 W5 := by rw [hW5]; exact below_new _ _
  have iW5 : Blk W5 (w4.heap.size) 43 [.int .u8 177, .int .u8 5, .int .u8 0, .int .u8 6, .int .u8 0, .int .u8 2, .int .u8 0, .int .u8 0, .int .u8 255, .int .u8 254, .int .u8 255, .int .u8 254, .int .u8 0, .int .u8 121, .int .u8 28, .int .u8 10] := by rw [hW5]; exact Blk.new _ _ _
  have sW5 : W5.heap.size = w4.heap.size + 1 := by rw [hW5]; simp
  rw [← hW5]
  clear hW5
  have i5 := iW5
  replace hT := hT.carry kW5
  replace hB := bthen hB kW5
  replace i1 := i1.carry kW5
  replace i3 := i3.carry kW5
  have p0 := i3.cell (j := 0) (v := .int .i64 5) rfl
  have p1 := i3.cell (j := 1) (v := .int .i64 6) rfl
  have p2 := i3.cell (j := 2) (v := .int .i64 2) rfl
  have p3 := i3.cell (j := 3) (v := .int .i64 0) rfl
  have p4 := i3.cell (j := 4) (v := .int .i64 (-2)) rfl
  have p5 := i3.cell (j := 5) (v := .int .i64 (-2)) rfl
  have p6 := i3.cell (j := 6) (v := .int .i64 5) rfl
  have p7 := i3.cell (j := 7) (v := .int .i64 7) rfl
  have p8 := i3.cell (j := 8) (v := .int .i64 0) rfl
  have p9 := i3.cell (j := 9) (v := .int .i64 2) rfl
  have p10 := i3.cell (j := 10) (v := .int .i64 0) rfl
  have p11 := i3.cell (j := 11) (v := .int .i64 0) rfl
  clear iW5 kW5 sW5
  go_wp2_with fail
  refine (TE2.out W5).mono ?_
  rintro e w6 ⟨he, hb6⟩
  replace he : e = .returned (.tuple #[.agg #[.int .u8 177, .int .u8 5, .int .u8 0, .int .u8 7, .int .u8 0, .int .u8 0, .int .u8 0, .int .u8 2, .int .u8 0, .int .u8 0, .int .u8 0, .int .u8 0, .int .u8 0, .int .u8 16, .int .u8 33, .int .u8 220], .int .i64 0]) := he
  subst he
  replace hT := hT.carry hb6
  replace hB := bthen hB hb6
  replace i1 := i1.carry hb6
  replace i5 := i5.carry hb6
  clear p0 p1 p2 p3 p4 p5 p6 p7 p8 p9 p10 p11 hb6 i3
  go_upto_region 5 with fail
  obtain ⟨W7, hW7⟩ : ∃ v, v = World.alloc w6 (Obj.cells #[.int .u8 177, .int .u8 5, .int .u8 0, .int .u8 7, .int .u8 0, .int .u8 0, .int .u8 0, .int .u8 2, .int .u8 0, .int .u8 0, .int .u8 0, .int .u8 0, .int .u8 0, .int .u8 16, .int .u8 33, .int .u8 220] 43) := ⟨_, rfl⟩
  have kW7 : Below w6.heap.size w6 W7 := by rw [hW7]; exact below_new _ _
  have iW7 : Blk W7 (w6.heap.size) 43 [.int .u8 177, .int .u8 5, .int .u8 0, .int .u8 7, .int .u8 0, .int .u8 0, .int .u8 0, .int .u8 2, .int .u8 0, .int .u8 0, .int .u8 0, .int .u8 0, .int .u8 0, .int .u8 16, .int .u8 33, .int .u8 220] := by rw [hW7]; exact Blk.new _ _ _
  have sW7 : W7.heap.size = w6.heap.size + 1 := by rw [hW7]; simp
  rw [← hW7]
  clear hW7
  have i7 := iW7
  replace hT := hT.carry kW7
  replace hB := bthen hB kW7
  replace i1 := i1.carry kW7
  replace i5 := i5.carry kW7
  have a0 := i1.cell (j := 0) (v := .int .i64 2) rfl
  have a1 := i1.cell (j := 1) (v := .int .i64 0) rfl
  have a2 := i1.cell (j := 2) (v := .int .i64 (-2)) rfl
  have a3 := i1.cell (j := 3) (v := .int .i64 (-2)) rfl
  have a4 := i1.cell (j := 4) (v := .int .i64 0) rfl
  have a5 := i1.cell (j := 5) (v := .int .i64 2) rfl
  clear iW7 kW7 sW7
  go_wp2_with fail
  refine (TC.out W7 hT).mono ?_
  rintro e w8 ⟨he, hb8⟩
  replace he : e = .returned (.tuple #[.agg #[.int .i64 0, .int .i64 0, .int .i64 6, .int .i64 0, .int .i64 0, .int .i64 0], .int .i64 0]) := he
  subst he
  replace hB := bthen hB hb8
  replace i5 := i5.carry hb8
  replace i7 := i7.carry hb8
  clear a0 a1 a2 a3 a4 a5 hb8 i1 hT
  go_upto_region 6 with fail
  obtain ⟨W9, hW9⟩ : ∃ v, v = World.alloc w8 (Obj.cells #[.int .i64 0, .int .i64 0, .int .i64 6, .int .i64 0, .int .i64 0, .int .i64 0] 36) := ⟨_, rfl⟩
  have kW9 : Below w8.heap.size w8 W9 := by rw [hW9]; exact below_new _ _
  have iW9 : Blk W9 (w8.heap.size) 36 [.int .i64 0, .int .i64 0, .int .i64 6, .int .i64 0, .int .i64 0, .int .i64 0] := by rw [hW9]; exact Blk.new _ _ _
  have sW9 : W9.heap.size = w8.heap.size + 1 := by rw [hW9]; simp
  rw [← hW9]
  clear hW9
  replace hB := bthen hB kW9
  replace i5 := i5.carry kW9
  replace i7 := i7.carry kW9
  have s0 := i5.cell (j := 0) (v := .int .u8 177) rfl
  have s1 := i5.cell (j := 1) (v := .int .u8 5) rfl
  have s2 := i5.cell (j := 2) (v := .int .u8 0) rfl
  have s3 := i5.cell (j := 3) (v := .int .u8 6) rfl
  have s4 := i5.cell (j := 4) (v := .int .u8 0) rfl
  have s5 := i5.cell (j := 5) (v := .int .u8 2) rfl
  have s6 := i5.cell (j := 6) (v := .int .u8 0) rfl
  have s7 := i5.cell (j := 7) (v := .int .u8 0) rfl
  have s8 := i5.cell (j := 8) (v := .int .u8 255) rfl
  have s9 := i5.cell (j := 9) (v := .int .u8 254) rfl
  have s10 := i5.cell (j := 10) (v := .int .u8 255) rfl
  have s11 := i5.cell (j := 11) (v := .int .u8 254) rfl
  have r0 := i7.cell (j := 0) (v := .int .u8 177) rfl
  have r1 := i7.cell (j := 1) (v := .int .u8 5) rfl
  have r2 := i7.cell (j := 2) (v := .int .u8 0) rfl
  have r3 := i7.cell (j := 3) (v := .int .u8 7) rfl
  have r4 := i7.cell (j := 4) (v := .int .u8 0) rfl
  have r5 := i7.cell (j := 5) (v := .int .u8 0) rfl
  have r6 := i7.cell (j := 6) (v := .int .u8 0) rfl
  have r7 := i7.cell (j := 7) (v := .int .u8 2) rfl
  have r8 := i7.cell (j := 8) (v := .int .u8 0) rfl
  have r9 := i7.cell (j := 9) (v := .int .u8 0) rfl
  have r10 := i7.cell (j := 10) (v := .int .u8 0) rfl
  have r11 := i7.cell (j := 11) (v := .int .u8 0) rfl
  have z0 := iW9.cell (j := 0) (v := .int .i64 0) rfl
  have z1 := iW9.cell (j := 1) (v := .int .i64 0) rfl
  have z2 := iW9.cell (j := 2) (v := .int .i64 6) rfl
  have z3 := iW9.cell (j := 3) (v := .int .i64 0) rfl
  have z4 := iW9.cell (j := 4) (v := .int .i64 0) rfl
  have z5 := iW9.cell (j := 5) (v := .int .i64 0) rfl
  clear kW9 sW9 i5 i7 iW9
  go_wp2
  go_ret
  exact ⟨rfl, hB⟩

end Go.Proofs.YtjmdnolmaofbiaaDoor

/- The law's helpers, and its closed examples. (printed: see gen/harM2.py's text in NOTES) -/
import Derived.Test.YtfeajpkjjlddlaaGreatDoorHpL
namespace Go.Proofs.YtfeajpkjjlddlaaGreatDoor
set_option linter.unusedSimpArgs false
set_option linter.unusedVariables false
open Go.RowKit

set_option maxHeartbeats 1000000 in
theorem SameInts_any (va vb : Value) (a b : List Int) (w : World) (ha : Ints w va a) (hb : Ints w vb b) (hl : a.length ≤ 1000000000) :
    Calls Tryz.prog 27 #[va, vb] w fun e w' => e = .returned (.bool (decide (a = b))) ∧ Below w.heap.size w w' := by
  obtain ⟨xa, ca, rfl, _, hca⟩ := ha
  obtain ⟨xb, cb, rfl, _, hcb⟩ := hb
  by_cases hlen : a.length = b.length
  · have hb0 : ((a.length : Int) != (b.length : Int)) = false := by rw [bne_eq_false_iff_eq]; omega
    rw [hlen] at hb0 hl hca ⊢
    have HL := Lib.hid hlen
    clear hlen hb0
    go_enter Tryz.func27, Tryz.ntmps27
    go_wp2
    go_loopw [5] (fun i wr => ∃ k : Nat, k ≤ b.length ∧ i = .int .i64 k ∧ a.take k = b.take k ∧ Below w.heap.size w wr) (fun i _ => b.length - (intOf i).toNat)
    case atStart => exact ⟨0, by omega, rfl, rfl, Below.refl _ _⟩
    case round =>
      obtain ⟨k, hk, rfl, hab, hbr⟩ := hrel
      have HAB := Lib.hid hab
      clear hab
      by_cases hlt : k < b.length
      · obtain ⟨ba, oa, rfl, hda⟩ := hca (by omega)
        obtain ⟨bb, ob, rfl, hdb⟩ := hcb (by omega)
        have c0 := cellb (hda k hlt) hbr
        have c1 := cellb (hdb k hlt) hbr
        obtain ⟨x, hx⟩ : ∃ x, a[k]? = some x := ⟨_, List.getElem?_eq_getElem (by rw [HL.out]; exact hlt)⟩
        obtain ⟨y, hy⟩ : ∃ y, b[k]? = some y := ⟨_, List.getElem?_eq_getElem hlt⟩
        rw [hx] at c0
        rw [hy] at c1
        simp only [Option.getD_some] at c0 c1
        have HX := Lib.hid hx
        have HY := Lib.hid hy
        have e1 : (k : Int) < (b.length : Int) := by omega
        have e2 : (0 : Int) ≤ (k : Int) := by omega
        clear hda hdb hx hy hca hcb
        by_cases hxy : x = y
        · subst hxy
          go_wp2_with fail
          refine wp_region_held_drew (S := (fun w' => w'.cell? ⟨ba, oa + k, none⟩ = some (.int .i64 x) ∧ w'.cell? ⟨bb, ob + k, none⟩ = some (.int .i64 x))) (by kernel_rfl) ?_ (fun hHeld0 => ?_)
          · (try dsimp only); go_keep
          refine wpAnyH_take (i := 0) (oi := { dst := some 17, op := Op.move (Operand.tmp 0), type := 59, pos := "words.go:97", after := #[], guard := none }) (v := ?_) rfl (by kernel_rfl) (by kernel_rfl) (by kernel_rfl) (fun _ _ _ h => h) (Or.inl ⟨by rfl, ?_⟩) (by assumption) ?_
          rotate_left
          · (intro w hSw; (try dsimp only at hSw); go_simp); (try with_reducible rfl)
          try simp only [Act.put, List.setIfInBounds_toArray, List.set_cons_zero, List.set_cons_succ]
          refine wpAnyH_take (i := 1) (oi := { dst := some 18, op := Op.move (Operand.tmp 5), type := 3, pos := "words.go:97", after := #[], guard := none }) (v := ?_) rfl (by kernel_rfl) (by kernel_rfl) (by kernel_rfl) (fun _ _ _ h => h) (Or.inl ⟨by rfl, ?_⟩) (by assumption) ?_
          rotate_left
          · (intro w hSw; (try dsimp only at hSw); go_simp); (try with_reducible rfl)
          try simp only [Act.put, List.setIfInBounds_toArray, List.set_cons_zero, List.set_cons_succ]
          refine wpAnyH_take (i := 2) (oi := { dst := some 19, op := Op.indexAddr 59 (Operand.tmp 17) (Operand.tmp 18), type := 0, pos := "words.go:97", after := #[{ on := 0, ground := Ground.data }, { on := 1, ground := Ground.data }], guard := none }) (v := ?_) rfl (by kernel_rfl) (by kernel_rfl) (by kernel_rfl) (fun _ _ _ h => h) (Or.inl ⟨by rfl, ?_⟩) (by assumption) ?_
          rotate_left
          · (intro w hSw; (try dsimp only at hSw); go_simp); (try with_reducible rfl)
          try simp only [Act.put, List.setIfInBounds_toArray, List.set_cons_zero, List.set_cons_succ]
          refine wpAnyH_take (i := 3) (oi := { dst := some 20, op := Op.load 3 (Operand.tmp 19), type := 3, pos := "words.go:97", after := #[{ on := 2, ground := Ground.data }], guard := none }) (v := ?_) rfl (by kernel_rfl) (by kernel_rfl) (by kernel_rfl) (fun _ _ _ h => h) (Or.inl ⟨by rfl, ?_⟩) (by assumption) ?_
          rotate_left
          · (intro w hSw; (try dsimp only at hSw); go_simp); (try with_reducible rfl)
          try simp only [Act.put, List.setIfInBounds_toArray, List.set_cons_zero, List.set_cons_succ]
          refine wpAnyH_take (i := 4) (oi := { dst := some 21, op := Op.move (Operand.tmp 1), type := 59, pos := "words.go:97", after := #[], guard := none }) (v := ?_) rfl (by kernel_rfl) (by kernel_rfl) (by kernel_rfl) (fun _ _ _ h => h) (Or.inl ⟨by rfl, ?_⟩) (by assumption) ?_
          rotate_left
          · (intro w hSw; (try dsimp only at hSw); go_simp); (try with_reducible rfl)
          try simp only [Act.put, List.setIfInBounds_toArray, List.set_cons_zero, List.set_cons_succ]
          refine wpAnyH_take (i := 5) (oi := { dst := some 22, op := Op.move (Operand.tmp 5), type := 3, pos := "words.go:97", after := #[], guard := none }) (v := ?_) rfl (by kernel_rfl) (by kernel_rfl) (by kernel_rfl) (fun _ _ _ h => h) (Or.inl ⟨by rfl, ?_⟩) (by assumption) ?_
          rotate_left
          · (intro w hSw; (try dsimp only at hSw); go_simp); (try with_reducible rfl)
          try simp only [Act.put, List.setIfInBounds_toArray, List.set_cons_zero, List.set_cons_succ]
          refine wpAnyH_take (i := 6) (oi := { dst := some 23, op := Op.indexAddr 59 (Operand.tmp 21) (Operand.tmp 22), type := 0, pos := "words.go:97", after := #[{ on := 4, ground := Ground.data }, { on := 5, ground := Ground.data }], guard := none }) (v := ?_) rfl (by kernel_rfl) (by kernel_rfl) (by kernel_rfl) (fun _ _ _ h => h) (Or.inl ⟨by rfl, ?_⟩) (by assumption) ?_
          rotate_left
          · (intro w hSw; (try dsimp only at hSw); go_simp); (try with_reducible rfl)
          try simp only [Act.put, List.setIfInBounds_toArray, List.set_cons_zero, List.set_cons_succ]
          refine wpAnyH_take (i := 7) (oi := { dst := some 24, op := Op.load 3 (Operand.tmp 23), type := 3, pos := "words.go:97", after := #[{ on := 6, ground := Ground.data }], guard := none }) (v := ?_) rfl (by kernel_rfl) (by kernel_rfl) (by kernel_rfl) (fun _ _ _ h => h) (Or.inl ⟨by rfl, ?_⟩) (by assumption) ?_
          rotate_left
          · (intro w hSw; (try dsimp only at hSw); go_simp); (try with_reducible rfl)
          try simp only [Act.put, List.setIfInBounds_toArray, List.set_cons_zero, List.set_cons_succ]
          refine wpAnyH_take (i := 8) (oi := { dst := some 25, op := Op.binOp BinOp.neq 3 (Operand.tmp 20) (Operand.tmp 24) 3, type := 4, pos := "words.go:97", after := #[{ on := 3, ground := Ground.data }, { on := 7, ground := Ground.data }], guard := none }) (v := ?_) rfl (by kernel_rfl) (by kernel_rfl) (by kernel_rfl) (fun _ _ _ h => h) (Or.inl ⟨by rfl, ?_⟩) (by assumption) ?_
          rotate_left
          · (intro w hSw; (try dsimp only at hSw); go_simp); (try with_reducible rfl)
          try simp only [Act.put, List.setIfInBounds_toArray, List.set_cons_zero, List.set_cons_succ]
          refine wpAnyH_done (by kernel_rfl) ?_ _
          clear hHeld0
          clear c0 c1
          go_wp2
          go_roundw
          case rel => exact ⟨k + 1, by omega, by go_num, take_eq_succ HAB.out HX.out HY.out, hbr.drew⟩
          case measure => simp [intOf]; omega
        · have hq : (x != y) = true := by rw [bne_iff_ne]; exact hxy
          have hne := ne_of_get HX.out HY.out hxy
          clear hxy
          have HN := Lib.hid hne
          clear hne
          go_wp2_with fail
          refine wp_region_held_drew (S := (fun w' => w'.cell? ⟨ba, oa + k, none⟩ = some (.int .i64 x) ∧ w'.cell? ⟨bb, ob + k, none⟩ = some (.int .i64 y))) (by kernel_rfl) ?_ (fun hHeld0 => ?_)
          · (try dsimp only); go_keep
          refine wpAnyH_take (i := 0) (oi := { dst := some 17, op := Op.move (Operand.tmp 0), type := 59, pos := "words.go:97", after := #[], guard := none }) (v := ?_) rfl (by kernel_rfl) (by kernel_rfl) (by kernel_rfl) (fun _ _ _ h => h) (Or.inl ⟨by rfl, ?_⟩) (by assumption) ?_
          rotate_left
          · (intro w hSw; (try dsimp only at hSw); go_simp); (try with_reducible rfl)
          try simp only [Act.put, List.setIfInBounds_toArray, List.set_cons_zero, List.set_cons_succ]
          refine wpAnyH_take (i := 1) (oi := { dst := some 18, op := Op.move (Operand.tmp 5), type := 3, pos := "words.go:97", after := #[], guard := none }) (v := ?_) rfl (by kernel_rfl) (by kernel_rfl) (by kernel_rfl) (fun _ _ _ h => h) (Or.inl ⟨by rfl, ?_⟩) (by assumption) ?_
          rotate_left
          · (intro w hSw; (try dsimp only at hSw); go_simp); (try with_reducible rfl)
          try simp only [Act.put, List.setIfInBounds_toArray, List.set_cons_zero, List.set_cons_succ]
          refine wpAnyH_take (i := 2) (oi := { dst := some 19, op := Op.indexAddr 59 (Operand.tmp 17) (Operand.tmp 18), type := 0, pos := "words.go:97", after := #[{ on := 0, ground := Ground.data }, { on := 1, ground := Ground.data }], guard := none }) (v := ?_) rfl (by kernel_rfl) (by kernel_rfl) (by kernel_rfl) (fun _ _ _ h => h) (Or.inl ⟨by rfl, ?_⟩) (by assumption) ?_
          rotate_left
          · (intro w hSw; (try dsimp only at hSw); go_simp); (try with_reducible rfl)
          try simp only [Act.put, List.setIfInBounds_toArray, List.set_cons_zero, List.set_cons_succ]
          refine wpAnyH_take (i := 3) (oi := { dst := some 20, op := Op.load 3 (Operand.tmp 19), type := 3, pos := "words.go:97", after := #[{ on := 2, ground := Ground.data }], guard := none }) (v := ?_) rfl (by kernel_rfl) (by kernel_rfl) (by kernel_rfl) (fun _ _ _ h => h) (Or.inl ⟨by rfl, ?_⟩) (by assumption) ?_
          rotate_left
          · (intro w hSw; (try dsimp only at hSw); go_simp); (try with_reducible rfl)
          try simp only [Act.put, List.setIfInBounds_toArray, List.set_cons_zero, List.set_cons_succ]
          refine wpAnyH_take (i := 4) (oi := { dst := some 21, op := Op.move (Operand.tmp 1), type := 59, pos := "words.go:97", after := #[], guard := none }) (v := ?_) rfl (by kernel_rfl) (by kernel_rfl) (by kernel_rfl) (fun _ _ _ h => h) (Or.inl ⟨by rfl, ?_⟩) (by assumption) ?_
          rotate_left
          · (intro w hSw; (try dsimp only at hSw); go_simp); (try with_reducible rfl)
          try simp only [Act.put, List.setIfInBounds_toArray, List.set_cons_zero, List.set_cons_succ]
          refine wpAnyH_take (i := 5) (oi := { dst := some 22, op := Op.move (Operand.tmp 5), type := 3, pos := "words.go:97", after := #[], guard := none }) (v := ?_) rfl (by kernel_rfl) (by kernel_rfl) (by kernel_rfl) (fun _ _ _ h => h) (Or.inl ⟨by rfl, ?_⟩) (by assumption) ?_
          rotate_left
          · (intro w hSw; (try dsimp only at hSw); go_simp); (try with_reducible rfl)
          try simp only [Act.put, List.setIfInBounds_toArray, List.set_cons_zero, List.set_cons_succ]
          refine wpAnyH_take (i := 6) (oi := { dst := some 23, op := Op.indexAddr 59 (Operand.tmp 21) (Operand.tmp 22), type := 0, pos := "words.go:97", after := #[{ on := 4, ground := Ground.data }, { on := 5, ground := Ground.data }], guard := none }) (v := ?_) rfl (by kernel_rfl) (by kernel_rfl) (by kernel_rfl) (fun _ _ _ h => h) (Or.inl ⟨by rfl, ?_⟩) (by assumption) ?_
          rotate_left
          · (intro w hSw; (try dsimp only at hSw); go_simp); (try with_reducible rfl)
          try simp only [Act.put, List.setIfInBounds_toArray, List.set_cons_zero, List.set_cons_succ]
          refine wpAnyH_take (i := 7) (oi := { dst := some 24, op := Op.load 3 (Operand.tmp 23), type := 3, pos := "words.go:97", after := #[{ on := 6, ground := Ground.data }], guard := none }) (v := ?_) rfl (by kernel_rfl) (by kernel_rfl) (by kernel_rfl) (fun _ _ _ h => h) (Or.inl ⟨by rfl, ?_⟩) (by assumption) ?_
          rotate_left
          · (intro w hSw; (try dsimp only at hSw); go_simp); (try with_reducible rfl)
          try simp only [Act.put, List.setIfInBounds_toArray, List.set_cons_zero, List.set_cons_succ]
          refine wpAnyH_take (i := 8) (oi := { dst := some 25, op := Op.binOp BinOp.neq 3 (Operand.tmp 20) (Operand.tmp 24) 3, type := 4, pos := "words.go:97", after := #[{ on := 3, ground := Ground.data }, { on := 7, ground := Ground.data }], guard := none }) (v := ?_) rfl (by kernel_rfl) (by kernel_rfl) (by kernel_rfl) (fun _ _ _ h => h) (Or.inl ⟨by rfl, ?_⟩) (by assumption) ?_
          rotate_left
          · (intro w hSw; (try dsimp only at hSw); go_simp); (try with_reducible rfl)
          try simp only [Act.put, List.setIfInBounds_toArray, List.set_cons_zero, List.set_cons_succ]
          refine wpAnyH_done (by kernel_rfl) ?_ _
          clear hHeld0
          clear c0 c1
          go_wp2
          go_ret
          exact ⟨ret_bool (by simp [HN.out]), hbr.drew⟩
      · obtain rfl : k = b.length := by omega
        have h := HAB.out
        rw [← HL.out, List.take_length, HL.out, List.take_length] at h
        have H := Lib.hid h
        clear h hca hcb
        go_wp2
        go_ret
        exact ⟨ret_bool (by rw [H.out]; simp), hbr⟩
  · have hb0 : ((a.length : Int) != (b.length : Int)) = true := by rw [bne_iff_ne]; omega
    have HN := Lib.hid (show a ≠ b by rintro rfl; exact hlen rfl)
    clear hlen hca hcb
    go_enter Tryz.func27, Tryz.ntmps27
    go_wp2
    go_ret
    exact ⟨ret_bool (by simp [HN.out]), Below.refl _ _⟩


/-- arrays of integers are compared for difference. -/
theorem neqInts (T : TypeId) (n : Nat) (hT : Tryz.prog.underlying T = some (.array n 3)) (l m : List Int) (hl : l.length = n) (hm : m.length = n) (w : World) :
    Sem.run Tryz.prog (binOp .neq T (.agg (ia l)) (.agg (ia m))) w = .ok (.bool (!(l == m))) w := by
  obtain ⟨i0, hi, hz0, hz1, hz2⟩ := info_parts Tryz.infoInt
  have hc : Tryz.prog.cellsOf 3 = 1 := by kernel_rfl
  rw [run_neq_struct, run_equalIn_array w 9999 (t := T) (e := 3) (n := n) _ _ hT hi, hc, eqItemsI l m w _ (fun i hi => by rw [hl, hm]; exact ⟨List.mem_range.1 hi, List.mem_range.1 hi⟩), allRange_eq l m n hl hm]
  rfl
def lowL : List Int := [0, 1, 1, 1, 1, 0, 0, -1, -1, -1, -1, 0]
def squL : List Int := [1, 1, 1, 1, 1, 1, -1, -1, -1, -1, -1, -1]
def pairL : List (Int × Int) := [(1, 9), (1, 36)]
def boxL : List (Int × Int) := [(0, -1), (2, -1), (2, 0), (0, 0)]
def sevL (n : Int) : List Int := [n, n, n, n, n, n, n]
theorem Tryz.loadVar7 {l : List Int} (hl : l.length = 7) {w : World} {B : Nat} (h : BlkI w B 63 l) : Sem.run Tryz.prog (loadVar 63 ⟨B, 0, none⟩) w = .ok (.agg (ia l)) w :=
  run_loadVar_row w B 63 63 (ia l) (0, 0) _ h Tryz.undA7 rfl (by rw [Tryz.infoA7, ia_size, hl])


set_option maxRecDepth 100000 in
set_option maxHeartbeats 1000000 in
theorem low_any (w : World) : Calls Tryz.prog 21 #[] w fun e w' => e = .returned (.agg (ia lowL)) ∧ Below w.heap.size w w' := by
  go_enter Tryz.func21, Tryz.ntmps21
  go_wp2_with (refine wpList_storeA rfl _ _ _ rfl w.heap.size lowL (List.replicate 12 0) rfl rfl (BlkI.new w 30 (List.replicate 12 0)) rfl Tryz.infoA12 ?_)
  obtain ⟨W1, hW1⟩ : ∃ v, v = World.setRow (World.alloc w (Obj.cells #[.int .i64 0, .int .i64 0, .int .i64 0, .int .i64 0, .int .i64 0, .int .i64 0, .int .i64 0, .int .i64 0, .int .i64 0, .int .i64 0, .int .i64 0, .int .i64 0] 30)) w.heap.size (ia (lowL)) := ⟨_, rfl⟩
  have kW1 : Below w.heap.size w W1 := by rw [hW1]; exact zrow_below _ _ _ _
  have iW1 : BlkI W1 w.heap.size 30 (lowL) := by rw [hW1]; exact zrow_blk w _ (List.replicate 12 0) _
  rw [← hW1]
  clear hW1
  have hld := Tryz.loadVar12 (l := lowL) rfl iW1
  exact bodyPost_ret (v := .agg (ia lowL)) (results_cellA (p := 0) rfl _ _ w.heap.size _ rfl hld) rfl ⟨rfl, kW1⟩


set_option maxRecDepth 100000 in
set_option maxHeartbeats 1000000 in
theorem square_any (w : World) : Calls Tryz.prog 25 #[] w fun e w' => e = .returned (.agg (ia squL)) ∧ Below w.heap.size w w' := by
  go_enter Tryz.func25, Tryz.ntmps25
  go_wp2_with (refine wpList_storeA rfl _ _ _ rfl w.heap.size squL (List.replicate 12 0) rfl rfl (BlkI.new w 30 (List.replicate 12 0)) rfl Tryz.infoA12 ?_)
  obtain ⟨W1, hW1⟩ : ∃ v, v = World.setRow (World.alloc w (Obj.cells #[.int .i64 0, .int .i64 0, .int .i64 0, .int .i64 0, .int .i64 0, .int .i64 0, .int .i64 0, .int .i64 0, .int .i64 0, .int .i64 0, .int .i64 0, .int .i64 0] 30)) w.heap.size (ia (squL)) := ⟨_, rfl⟩
  have kW1 : Below w.heap.size w W1 := by rw [hW1]; exact zrow_below _ _ _ _
  have iW1 : BlkI W1 w.heap.size 30 (squL) := by rw [hW1]; exact zrow_blk w _ (List.replicate 12 0) _
  rw [← hW1]
  clear hW1
  have hld := Tryz.loadVar12 (l := squL) rfl iW1
  exact bodyPost_ret (v := .agg (ia squL)) (results_cellA (p := 0) rfl _ _ w.heap.size _ rfl hld) rfl ⟨rfl, kW1⟩


set_option maxRecDepth 100000 in
set_option maxHeartbeats 1000000 in
theorem same_any (n : Int) (w : World) : Calls Tryz.prog 24 #[.int .i64 n] w fun e w' => e = .returned (.agg (ia (sevL n))) ∧ Below w.heap.size w w' := by
  go_enter Tryz.func24, Tryz.ntmps24
  go_wp2_with (refine wpList_storeA rfl _ _ _ rfl w.heap.size (sevL n) (List.replicate 7 0) rfl rfl (BlkI.new w 63 (List.replicate 7 0)) rfl Tryz.infoA7 ?_)
  obtain ⟨W1, hW1⟩ : ∃ v, v = World.setRow (World.alloc w (Obj.cells #[.int .i64 0, .int .i64 0, .int .i64 0, .int .i64 0, .int .i64 0, .int .i64 0, .int .i64 0] 63)) w.heap.size (ia (sevL n)) := ⟨_, rfl⟩
  have kW1 : Below w.heap.size w W1 := by rw [hW1]; exact zrow_below _ _ _ _
  have iW1 : BlkI W1 w.heap.size 63 (sevL n) := by rw [hW1]; exact zrow_blk w _ (List.replicate 7 0) _
  rw [← hW1]
  clear hW1
  have hld := Tryz.loadVar7 (l := sevL n) rfl iW1
  exact bodyPost_ret (v := .agg (ia (sevL n))) (results_cellA (p := 2) rfl _ _ w.heap.size _ rfl hld) rfl ⟨rfl, kW1⟩
set_option maxRecDepth 100000 in
set_option maxHeartbeats 1000000 in
theorem pair_any (w : World) : Calls Tryz.prog 29 #[] w fun e w' => (∃ u, e = .returned (.agg #[u]) ∧ Pairs w' u pairL) ∧ Below w.heap.size w w' := by
  go_enter Tryz.func29, Tryz.ntmps29
  go_upto_region 1 with fail
  obtain ⟨W1, hW1⟩ : ∃ v, v = World.alloc w (Obj.cells #[.slice none 0 0] 75) := ⟨_, rfl⟩
  have kW1 : Below w.heap.size w W1 := by rw [hW1]; exact below_new _ _
  have iW1 : Blk W1 (w.heap.size) 75 [.slice none 0 0] := by rw [hW1]; exact Blk.new _ _ _
  have sW1 : W1.heap.size = w.heap.size + 1 := by rw [hW1]; simp
  rw [← hW1]
  clear hW1
  have c0 := iW1.cell (j := 0) (v := .slice none 0 0) rfl
  have f0 := iW1.frozen 0
  go_wp2_with fail
  clear c0 f0
  obtain ⟨W2, hW2⟩ : ∃ W, W = W1.setCell ⟨w.heap.size, 0, none⟩ (.slice (some ⟨w.heap.size + 1, 0, none⟩) 2 2) := ⟨_, rfl⟩
  have i9 : Blk W2 w.heap.size 75 [.slice (some ⟨w.heap.size + 1, 0, none⟩) 2 2] := by rw [hW2]; exact iW1.set 0 (.slice (some ⟨w.heap.size + 1, 0, none⟩) 2 2)
  have k2 : Below w.heap.size w W2 := by rw [hW2]; exact kW1.setCell (by simp) _
  have s2 : W2.heap.size = w.heap.size + 1 := by rw [hW2, ← sW1]; simp
  rw [← hW2]
  obtain ⟨W3, hW3⟩ : ∃ W, W = W2.alloc (.cells #[.int .i64 1, .int .i64 9, .int .i64 1, .int .i64 36] 129) := ⟨_, rfl⟩
  have k3 : Below W2.heap.size W2 W3 := by rw [hW3]; exact below_new _ _
  have i3 : BlkI W3 (w.heap.size + 1) 129 (flat2 pairL) := by rw [hW3, ← s2]; exact BlkI.new W2 129 (flat2 pairL)
  rw [← hW3]
  have z0 := (i9.carry k3).cell (j := 0) (v := .slice (some ⟨w.heap.size + 1, 0, none⟩) 2 2) rfl
  have hP : Pairs W3 (.slice (some ⟨w.heap.size + 1, 0, none⟩) 2 2) pairL := Pairs.of_blk (ls := pairL) (cap := 2) i3 (by decide)
  exact bodyPost_ret (v := .agg #[.slice (some ⟨w.heap.size + 1, 0, none⟩) 2 2]) (by simp [results, Tryz.f29, go_sem, z0]) rfl ⟨⟨_, rfl, hP⟩, bthen k2 k3⟩
set_option maxRecDepth 100000 in
set_option maxHeartbeats 1000000 in
theorem box_any (w : World) : Calls Tryz.prog 32 #[] w fun e w' => (∃ u, e = .returned u ∧ Pairs w' u boxL) ∧ Below w.heap.size w w' := by
  go_enter Tryz.func32, Tryz.ntmps32
  go_wp2_with fail
  obtain ⟨W1, hW1⟩ : ∃ v, v = World.alloc w (Obj.cells #[.int .i64 0, .int .i64 (-1), .int .i64 2, .int .i64 (-1), .int .i64 2, .int .i64 0, .int .i64 0, .int .i64 0] 86) := ⟨_, rfl⟩
  have kW1 : Below w.heap.size w W1 := by rw [hW1]; exact below_new _ _
  have iW1 : Blk W1 (w.heap.size) 86 [.int .i64 0, .int .i64 (-1), .int .i64 2, .int .i64 (-1), .int .i64 2, .int .i64 0, .int .i64 0, .int .i64 0] := by rw [hW1]; exact Blk.new _ _ _
  have sW1 : W1.heap.size = w.heap.size + 1 := by rw [hW1]; simp
  rw [← hW1]
  clear hW1
  have hP : Pairs W1 (.slice (some ⟨w.heap.size, 0, none⟩) 4 4) boxL := Pairs.of_blk (ls := boxL) (cap := 4) iW1 (by decide)
  go_ret
  exact ⟨⟨_, rfl, hP⟩, kW1⟩
end Go.Proofs.YtfeajpkjjlddlaaGreatDoor

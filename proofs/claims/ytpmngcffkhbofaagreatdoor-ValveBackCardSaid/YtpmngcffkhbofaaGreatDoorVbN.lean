/- The law's third log; lists compared. -/
import Derived.Test.YtpmngcffkhbofaaGreatDoorVbM
namespace Go.Proofs.YtpmngcffkhbofaaGreatDoor
set_option linter.unusedSimpArgs false
set_option linter.unusedVariables false
open Go.RowKit
set_option maxRecDepth 100000 in
set_option maxHeartbeats 2000000 in
theorem three_any (w : World) :
 Calls Tryz.prog 27 #[] w fun r w' => (∃ a n cap, r = .returned (.agg #[.int .i64 2, .slice a n cap]) ∧ Prs w' (.slice a n cap) [((2 : Int), (1 : Int)), ((4 : Int), (5 : Int))]) ∧ Below w.heap.size w w' := by
 go_enter Tryz.func27, Tryz.ntmps27
 go_upto_region 1 with fail
 obtain ⟨W1, hW1⟩ : ∃ v, v = World.alloc w (Obj.cells #[.int .i64 0, .slice none 0 0] 32) := ⟨_, rfl⟩
 have kW1 : Below w.heap.size w W1 := by rw [hW1]; exact below_new _ _
 have iW1 : Blk W1 (w.heap.size) 32 [.int .i64 0, .slice none 0 0] := by rw [hW1]; exact Blk.new _ _ _
 have sW1 : W1.heap.size = w.heap.size + 1 := by rw [hW1]; simp
 rw [← hW1]
 clear hW1
 have k2 := below_new W1 (.cells #[.int .i64 2, .int .i64 1, .int .i64 4, .int .i64 5] 104)
 have iP : Blk (W1.alloc (.cells #[.int .i64 2, .int .i64 1, .int .i64 4, .int .i64 5] 104)) W1.heap.size 104 ([((2 : Int), (1 : Int)), ((4 : Int), (5 : Int))].flatMap pV) := Blk.new W1 104 [.int .i64 2, .int .i64 1, .int .i64 4, .int .i64 5]
 have i3 := iW1.carry k2
 have hB3 := bthen kW1 k2
 have hne : W1.heap.size ≠ w.heap.size := by omega
 have f0 := i3.frozen 0
 have f1 := i3.frozen 1
 have g0 := i3.cell (j := 0) (v := .int .i64 0) rfl
 have g1 := i3.cell (j := 1) (v := .slice none 0 0) rfl
 have i4 := (i3.set 0 (.int .i64 2)).set 1 (.slice (some ⟨W1.heap.size, 0, none⟩) 2 2)
 have hB4 := below_setC (below_setC hB3 w.heap.size 0 (Nat.le_refl _) (.int .i64 2)) w.heap.size 1 (Nat.le_refl _) (.slice (some ⟨W1.heap.size, 0, none⟩) 2 2)
 have iP4 := (iP.other (j := 0) hne (.int .i64 2)).other (j := 1) hne (.slice (some ⟨W1.heap.size, 0, none⟩) 2 2)
 have HP := Lib.hid (Rw.of_blk (l := [((2 : Int), (1 : Int)), ((4 : Int), (5 : Int))]) pV_len iP4 2 2 rfl (Nat.le_refl _))
 have HZ0 := Lib.hid (i4.cell (j := 0) (v := .int .i64 2) rfl)
 have HZ1 := Lib.hid (i4.cell (j := 1) (v := .slice (some ⟨W1.heap.size, 0, none⟩) 2 2) rfl)
 have HBB := Lib.hid hB4
 clear i4 hB4 iP4 iP iW1 sW1 kW1 hB3 k2 hne
 go_wp2
 have z0 := HZ0.out
 have z1 := HZ1.out
 exact bodyPost_ret (v := .agg #[.int .i64 2, .slice (some ⟨W1.heap.size, 0, none⟩) 2 2]) (by simp [results, Tryz.f27, go_sem, z0, z1]) rfl ⟨⟨_, _, _, rfl, HP.out⟩, HBB.out⟩
theorem take_eq_succ {α : Type} {a b : List α} {k : Nat} {x : α} (h : a.take k = b.take k) (ha : a[k]? = some x) (hb : b[k]? = some x) : a.take (k + 1) = b.take (k + 1) := by
 rw [List.take_add_one, List.take_add_one, h, ha, hb]
theorem ne_of_get {α : Type} {a b : List α} {k : Nat} {x y : α} (ha : a[k]? = some x) (hb : b[k]? = some y) (h : x ≠ y) : a ≠ b := by
 rintro rfl; rw [ha] at hb; exact h (Option.some.inj hb)
set_option maxHeartbeats 1000000 in
theorem SameInts_any (va vb : Value) (a b : List Int) (w : World) (ha : Ints w va a) (hb : Ints w vb b) (hl : a.length ≤ 1000000000) :
 Calls Tryz.prog 29 #[va, vb] w fun e w' => e = .returned (.bool (decide (a = b))) ∧ Below w.heap.size w w' := by
 obtain ⟨xa, ca, rfl, _, hca⟩ := ha
 obtain ⟨xb, cb, rfl, _, hcb⟩ := hb
 by_cases hlen : a.length = b.length
 ·have hb0 : ((a.length : Int) != (b.length : Int)) = false := by rw [bne_eq_false_iff_eq]; omega
  rw [hlen] at hb0 hl hca ⊢
  have HL := Lib.hid hlen
  clear hlen hb0
  go_enter Tryz.func29, Tryz.ntmps29
  go_wp2
  go_loopw [5] (fun i wr => ∃ k : Nat, k ≤ b.length ∧ i = .int .i64 k ∧ a.take k = b.take k ∧ Below w.heap.size w wr) (fun i _ => b.length - (intOf i).toNat)
  case atStart => exact ⟨0, by omega, rfl, rfl, Below.refl _ _⟩
  case round =>
   obtain ⟨k, hk, rfl, hab, hbr⟩ := hrel
   have HAB := Lib.hid hab
   clear hab
   by_cases hlt : k < b.length
   ·obtain ⟨ba, oa, rfl, hda⟩ := hca (by omega)
    obtain ⟨bb, ob, rfl, hdb⟩ := hcb (by omega)
    have c0 := cellb (hda k hlt) hbr
    have c1 := cellb (hdb k hlt) hbr
    obtain ⟨x, hx⟩ : ∃ x, a[k]? = some x := ⟨_, List.getElem?_eq_getElem (by rw [HL.out]; exact hlt)⟩
    obtain ⟨y, hy⟩ : ∃ y, b[k]? = some y := ⟨_, List.getElem?_eq_getElem hlt⟩
    rw [hx] at c0
    rw [hy] at c1
    simp only [Option.getD_some] at c0 c1
    have HX := Lib.hid hx
    have HY := Lib.hid hy
    have e1 : (k : Int) < (b.length : Int) := by omega
    have e2 : (0 : Int) ≤ (k : Int) := by omega
    clear hda hdb hx hy hca hcb
    by_cases hxy : x = y
    ·subst hxy
     go_wp2_with fail
     refine wp_region_held_drew (S := (fun w' => w'.cell? ⟨ba, oa + k, none⟩ = some (.int .i64 x) ∧ w'.cell? ⟨bb, ob + k, none⟩ = some (.int .i64 x))) (by kernel_rfl) ?_ (fun hHeld0 => ?_)
     ·(try dsimp only); go_keep
     refine zH 0 ⟨some 17, .move (.tmp 0), 63, "words.go:97", #[], none⟩ rfl ?_
     simp only [Act.put, zS]
     refine zH 1 ⟨some 18, .move (.tmp 5), 3, "words.go:97", #[], none⟩ rfl ?_
     simp only [Act.put, zS]
     refine zH 2 ⟨some 19, .indexAddr 63 (.tmp 17) (.tmp 18), 0, "words.go:97", #[⟨0, .data⟩, ⟨1, .data⟩], none⟩ rfl ?_
     simp only [Act.put, zS]
     refine zH 3 ⟨some 20, .load 3 (.tmp 19), 3, "words.go:97", #[⟨2, .data⟩], none⟩ rfl ?_
     simp only [Act.put, zS]
     refine zH 4 ⟨some 21, .move (.tmp 1), 63, "words.go:97", #[], none⟩ rfl ?_
     simp only [Act.put, zS]
     refine zH 5 ⟨some 22, .move (.tmp 5), 3, "words.go:97", #[], none⟩ rfl ?_
     simp only [Act.put, zS]
     refine zH 6 ⟨some 23, .indexAddr 63 (.tmp 21) (.tmp 22), 0, "words.go:97", #[⟨4, .data⟩, ⟨5, .data⟩], none⟩ rfl ?_
     simp only [Act.put, zS]
     refine zH 7 ⟨some 24, .load 3 (.tmp 23), 3, "words.go:97", #[⟨6, .data⟩], none⟩ rfl ?_
     simp only [Act.put, zS]
     refine zH 8 ⟨some 25, .binOp .neq 3 (.tmp 20) (.tmp 24) 3, 4, "words.go:97", #[⟨3, .data⟩, ⟨7, .data⟩], none⟩ rfl ?_
     simp only [Act.put, zS]
     refine wpAnyH_done (by kernel_rfl) ?_ _
     clear hHeld0
     clear c0 c1
     go_wp2
     go_roundw
     case rel => exact ⟨k + 1, by omega, by go_num, take_eq_succ HAB.out HX.out HY.out, hbr.drew⟩
     case measure => simp [intOf]; omega
    ·have hq : (x != y) = true := by rw [bne_iff_ne]; exact hxy
     have hne := ne_of_get HX.out HY.out hxy
     clear hxy
     have HN := Lib.hid hne
     clear hne
     go_wp2_with fail
     refine wp_region_held_drew (S := (fun w' => w'.cell? ⟨ba, oa + k, none⟩ = some (.int .i64 x) ∧ w'.cell? ⟨bb, ob + k, none⟩ = some (.int .i64 y))) (by kernel_rfl) ?_ (fun hHeld0 => ?_)
     ·(try dsimp only); go_keep
     refine zH 0 ⟨some 17, .move (.tmp 0), 63, "words.go:97", #[], none⟩ rfl ?_
     simp only [Act.put, zS]
     refine zH 1 ⟨some 18, .move (.tmp 5), 3, "words.go:97", #[], none⟩ rfl ?_
     simp only [Act.put, zS]
     refine zH 2 ⟨some 19, .indexAddr 63 (.tmp 17) (.tmp 18), 0, "words.go:97", #[⟨0, .data⟩, ⟨1, .data⟩], none⟩ rfl ?_
     simp only [Act.put, zS]
     refine zH 3 ⟨some 20, .load 3 (.tmp 19), 3, "words.go:97", #[⟨2, .data⟩], none⟩ rfl ?_
     simp only [Act.put, zS]
     refine zH 4 ⟨some 21, .move (.tmp 1), 63, "words.go:97", #[], none⟩ rfl ?_
     simp only [Act.put, zS]
     refine zH 5 ⟨some 22, .move (.tmp 5), 3, "words.go:97", #[], none⟩ rfl ?_
     simp only [Act.put, zS]
     refine zH 6 ⟨some 23, .indexAddr 63 (.tmp 21) (.tmp 22), 0, "words.go:97", #[⟨4, .data⟩, ⟨5, .data⟩], none⟩ rfl ?_
     simp only [Act.put, zS]
     refine zH 7 ⟨some 24, .load 3 (.tmp 23), 3, "words.go:97", #[⟨6, .data⟩], none⟩ rfl ?_
     simp only [Act.put, zS]
     refine zH 8 ⟨some 25, .binOp .neq 3 (.tmp 20) (.tmp 24) 3, 4, "words.go:97", #[⟨3, .data⟩, ⟨7, .data⟩], none⟩ rfl ?_
     simp only [Act.put, zS]
     refine wpAnyH_done (by kernel_rfl) ?_ _
     clear hHeld0
     clear c0 c1
     go_wp2
     go_ret
     exact ⟨ret_bool (by simp [HN.out]), hbr.drew⟩
   ·obtain rfl : k = b.length := by omega
    have h := HAB.out
    rw [← HL.out, List.take_length, HL.out, List.take_length] at h
    have H := Lib.hid h
    clear h hca hcb
    go_wp2
    go_ret
    exact ⟨ret_bool (by rw [H.out]; simp), hbr⟩
 ·have hb0 : ((a.length : Int) != (b.length : Int)) = true := by rw [bne_iff_ne]; omega
  have HN := Lib.hid (show a ≠ b by rintro rfl; exact hlen rfl)
  clear hlen hca hcb
  go_enter Tryz.func29, Tryz.ntmps29
  go_wp2
  go_ret
  exact ⟨ret_bool (by simp [HN.out]), Below.refl _ _⟩
theorem eqPr_run (a b c d : Int) (w : World) : (Op.equalIn 10000 47 (.agg #[.int .i64 a, .int .i64 b]) (.agg #[.int .i64 c, .int .i64 d])).run Tryz.prog w = .ok (a == c && b == d) w := by
 by_cases h1 : a = c
 ·subst h1
  by_cases h2 : b = d
  ·subst h2; go_simp
  ·have : (b == d) = false := by simpa using h2
   go_simp
 ·have : (a == c) = false := by simpa using h1
  go_simp
theorem neqPr (a b c d : Int) (w : World) : Sem.run Tryz.prog (binOp .neq 47 (.agg #[.int .i64 a, .int .i64 b]) (.agg #[.int .i64 c, .int .i64 d])) w = .ok (.bool ((a, b) != (c, d))) w := by
 rw [run_neq_struct, eqPr_run]
 rfl
set_option maxRecDepth 100000 in
set_option maxHeartbeats 2000000 in
theorem SameTrain_any (va vb : Value) (a b : List P2) (w : World) (ha : Prs w va a) (hb : Prs w vb b) (hl : a.length ≤ 1000000000) :
 Calls Tryz.prog 15 #[va, vb] w fun e w' => e = .returned (.bool (decide (a = b))) ∧ Below w.heap.size w w' := by
 obtain ⟨xa, ca, rfl, _, hca⟩ := ha
 obtain ⟨xb, cb, rfl, _, hcb⟩ := hb
 by_cases hlen : a.length = b.length
 ·have hb0 : ((a.length : Int) != (b.length : Int)) = false := by rw [bne_eq_false_iff_eq]; omega
  rw [hlen] at hb0 hl hca ⊢
  have HL := Lib.hid hlen
  clear hlen hb0
  go_enter Tryz.func15, Tryz.ntmps15
  go_wp2
  go_loopw [5] (fun i wr => ∃ k : Nat, k ≤ b.length ∧ i = .int .i64 k ∧ a.take k = b.take k ∧ Below w.heap.size w wr) (fun i _ => b.length - (intOf i).toNat)
  case atStart => exact ⟨0, by omega, rfl, rfl, Below.refl _ _⟩
  case round =>
   obtain ⟨k, hk, rfl, hab, hbr⟩ := hrel
   have HAB := Lib.hid hab
   clear hab
   by_cases hlt : k < b.length
   ·obtain ⟨ba, oa, rfl, hda⟩ := hca (by omega)
    obtain ⟨bb, ob, rfl, hdb⟩ := hcb (by omega)
    obtain ⟨x, hx⟩ : ∃ x, a[k]? = some x := ⟨_, List.getElem?_eq_getElem (by rw [HL.out]; exact hlt)⟩
    obtain ⟨y, hy⟩ : ∃ y, b[k]? = some y := ⟨_, List.getElem?_eq_getElem hlt⟩
    obtain ⟨c0, c1⟩ := rw2 (hda k x hx) (show pV x = [.int .i64 x.1, .int .i64 x.2] from rfl)
    obtain ⟨c2, c3⟩ := rw2 (hdb k y hy) (show pV y = [.int .i64 y.1, .int .i64 y.2] from rfl)
    have c0 := cellb c0 hbr
    have c1 := cellb c1 hbr
    have c2 := cellb c2 hbr
    have c3 := cellb c3 hbr
    have HX := Lib.hid hx
    have HY := Lib.hid hy
    have e1 : (k : Int) < (b.length : Int) := by omega
    have e2 : (0 : Int) ≤ (k : Int) := by omega
    obtain ⟨x0, x1⟩ := x
    obtain ⟨y0, y1⟩ := y
    dsimp only at c0 c1 c2 c3
    have nq := fun W => neqPr x0 x1 y0 y1 W
    clear hda hdb hx hy hca hcb
    by_cases hxy : (x0, x1) = (y0, y1)
    ·have hq : ((x0, x1) != (y0, y1)) = false := by rw [bne_eq_false_iff_eq]; exact hxy
     have HXY := Lib.hid hxy
     rw [hq] at nq
     clear hxy hq
     go_upto_region 6 with fail
     refine wp_region_held_drew (S := (fun w' => w'.cell? ⟨ba, oa + k * 2, none⟩ = some (.int .i64 x0) ∧ w'.cell? ⟨ba, oa + k * 2 + 1, none⟩ = some (.int .i64 x1) ∧ w'.cell? ⟨bb, ob + k * 2, none⟩ = some (.int .i64 y0) ∧ w'.cell? ⟨bb, ob + k * 2 + 1, none⟩ = some (.int .i64 y1))) (by kernel_rfl) ?_ (fun hHeld0 => ?_)
     ·(try dsimp only); go_keep
     refine zH 0 ⟨some 17, .move (.tmp 0), 22, "ref.go:709", #[], none⟩ rfl ?_
     simp only [Act.put, zS]
     refine zH 1 ⟨some 18, .move (.tmp 5), 3, "ref.go:709", #[], none⟩ rfl ?_
     simp only [Act.put, zS]
     refine zH 2 ⟨some 19, .indexAddr 22 (.tmp 17) (.tmp 18), 0, "ref.go:709", #[⟨0, .data⟩, ⟨1, .data⟩], none⟩ rfl ?_
     simp only [Act.put, zS]
     refine zH 3 ⟨some 20, .load 47 (.tmp 19), 47, "ref.go:709", #[⟨2, .data⟩], none⟩ rfl ?_
     simp only [Act.put, zS]
     refine zH 4 ⟨some 21, .move (.tmp 1), 22, "ref.go:709", #[], none⟩ rfl ?_
     simp only [Act.put, zS]
     refine zH 5 ⟨some 22, .move (.tmp 5), 3, "ref.go:709", #[], none⟩ rfl ?_
     simp only [Act.put, zS]
     refine zH 6 ⟨some 23, .indexAddr 22 (.tmp 21) (.tmp 22), 0, "ref.go:709", #[⟨4, .data⟩, ⟨5, .data⟩], none⟩ rfl ?_
     simp only [Act.put, zS]
     refine zH 7 ⟨some 24, .load 47 (.tmp 23), 47, "ref.go:709", #[⟨6, .data⟩], none⟩ rfl ?_
     simp only [Act.put, zS]
     refine zH 8 ⟨some 25, .binOp .neq 47 (.tmp 20) (.tmp 24) 47, 4, "ref.go:709", #[⟨3, .data⟩, ⟨7, .data⟩], none⟩ rfl ?_
     simp only [Act.put, zS]
     refine wpAnyH_done (by kernel_rfl) ?_ _
     clear hHeld0
     clear nq
     go_wp2
     go_roundw
     case rel => exact ⟨k + 1, by omega, by go_num, take_eq_succ HAB.out HX.out (by rw [HXY.out]; exact HY.out), hbr.drew⟩
     case measure => simp [intOf]; omega
    ·have hq : ((x0, x1) != (y0, y1)) = true := by rw [bne_iff_ne]; exact hxy
     have hne := ne_of_get HX.out HY.out hxy
     rw [hq] at nq
     clear hxy hq
     have HN := Lib.hid hne
     clear hne
     go_upto_region 6 with fail
     refine wp_region_held_drew (S := (fun w' => w'.cell? ⟨ba, oa + k * 2, none⟩ = some (.int .i64 x0) ∧ w'.cell? ⟨ba, oa + k * 2 + 1, none⟩ = some (.int .i64 x1) ∧ w'.cell? ⟨bb, ob + k * 2, none⟩ = some (.int .i64 y0) ∧ w'.cell? ⟨bb, ob + k * 2 + 1, none⟩ = some (.int .i64 y1))) (by kernel_rfl) ?_ (fun hHeld0 => ?_)
     ·(try dsimp only); go_keep
     refine zH 0 ⟨some 17, .move (.tmp 0), 22, "ref.go:709", #[], none⟩ rfl ?_
     simp only [Act.put, zS]
     refine zH 1 ⟨some 18, .move (.tmp 5), 3, "ref.go:709", #[], none⟩ rfl ?_
     simp only [Act.put, zS]
     refine zH 2 ⟨some 19, .indexAddr 22 (.tmp 17) (.tmp 18), 0, "ref.go:709", #[⟨0, .data⟩, ⟨1, .data⟩], none⟩ rfl ?_
     simp only [Act.put, zS]
     refine zH 3 ⟨some 20, .load 47 (.tmp 19), 47, "ref.go:709", #[⟨2, .data⟩], none⟩ rfl ?_
     simp only [Act.put, zS]
     refine zH 4 ⟨some 21, .move (.tmp 1), 22, "ref.go:709", #[], none⟩ rfl ?_
     simp only [Act.put, zS]
     refine zH 5 ⟨some 22, .move (.tmp 5), 3, "ref.go:709", #[], none⟩ rfl ?_
     simp only [Act.put, zS]
     refine zH 6 ⟨some 23, .indexAddr 22 (.tmp 21) (.tmp 22), 0, "ref.go:709", #[⟨4, .data⟩, ⟨5, .data⟩], none⟩ rfl ?_
     simp only [Act.put, zS]
     refine zH 7 ⟨some 24, .load 47 (.tmp 23), 47, "ref.go:709", #[⟨6, .data⟩], none⟩ rfl ?_
     simp only [Act.put, zS]
     refine zH 8 ⟨some 25, .binOp .neq 47 (.tmp 20) (.tmp 24) 47, 4, "ref.go:709", #[⟨3, .data⟩, ⟨7, .data⟩], none⟩ rfl ?_
     simp only [Act.put, zS]
     refine wpAnyH_done (by kernel_rfl) ?_ _
     clear hHeld0
     clear nq
     go_wp2
     go_ret
     exact ⟨ret_bool (by simp [HN.out]), hbr.drew⟩
   ·obtain rfl : k = b.length := by omega
    have h := HAB.out
    rw [← HL.out, List.take_length, HL.out, List.take_length] at h
    have H := Lib.hid h
    clear h hca hcb
    go_wp2
    go_ret
    exact ⟨ret_bool (by rw [H.out]; simp), hbr⟩
 ·have hb0 : ((a.length : Int) != (b.length : Int)) = true := by rw [bne_iff_ne]; omega
  have HN := Lib.hid (show a ≠ b by rintro rfl; exact hlen rfl)
  clear hlen hca hcb
  go_enter Tryz.func15, Tryz.ntmps15
  go_wp2
  go_ret
  exact ⟨ret_bool (by simp [HN.out]), Below.refl _ _⟩
end Go.Proofs.YtpmngcffkhbofaaGreatDoor

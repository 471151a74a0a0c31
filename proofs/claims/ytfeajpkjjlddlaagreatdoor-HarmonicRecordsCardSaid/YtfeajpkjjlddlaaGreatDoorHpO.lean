/- The chapter's closed examples, walked. (printed by gen/awakeH.py) -/
import Derived.Test.YtfeajpkjjlddlaaGreatDoorHpN
namespace Go.Proofs.YtfeajpkjjlddlaaGreatDoor
set_option linter.unusedSimpArgs false
set_option linter.unusedVariables false
open Go.RowKit

theorem sameI (va vb : Value) (l : List Int) (w : World) (ha : Ints w va l) (hb : Ints w vb l) (hl : l.length ≤ 1000000000) : Calls Tryz.prog 27 #[va, vb] w fun e w' => e = .returned (.bool true) ∧ Below w.heap.size w w' :=
  (SameInts_any va vb l l w ha hb hl).mono fun _ _ h => ⟨h.1.trans (by simp), h.2⟩
set_option maxRecDepth 100000 in
set_option maxHeartbeats 20000000 in
theorem awake_any (w : World) (hw : Powers w) (hp : Pows w) : Calls Tryz.prog 5 #[] w fun e w' => e = .returned (.bool true) ∧ Below w.heap.size w w' := by
  have hB : Below w.heap.size w w := Below.refl _ _
  go_enter Tryz.func5, Tryz.ntmps5
  go_upto_region 2 with fail
  obtain ⟨W1, hW1⟩ : ∃ v, v = World.alloc w (Obj.cells #[.int .i64 0, .int .i64 0, .int .i64 0, .int .i64 (-1)] 34) := ⟨_, rfl⟩
  have kW1 : Below w.heap.size w W1 := by rw [hW1]; exact below_new _ _
  have iW1 : Blk W1 (w.heap.size) 34 [.int .i64 0, .int .i64 0, .int .i64 0, .int .i64 (-1)] := by rw [hW1]; exact Blk.new _ _ _
  have sW1 : W1.heap.size = w.heap.size + 1 := by rw [hW1]; simp
  rw [← hW1]
  clear hW1
  replace hB := bthen hB kW1
  generalize w.heap.size = Br0 at iW1 ⊢
  have r0 := iW1
  clear iW1 kW1 sW1
  have c0 := r0.cell (j := 0) (v := .int .i64 0) rfl
  have c1 := r0.cell (j := 1) (v := .int .i64 0) rfl
  have c2 := r0.cell (j := 2) (v := .int .i64 0) rfl
  have c3 := r0.cell (j := 3) (v := .int .i64 (-1)) rfl
  go_wp2_with fail
  clear c0 c1 c2 c3
  refine (aw_prod W1).mono ?_
  rintro e W2 ⟨rfl, hl⟩
  replace hB := bthen hB hl
  replace r0 := r0.carry hl
  clear hl
  clear r0
  go_wp2_with fail
  obtain ⟨W3, hW3⟩ : ∃ v, v = World.alloc W2 (Obj.cells #[.int .i64 1, .int .i64 1, .int .i64 0, .int .i64 0] 34) := ⟨_, rfl⟩
  have kW3 : Below W2.heap.size W2 W3 := by rw [hW3]; exact below_new _ _
  have iW3 : Blk W3 (W2.heap.size) 34 [.int .i64 1, .int .i64 1, .int .i64 0, .int .i64 0] := by rw [hW3]; exact Blk.new _ _ _
  have sW3 : W3.heap.size = W2.heap.size + 1 := by rw [hW3]; simp
  rw [← hW3]
  clear hW3
  replace hB := bthen hB kW3
  generalize W2.heap.size = Bka at iW3 ⊢
  have ka := iW3
  clear iW3 kW3 sW3
  refine (aw_str1 W3).mono ?_
  rintro e W4 ⟨rfl, hl⟩
  replace hB := bthen hB hl
  replace ka := ka.carry hl
  clear hl
  go_wp2_with fail
  obtain ⟨W5, hW5⟩ : ∃ v, v = World.alloc W4 (Obj.cells #[.int .i64 2, .int .i64 (-1)] 51) := ⟨_, rfl⟩
  have kW5 : Below W4.heap.size W4 W5 := by rw [hW5]; exact below_new _ _
  have iW5 : Blk W5 (W4.heap.size) 51 [.int .i64 2, .int .i64 (-1)] := by rw [hW5]; exact Blk.new _ _ _
  have sW5 : W5.heap.size = W4.heap.size + 1 := by rw [hW5]; simp
  rw [← hW5]
  clear hW5
  replace hB := bthen hB kW5
  replace ka := ka.carry kW5
  generalize W4.heap.size = Bkb at iW5 ⊢
  have kb := iW5
  clear iW5 kW5 sW5
  refine (aw_str2 W5).mono ?_
  rintro e W6 ⟨rfl, hl⟩
  replace hB := bthen hB hl
  replace ka := ka.carry hl
  replace kb := kb.carry hl
  clear hl
  go_wp2_with fail
  obtain ⟨W7, hW7⟩ : ∃ v, v = World.alloc W6 (Obj.cells #[.int .i64 2, .int .i64 1] 51) := ⟨_, rfl⟩
  have kW7 : Below W6.heap.size W6 W7 := by rw [hW7]; exact below_new _ _
  have iW7 : Blk W7 (W6.heap.size) 51 [.int .i64 2, .int .i64 1] := by rw [hW7]; exact Blk.new _ _ _
  have sW7 : W7.heap.size = W6.heap.size + 1 := by rw [hW7]; simp
  rw [← hW7]
  clear hW7
  replace hB := bthen hB kW7
  replace ka := ka.carry kW7
  replace kb := kb.carry kW7
  generalize W6.heap.size = Bkc at iW7 ⊢
  have kc := iW7
  clear iW7 kW7 sW7
  refine (aw_sgn1 W7).mono ?_
  rintro e W8 ⟨rfl, hl⟩
  replace hB := bthen hB hl
  replace ka := ka.carry hl
  replace kb := kb.carry hl
  replace kc := kc.carry hl
  clear hl
  go_wp2_with fail
  refine (aw_sgn2 W8).mono ?_
  rintro e W9 ⟨rfl, hl⟩
  replace hB := bthen hB hl
  replace ka := ka.carry hl
  replace kb := kb.carry hl
  replace kc := kc.carry hl
  clear hl
  go_wp2_with fail
  refine (low_any W9).mono ?_
  rintro e W10 ⟨rfl, hl⟩
  replace hB := bthen hB hl
  replace ka := ka.carry hl
  replace kb := kb.carry hl
  replace kc := kc.carry hl
  clear hl
  go_wp2_with fail
  refine (aw_spec W10 (hw.carry hB)).mono ?_
  rintro e W11 ⟨rfl, hl⟩
  replace hB := bthen hB hl
  replace ka := ka.carry hl
  replace kb := kb.carry hl
  replace kc := kc.carry hl
  clear hl
  go_upto_region 8 with (refine wpList_storeA rfl _ _ _ rfl W11.heap.size (lowS) (List.replicate 48 0) rfl rfl (BlkI.new W11 35 (List.replicate 48 0)) (by rw [lowS_len]; rfl) (by rw [lowS_len]; exact Tryz.infoSp) ?_)
  obtain ⟨W12, hW12⟩ : ∃ v, v = World.setRow (World.alloc W11 (Obj.cells #[.int .i64 0, .int .i64 0, .int .i64 0, .int .i64 0, .int .i64 0, .int .i64 0, .int .i64 0, .int .i64 0, .int .i64 0, .int .i64 0, .int .i64 0, .int .i64 0, .int .i64 0, .int .i64 0, .int .i64 0, .int .i64 0, .int .i64 0, .int .i64 0, .int .i64 0, .int .i64 0, .int .i64 0, .int .i64 0, .int .i64 0, .int .i64 0, .int .i64 0, .int .i64 0, .int .i64 0, .int .i64 0, .int .i64 0, .int .i64 0, .int .i64 0, .int .i64 0, .int .i64 0, .int .i64 0, .int .i64 0, .int .i64 0, .int .i64 0, .int .i64 0, .int .i64 0, .int .i64 0, .int .i64 0, .int .i64 0, .int .i64 0, .int .i64 0, .int .i64 0, .int .i64 0, .int .i64 0, .int .i64 0] 35)) W11.heap.size (ia (lowS)) := ⟨_, rfl⟩
  have kW12 : Below W11.heap.size W11 W12 := by rw [hW12]; exact zrow_below _ _ _ _
  have iW12 : BlkI W12 W11.heap.size 35 (lowS) := by rw [hW12]; exact zrow_blk W11 _ (List.replicate 48 0) _
  rw [← hW12]
  clear hW12
  replace hB := bthen hB kW12
  replace ka := ka.carry kW12
  replace kb := kb.carry kW12
  replace kc := kc.carry kW12
  generalize W11.heap.size = Bks at iW12 ⊢
  have ks := iW12
  clear iW12 kW12
  go_wp2_with fail
  refine (low_any W12).mono ?_
  rintro e W13 ⟨rfl, hl⟩
  replace hB := bthen hB hl
  replace ka := ka.carry hl
  replace kb := kb.carry hl
  replace kc := kc.carry hl
  replace ks := ks.carry hl
  clear hl
  go_wp2_with fail
  refine (aw_elim W13 (hw.carry hB)).mono ?_
  rintro e W14 ⟨⟨ul, rfl, kl⟩, hl⟩
  replace hB := bthen hB hl
  replace ka := ka.carry hl
  replace kb := kb.carry hl
  replace kc := kc.carry hl
  replace ks := ks.carry hl
  clear hl
  go_wp2_with fail
  refine (low_any W14).mono ?_
  rintro e W15 ⟨rfl, hl⟩
  replace hB := bthen hB hl
  replace ka := ka.carry hl
  replace kb := kb.carry hl
  replace kc := kc.carry hl
  replace ks := ks.carry hl
  replace kl := kl.carry hl
  clear hl
  go_wp2_with fail
  refine (same_any 18 W15).mono ?_
  rintro e W16 ⟨rfl, hl⟩
  replace hB := bthen hB hl
  replace ka := ka.carry hl
  replace kb := kb.carry hl
  replace kc := kc.carry hl
  replace ks := ks.carry hl
  replace kl := kl.carry hl
  clear hl
  go_wp2_with fail
  refine (aw_x1 W16 (hw.carry hB)).mono ?_
  rintro e W17 ⟨⟨ug, rfl, kg⟩, hl⟩
  replace hB := bthen hB hl
  replace ka := ka.carry hl
  replace kb := kb.carry hl
  replace kc := kc.carry hl
  replace ks := ks.carry hl
  replace kl := kl.carry hl
  clear hl
  go_wp2_with fail
  refine (low_any W17).mono ?_
  rintro e W18 ⟨rfl, hl⟩
  replace hB := bthen hB hl
  replace ka := ka.carry hl
  replace kb := kb.carry hl
  replace kc := kc.carry hl
  replace ks := ks.carry hl
  replace kl := kl.carry hl
  replace kg := kg.carry hl
  clear hl
  go_wp2_with fail
  refine (same_any 19 W18).mono ?_
  rintro e W19 ⟨rfl, hl⟩
  replace hB := bthen hB hl
  replace ka := ka.carry hl
  replace kb := kb.carry hl
  replace kc := kc.carry hl
  replace ks := ks.carry hl
  replace kl := kl.carry hl
  replace kg := kg.carry hl
  clear hl
  go_wp2_with fail
  refine (aw_x2 W19 (hw.carry hB)).mono ?_
  rintro e W20 ⟨⟨uh, rfl, kh⟩, hl⟩
  replace hB := bthen hB hl
  replace ka := ka.carry hl
  replace kb := kb.carry hl
  replace kc := kc.carry hl
  replace ks := ks.carry hl
  replace kl := kl.carry hl
  replace kg := kg.carry hl
  clear hl
  go_wp2_with fail
  refine (square_any W20).mono ?_
  rintro e W21 ⟨rfl, hl⟩
  replace hB := bthen hB hl
  replace ka := ka.carry hl
  replace kb := kb.carry hl
  replace kc := kc.carry hl
  replace ks := ks.carry hl
  replace kl := kl.carry hl
  replace kg := kg.carry hl
  replace kh := kh.carry hl
  clear hl
  go_wp2_with fail
  refine (same_any 34 W21).mono ?_
  rintro e W22 ⟨rfl, hl⟩
  replace hB := bthen hB hl
  replace ka := ka.carry hl
  replace kb := kb.carry hl
  replace kc := kc.carry hl
  replace ks := ks.carry hl
  replace kl := kl.carry hl
  replace kg := kg.carry hl
  replace kh := kh.carry hl
  clear hl
  go_wp2_with fail
  refine (aw_x3 W22 (hw.carry hB)).mono ?_
  rintro e W23 ⟨⟨ui, rfl, ki⟩, hl⟩
  replace hB := bthen hB hl
  replace ka := ka.carry hl
  replace kb := kb.carry hl
  replace kc := kc.carry hl
  replace ks := ks.carry hl
  replace kl := kl.carry hl
  replace kg := kg.carry hl
  replace kh := kh.carry hl
  clear hl
  go_wp2_with fail
  refine (square_any W23).mono ?_
  rintro e W24 ⟨rfl, hl⟩
  replace hB := bthen hB hl
  replace ka := ka.carry hl
  replace kb := kb.carry hl
  replace kc := kc.carry hl
  replace ks := ks.carry hl
  replace kl := kl.carry hl
  replace kg := kg.carry hl
  replace kh := kh.carry hl
  replace ki := ki.carry hl
  clear hl
  go_wp2_with fail
  refine (same_any 35 W24).mono ?_
  rintro e W25 ⟨rfl, hl⟩
  replace hB := bthen hB hl
  replace ka := ka.carry hl
  replace kb := kb.carry hl
  replace kc := kc.carry hl
  replace ks := ks.carry hl
  replace kl := kl.carry hl
  replace kg := kg.carry hl
  replace kh := kh.carry hl
  replace ki := ki.carry hl
  clear hl
  go_wp2_with fail
  refine (aw_x4 W25 (hw.carry hB)).mono ?_
  rintro e W26 ⟨⟨uj, rfl, kj⟩, hl⟩
  replace hB := bthen hB hl
  replace ka := ka.carry hl
  replace kb := kb.carry hl
  replace kc := kc.carry hl
  replace ks := ks.carry hl
  replace kl := kl.carry hl
  replace kg := kg.carry hl
  replace kh := kh.carry hl
  replace ki := ki.carry hl
  clear hl
  go_wp2_with fail
  refine (same_any 19 W26).mono ?_
  rintro e W27 ⟨rfl, hl⟩
  replace hB := bthen hB hl
  replace ka := ka.carry hl
  replace kb := kb.carry hl
  replace kc := kc.carry hl
  replace ks := ks.carry hl
  replace kl := kl.carry hl
  replace kg := kg.carry hl
  replace kh := kh.carry hl
  replace ki := ki.carry hl
  replace kj := kj.carry hl
  clear hl
  go_wp2_with fail
  refine (aw_des W27 (hw.carry hB)).mono ?_
  rintro e W28 ⟨rfl, hl⟩
  replace hB := bthen hB hl
  replace ka := ka.carry hl
  replace kb := kb.carry hl
  replace kc := kc.carry hl
  replace ks := ks.carry hl
  replace kl := kl.carry hl
  replace kg := kg.carry hl
  replace kh := kh.carry hl
  replace ki := ki.carry hl
  replace kj := kj.carry hl
  clear hl
  go_upto_region 14 with (refine wpList_storeA rfl _ _ _ rfl W28.heap.size ([0, 1, 1]) (List.replicate 3 0) rfl rfl (BlkI.new W28 65 (List.replicate 3 0)) rfl Tryz.infoA3 ?_)
  obtain ⟨W29, hW29⟩ : ∃ v, v = World.setRow (World.alloc W28 (Obj.cells #[.int .i64 0, .int .i64 0, .int .i64 0] 65)) W28.heap.size (ia ([0, 1, 1])) := ⟨_, rfl⟩
  have kW29 : Below W28.heap.size W28 W29 := by rw [hW29]; exact zrow_below _ _ _ _
  have iW29 : BlkI W29 W28.heap.size 65 ([0, 1, 1]) := by rw [hW29]; exact zrow_blk W28 _ (List.replicate 3 0) _
  rw [← hW29]
  clear hW29
  replace hB := bthen hB kW29
  replace ka := ka.carry kW29
  replace kb := kb.carry kW29
  replace kc := kc.carry kW29
  replace ks := ks.carry kW29
  replace kl := kl.carry kW29
  replace kg := kg.carry kW29
  replace kh := kh.carry kW29
  replace ki := ki.carry kW29
  replace kj := kj.carry kW29
  generalize W28.heap.size = Bkk at iW29 ⊢
  have kk := iW29
  clear iW29 kW29
  obtain ⟨ah, ch, rfl, _, _⟩ := id kh
  obtain ⟨aj, cj, rfl, _, _⟩ := id kj
  have xa0 := ka.cell (j := 0) (v := .int .i64 1) rfl
  have xa1 := ka.cell (j := 1) (v := .int .i64 1) rfl
  have xa2 := ka.cell (j := 2) (v := .int .i64 0) rfl
  have xa3 := ka.cell (j := 3) (v := .int .i64 0) rfl
  have xb0 := kb.cell (j := 0) (v := .int .i64 2) rfl
  have xb1 := kb.cell (j := 1) (v := .int .i64 (-1)) rfl
  have xc0 := kc.cell (j := 0) (v := .int .i64 2) rfl
  have xc1 := kc.cell (j := 1) (v := .int .i64 1) rfl
  have xs4 : W29.cell? ⟨Bks, 4, none⟩ = some (.int .i64 (-2)) := by have := BlkI.cell ks (j := 4) (by rw [lowS_len]; omega); rw [this, show lowS[4]?.getD 0 = (-2) from by kernel_rfl]
  have xs5 : W29.cell? ⟨Bks, 5, none⟩ = some (.int .i64 (-4)) := by have := BlkI.cell ks (j := 5) (by rw [lowS_len]; omega); rw [this, show lowS[5]?.getD 0 = (-4) from by kernel_rfl]
  have xs6 : W29.cell? ⟨Bks, 6, none⟩ = some (.int .i64 (-4)) := by have := BlkI.cell ks (j := 6) (by rw [lowS_len]; omega); rw [this, show lowS[6]?.getD 0 = (-4) from by kernel_rfl]
  have xs7 : W29.cell? ⟨Bks, 7, none⟩ = some (.int .i64 (-2)) := by have := BlkI.cell ks (j := 7) (by rw [lowS_len]; omega); rw [this, show lowS[7]?.getD 0 = (-2) from by kernel_rfl]
  have xs12 : W29.cell? ⟨Bks, 12, none⟩ = some (.int .i64 0) := by have := BlkI.cell ks (j := 12) (by rw [lowS_len]; omega); rw [this, show lowS[12]?.getD 0 = (0) from by kernel_rfl]
  have xs13 : W29.cell? ⟨Bks, 13, none⟩ = some (.int .i64 0) := by have := BlkI.cell ks (j := 13) (by rw [lowS_len]; omega); rw [this, show lowS[13]?.getD 0 = (0) from by kernel_rfl]
  have xs14 : W29.cell? ⟨Bks, 14, none⟩ = some (.int .i64 0) := by have := BlkI.cell ks (j := 14) (by rw [lowS_len]; omega); rw [this, show lowS[14]?.getD 0 = (0) from by kernel_rfl]
  have xs15 : W29.cell? ⟨Bks, 15, none⟩ = some (.int .i64 0) := by have := BlkI.cell ks (j := 15) (by rw [lowS_len]; omega); rw [this, show lowS[15]?.getD 0 = (0) from by kernel_rfl]
  go_wp2_with fail
  clear xa0 xa1 xa2 xa3 xb0 xb1 xc0 xc1 xs4 xs5 xs6 xs7 xs12 xs13 xs14 xs15
  clear ka
  clear kb
  clear kc
  clear ks
  obtain ⟨W30, hW30⟩ : ∃ v, v = World.alloc W29 (Obj.cells #[.int .i64 2, .int .i64 3, .int .i64 4, .int .i64 6] 3) := ⟨_, rfl⟩
  have kW30 : Below W29.heap.size W29 W30 := by rw [hW30]; exact below_new _ _
  have iW30 : Blk W30 (W29.heap.size) 3 [.int .i64 2, .int .i64 3, .int .i64 4, .int .i64 6] := by rw [hW30]; exact Blk.new _ _ _
  have sW30 : W30.heap.size = W29.heap.size + 1 := by rw [hW30]; simp
  rw [← hW30]
  clear hW30
  replace hB := bthen hB kW30
  replace kl := kl.carry kW30
  replace kg := kg.carry kW30
  replace kh := kh.carry kW30
  replace ki := ki.carry kW30
  replace kj := kj.carry kW30
  replace kk := kk.carry kW30
  generalize W29.heap.size = Bv1 at iW30 ⊢
  have v1 := iW30
  clear iW30 kW30 sW30
  replace v1 := BlkI.ints (n := 4) (l := [2, 3, 4, 6]) v1 rfl
  refine (sameI _ _ [2, 3, 4, 6] W30 kl v1 (by decide)).mono ?_
  rintro e W31 ⟨rfl, hl⟩
  replace hB := bthen hB hl
  replace kl := kl.carry hl
  replace kg := kg.carry hl
  replace kh := kh.carry hl
  replace ki := ki.carry hl
  replace kj := kj.carry hl
  replace kk := kk.carry hl
  replace v1 := v1.carry hl
  clear hl
  clear kl
  clear v1
  go_wp2_with fail
  obtain ⟨W32, hW32⟩ : ∃ v, v = World.alloc W31 (Obj.cells #[.int .i64 5] 3) := ⟨_, rfl⟩
  have kW32 : Below W31.heap.size W31 W32 := by rw [hW32]; exact below_new _ _
  have iW32 : Blk W32 (W31.heap.size) 3 [.int .i64 5] := by rw [hW32]; exact Blk.new _ _ _
  have sW32 : W32.heap.size = W31.heap.size + 1 := by rw [hW32]; simp
  rw [← hW32]
  clear hW32
  replace hB := bthen hB kW32
  replace kg := kg.carry kW32
  replace kh := kh.carry kW32
  replace ki := ki.carry kW32
  replace kj := kj.carry kW32
  replace kk := kk.carry kW32
  generalize W31.heap.size = Bv1 at iW32 ⊢
  have v1 := iW32
  clear iW32 kW32 sW32
  replace v1 := BlkI.ints (n := 1) (l := [5]) v1 rfl
  refine (sameI _ _ [5] W32 kg v1 (by decide)).mono ?_
  rintro e W33 ⟨rfl, hl⟩
  replace hB := bthen hB hl
  replace kg := kg.carry hl
  replace kh := kh.carry hl
  replace ki := ki.carry hl
  replace kj := kj.carry hl
  replace kk := kk.carry hl
  replace v1 := v1.carry hl
  clear hl
  clear kg
  clear v1
  go_wp2_with fail
  obtain ⟨W34, hW34⟩ : ∃ v, v = World.alloc W33 (Obj.cells #[.int .i64 3] 3) := ⟨_, rfl⟩
  have kW34 : Below W33.heap.size W33 W34 := by rw [hW34]; exact below_new _ _
  have iW34 : Blk W34 (W33.heap.size) 3 [.int .i64 3] := by rw [hW34]; exact Blk.new _ _ _
  have sW34 : W34.heap.size = W33.heap.size + 1 := by rw [hW34]; simp
  rw [← hW34]
  clear hW34
  replace hB := bthen hB kW34
  replace kh := kh.carry kW34
  replace ki := ki.carry kW34
  replace kj := kj.carry kW34
  replace kk := kk.carry kW34
  generalize W33.heap.size = Bv1 at iW34 ⊢
  have v1 := iW34
  clear iW34 kW34 sW34
  replace v1 := BlkI.ints (n := 1) (l := [3]) v1 rfl
  refine (sameI _ _ [3] W34 ki v1 (by decide)).mono ?_
  rintro e W35 ⟨rfl, hl⟩
  replace hB := bthen hB hl
  replace kh := kh.carry hl
  replace ki := ki.carry hl
  replace kj := kj.carry hl
  replace kk := kk.carry hl
  replace v1 := v1.carry hl
  clear hl
  clear ki
  clear v1
  clear kh
  clear kj
  have hld := load3 (l := [0, 1, 1]) rfl kk
  have hnq : ∀ W, Sem.run Tryz.prog (binOp .neq 65 (.agg (ia [0, 1, 1])) (.agg #[.int .i64 0, .int .i64 1, .int .i64 1])) W = .ok (.bool false) W := fun W => neqInts 65 3 Tryz.undA3 [0, 1, 1] [0, 1, 1] rfl rfl W
  go_wp2_with (refine wpList_loadG (by rfl) _ _ rfl hld ?_)
  clear hld hnq
  clear kk
  refine (pair_any W35).mono ?_
  rintro e W36 ⟨⟨up, rfl, kp⟩, hl⟩
  replace hB := bthen hB hl
  clear hl
  go_wp2_with fail
  refine (aw_sus1 _ W36 kp).mono ?_
  rintro e W37 ⟨rfl, hl⟩
  replace hB := bthen hB hl
  replace kp := kp.carry hl
  clear hl
  clear kp
  go_wp2_with fail
  obtain ⟨W38, hW38⟩ : ∃ v, v = World.alloc W37 (Obj.cells #[.int .i64 43, .int .i64 280] 70) := ⟨_, rfl⟩
  have kW38 : Below W37.heap.size W37 W38 := by rw [hW38]; exact below_new _ _
  have iW38 : Blk W38 (W37.heap.size) 70 [.int .i64 43, .int .i64 280] := by rw [hW38]; exact Blk.new _ _ _
  have sW38 : W38.heap.size = W37.heap.size + 1 := by rw [hW38]; simp
  rw [← hW38]
  clear hW38
  replace hB := bthen hB kW38
  generalize W37.heap.size = Bkm at iW38 ⊢
  have km := iW38
  clear iW38 kW38 sW38
  refine (pair_any W38).mono ?_
  rintro e W39 ⟨⟨up, rfl, kp⟩, hl⟩
  replace hB := bthen hB hl
  replace km := km.carry hl
  clear hl
  go_wp2_with fail
  refine (aw_sus2 _ W39 kp).mono ?_
  rintro e W40 ⟨rfl, hl⟩
  replace hB := bthen hB hl
  replace km := km.carry hl
  replace kp := kp.carry hl
  clear hl
  clear kp
  go_wp2_with fail
  obtain ⟨W41, hW41⟩ : ∃ v, v = World.alloc W40 (Obj.cells #[.int .i64 (-13), .int .i64 35] 70) := ⟨_, rfl⟩
  have kW41 : Below W40.heap.size W40 W41 := by rw [hW41]; exact below_new _ _
  have iW41 : Blk W41 (W40.heap.size) 70 [.int .i64 (-13), .int .i64 35] := by rw [hW41]; exact Blk.new _ _ _
  have sW41 : W41.heap.size = W40.heap.size + 1 := by rw [hW41]; simp
  rw [← hW41]
  clear hW41
  replace hB := bthen hB kW41
  replace km := km.carry kW41
  generalize W40.heap.size = Bkn at iW41 ⊢
  have kn := iW41
  clear iW41 kW41 sW41
  refine (pair_any W41).mono ?_
  rintro e W42 ⟨⟨up, rfl, kp⟩, hl⟩
  replace hB := bthen hB hl
  replace km := km.carry hl
  replace kn := kn.carry hl
  clear hl
  go_wp2_with fail
  refine (aw_res _ W42 kp).mono ?_
  rintro e W43 ⟨⟨uo, rfl, ko⟩, hl⟩
  replace hB := bthen hB hl
  replace km := km.carry hl
  replace kn := kn.carry hl
  replace kp := kp.carry hl
  clear hl
  clear kp
  go_wp2_with fail
  refine (pair_any W43).mono ?_
  rintro e W44 ⟨⟨up, rfl, kp⟩, hl⟩
  replace hB := bthen hB hl
  replace km := km.carry hl
  replace kn := kn.carry hl
  replace ko := ko.carry hl
  clear hl
  go_wp2_with fail
  refine (box_any W44).mono ?_
  rintro e W45 ⟨⟨ub, rfl, kb⟩, hl⟩
  replace hB := bthen hB hl
  replace km := km.carry hl
  replace kn := kn.carry hl
  replace ko := ko.carry hl
  replace kp := kp.carry hl
  clear hl
  go_wp2_with fail
  refine (aw_meet1 _ _ W45 kp kb).mono ?_
  rintro e W46 ⟨rfl, hl⟩
  replace hB := bthen hB hl
  replace km := km.carry hl
  replace kn := kn.carry hl
  replace ko := ko.carry hl
  replace kp := kp.carry hl
  replace kb := kb.carry hl
  clear hl
  clear kp
  clear kb
  go_wp2_with fail
  refine (pair_any W46).mono ?_
  rintro e W47 ⟨⟨up, rfl, kp⟩, hl⟩
  replace hB := bthen hB hl
  replace km := km.carry hl
  replace kn := kn.carry hl
  replace ko := ko.carry hl
  clear hl
  go_wp2_with fail
  refine (box_any W47).mono ?_
  rintro e W48 ⟨⟨ub, rfl, kb⟩, hl⟩
  replace hB := bthen hB hl
  replace km := km.carry hl
  replace kn := kn.carry hl
  replace ko := ko.carry hl
  replace kp := kp.carry hl
  clear hl
  go_wp2_with fail
  refine (aw_meet2 _ _ W48 kp kb).mono ?_
  rintro e W49 ⟨rfl, hl⟩
  replace hB := bthen hB hl
  replace km := km.carry hl
  replace kn := kn.carry hl
  replace ko := ko.carry hl
  replace kp := kp.carry hl
  replace kb := kb.carry hl
  clear hl
  clear kp
  clear kb
  go_wp2_with fail
  refine (pair_any W49).mono ?_
  rintro e W50 ⟨⟨up, rfl, kp⟩, hl⟩
  replace hB := bthen hB hl
  replace km := km.carry hl
  replace kn := kn.carry hl
  replace ko := ko.carry hl
  clear hl
  go_wp2_with fail
  refine (box_any W50).mono ?_
  rintro e W51 ⟨⟨ub, rfl, kb⟩, hl⟩
  replace hB := bthen hB hl
  replace km := km.carry hl
  replace kn := kn.carry hl
  replace ko := ko.carry hl
  replace kp := kp.carry hl
  clear hl
  go_wp2_with fail
  refine (aw_edge _ _ W51 kp kb).mono ?_
  rintro e W52 ⟨rfl, hl⟩
  replace hB := bthen hB hl
  replace km := km.carry hl
  replace kn := kn.carry hl
  replace ko := ko.carry hl
  replace kp := kp.carry hl
  replace kb := kb.carry hl
  clear hl
  clear kp
  clear kb
  go_wp2_with fail
  refine (pair_any W52).mono ?_
  rintro e W53 ⟨⟨up, rfl, kp⟩, hl⟩
  replace hB := bthen hB hl
  replace km := km.carry hl
  replace kn := kn.carry hl
  replace ko := ko.carry hl
  clear hl
  go_wp2_with fail
  refine (box_any W53).mono ?_
  rintro e W54 ⟨⟨ub, rfl, kb⟩, hl⟩
  replace hB := bthen hB hl
  replace km := km.carry hl
  replace kn := kn.carry hl
  replace ko := ko.carry hl
  replace kp := kp.carry hl
  clear hl
  go_wp2_with fail
  obtain ⟨W55, hW55⟩ : ∃ v, v = World.alloc W54 (Obj.cells #[.int .i64 5] 3) := ⟨_, rfl⟩
  have kW55 : Below W54.heap.size W54 W55 := by rw [hW55]; exact below_new _ _
  have iW55 : Blk W55 (W54.heap.size) 3 [.int .i64 5] := by rw [hW55]; exact Blk.new _ _ _
  have sW55 : W55.heap.size = W54.heap.size + 1 := by rw [hW55]; simp
  rw [← hW55]
  clear hW55
  replace hB := bthen hB kW55
  replace km := km.carry kW55
  replace kn := kn.carry kW55
  replace ko := ko.carry kW55
  replace kp := kp.carry kW55
  replace kb := kb.carry kW55
  generalize W54.heap.size = Bv1 at iW55 ⊢
  have v1 := iW55
  clear iW55 kW55 sW55
  replace v1 := BlkI.ints (n := 1) (l := [5]) v1 rfl
  refine (aw_avoid _ _ _ W55 kp kb v1).mono ?_
  rintro e W56 ⟨rfl, hl⟩
  replace hB := bthen hB hl
  replace km := km.carry hl
  replace kn := kn.carry hl
  replace ko := ko.carry hl
  replace kp := kp.carry hl
  replace kb := kb.carry hl
  replace v1 := v1.carry hl
  clear hl
  clear kp
  clear kb
  clear v1
  go_wp2_with fail
  refine (box_any W56).mono ?_
  rintro e W57 ⟨⟨ub, rfl, kb⟩, hl⟩
  replace hB := bthen hB hl
  replace km := km.carry hl
  replace kn := kn.carry hl
  replace ko := ko.carry hl
  clear hl
  go_wp2_with fail
  refine (aw_ext _ W57 kb).mono ?_
  rintro e W58 ⟨rfl, hl⟩
  replace hB := bthen hB hl
  replace km := km.carry hl
  replace kn := kn.carry hl
  replace ko := ko.carry hl
  replace kb := kb.carry hl
  clear hl
  clear kb
  go_wp2_with fail
  refine (pair_any W58).mono ?_
  rintro e W59 ⟨⟨up, rfl, kp⟩, hl⟩
  replace hB := bthen hB hl
  replace km := km.carry hl
  replace kn := kn.carry hl
  replace ko := ko.carry hl
  clear hl
  go_wp2_with fail
  refine (aw_print _ W59 kp (hp.carry hB)).mono ?_
  rintro e W60 ⟨rfl, hl⟩
  replace hB := bthen hB hl
  replace km := km.carry hl
  replace kn := kn.carry hl
  replace ko := ko.carry hl
  replace kp := kp.carry hl
  clear hl
  clear kp
  have xm0 := km.cell (j := 0) (v := .int .i64 43) rfl
  have xm1 := km.cell (j := 1) (v := .int .i64 280) rfl
  have xn0 := kn.cell (j := 0) (v := .int .i64 (-13)) rfl
  have xn1 := kn.cell (j := 1) (v := .int .i64 35) rfl
  go_wp2_with fail
  clear xm0 xm1 xn0 xn1
  clear km
  clear kn
  obtain ⟨W61, hW61⟩ : ∃ v, v = World.alloc W60 (Obj.cells #[.int .i64 4] 3) := ⟨_, rfl⟩
  have kW61 : Below W60.heap.size W60 W61 := by rw [hW61]; exact below_new _ _
  have iW61 : Blk W61 (W60.heap.size) 3 [.int .i64 4] := by rw [hW61]; exact Blk.new _ _ _
  have sW61 : W61.heap.size = W60.heap.size + 1 := by rw [hW61]; simp
  rw [← hW61]
  clear hW61
  replace hB := bthen hB kW61
  replace ko := ko.carry kW61
  generalize W60.heap.size = Bv1 at iW61 ⊢
  have v1 := iW61
  clear iW61 kW61 sW61
  replace v1 := BlkI.ints (n := 1) (l := [4]) v1 rfl
  refine (sameI _ _ [4] W61 ko v1 (by decide)).mono ?_
  rintro e W62 ⟨rfl, hl⟩
  replace hB := bthen hB hl
  replace ko := ko.carry hl
  replace v1 := v1.carry hl
  clear hl
  clear ko
  clear v1
  go_wp2_with fail
  go_ret
  exact ⟨rfl, hB⟩
end Go.Proofs.YtfeajpkjjlddlaaGreatDoor

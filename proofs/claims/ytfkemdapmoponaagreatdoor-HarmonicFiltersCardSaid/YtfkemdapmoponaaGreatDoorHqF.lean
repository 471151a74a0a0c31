/- The reference: the resonances of a filter. (printed by gen/harQf.py) -/
import Derived.Test.YtfkemdapmoponaaGreatDoorHqE
namespace Go.Proofs.YtfkemdapmoponaaGreatDoor
set_option linter.unusedSimpArgs false
set_option linter.unusedVariables false
open Go.RowKit

set_option maxRecDepth 100000 in
set_option maxHeartbeats 20000000 in
theorem ResonancesR_any (v : Value) (ls : List (Int × Int)) (w : World) (hv : Pairs w v ls) (hl : ls.length ≤ 1000000) (hf : fltE ls = 0) :
    Calls Tryz.prog 40 #[.agg #[v]] w fun e w' => (∃ u, e = .returned u ∧ Ints w' u (resL ls)) ∧ Below w.heap.size w w' := by
  obtain ⟨i0, hi, hz0, hz1, hz2⟩ := info_parts Tryz.infoInt
  obtain ⟨a, cp, rfl, _, _⟩ := id hv
  have TT := Lib.hid (fun (h : Int) (hh : 0 ≤ h ∧ h ≤ 13) W hP => by
    have := IsTunedR_any (.slice a ls.length cp) ls h W hP hl
    rw [tuned_same hf hh] at this
    exact this)
  have TS := Lib.hid (fun (h : Int) (hh : 0 ≤ h ∧ h ≤ 13) (ht : tunedB ls h = false) W hP => SusceptanceR_any (.slice a ls.length cp) ls h W hP hl (susOk_of hf hh ht))
  have HV := Lib.hid hv
  clear hv hf
  go_enter Tryz.func40, Tryz.ntmps40
  go_upto_region 1 with fail
  obtain ⟨W0, hW0⟩ : ∃ v, v = World.alloc w (Obj.cells #[.slice a ls.length cp] 62) := ⟨_, rfl⟩
  have kW0 : Below w.heap.size w W0 := by rw [hW0]; exact below_new _ _
  have iW0 : Blk W0 (w.heap.size) 62 [.slice a ls.length cp] := by rw [hW0]; exact Blk.new _ _ _
  have sW0 : W0.heap.size = w.heap.size + 1 := by rw [hW0]; simp
  rw [← hW0]
  clear hW0
  have i1 := iW0
  have hB : Below w.heap.size w W0 := kW0
  have hzs : W0.heap.size = w.heap.size + 1 := by omega
  clear iW0 kW0 sW0
  go_wp2_with fail
  go_loopw [3, 4] (fun u i wr => ∃ k : Nat, k ≤ 11 ∧ i = .int .i64 (1 + k) ∧ wr.ownsRow W0.heap.size 3 1 u (chosenL (resB ls) 1 k).length ((chosenL (resB ls) 1 k).map (Value.int .i64)) ∧ Blk wr w.heap.size 62 [.slice a ls.length cp] ∧ Below w.heap.size w wr) (fun _ i _ => (12 - intOf i).toNat)
  case atStart => exact ⟨0, by omega, by simp, World.ownsRow_nil _ _ _ _, i1, hB⟩
  case round =>
    clear hB i1
    obtain ⟨k, hk, rfl, hown, i1, hB⟩ := hrel
    have hsz : W0.heap.size ≤ wr.heap.size := by have := Blk.lt i1; omega
    by_cases hlt : k < 11
    · have d1 : (1 : Int) + (k : Int) < 12 := by omega
      have hle := chosenL_le (resB ls) 1 k
      have a0 := i1.cell (j := 0) (v := .slice a ls.length cp) rfl
      have hP := HV.out.carry hB
      have hrb : resB ls (1 + k) = bif tunedB ls (1 + k) then false else bif tunedB ls (1 + k + 1) then false else crossB (susR ls (1 + k)).1 (susR ls (1 + k + 1)).1 := rfl
      have ew : IntKind.i64.wrap (1 + (k : Int) + 1) = 1 + (k : Int) + 1 := IntWalk.i64_in _ (by omega)
      have T1 := Lib.hid (TT.out (1 + k) (by omega))
      have T2 := Lib.hid (TT.out (1 + k + 1) (by omega))
      have S1 := Lib.hid (TS.out (1 + k) (by omega))
      have S2 := Lib.hid (TS.out (1 + k + 1) (by omega))
      generalize ht1 : tunedB ls (1 + k) = t1 at T1 S1 hrb
      generalize ht2 : tunedB ls (1 + k + 1) = t2 at T2 S2 hrb
      generalize hs1 : susR ls (1 + k) = s1 at S1 hrb
      generalize hs2 : susR ls (1 + k + 1) = s2 at S2 hrb
      have HRB := Lib.hid hrb
      obtain ⟨n1, d1'⟩ := s1
      obtain ⟨n2, d2'⟩ := s2
      simp only at S1 S2
      clear hrb ht1 ht2 hs1 hs2
      obtain ⟨d1, hd1⟩ : ∃ d, d = d1' := ⟨_, rfl⟩
      obtain ⟨d2, hd2⟩ : ∃ d, d = d2' := ⟨_, rfl⟩
      subst hd1 hd2
      cases t1
      · have S1b := Lib.hid (S1.out rfl)
        cases t2
        · have S2b := Lib.hid (S2.out rfl)
          clear S1 S2
          go_wp2_with fail
          refine (T1.out wr hP).mono ?_
          rintro e W1 ⟨rfl, hb⟩
          replace hown := own_below hown hb
          replace i1 := i1.carry hb
          replace hP := hP.carry hb
          replace hB := bthen hB hb
          have a0 := cellb a0 hb
          clear hb
          go_wp2_with fail
          refine (T2.out W1 hP).mono ?_
          rintro e wr ⟨rfl, hb⟩
          replace hown := own_below hown hb
          replace i1 := i1.carry hb
          replace hP := hP.carry hb
          replace hB := bthen hB hb
          clear hb a0
          have hszw : w.heap.size < wr.heap.size := Blk.lt i1
          go_upto_region 6 with fail
          go_cut [5, 6] from 20 to 26 (fun u5 u6 wn => ∃ b5 b6 : Nat, u5 = .pointer (some ⟨b5, 0, none⟩) ∧ u6 = .pointer (some ⟨b6, 0, none⟩) ∧ BlkI wn b5 65 [n1, d1] ∧ BlkI wn b6 65 [n2, d2] ∧ Below wr.heap.size wr wn)
          case first =>
            refine wp_region_held_drew (S := (fun W => W.cell? ⟨w.heap.size, 0, none⟩ = some (.slice a ls.length cp))) (by kernel_rfl) (i1.cell (j := 0) (v := .slice a ls.length cp) rfl) (fun hHeld0 => ?_)
            obtain ⟨wzd, hwz⟩ : ∃ v, v = wr.drew := ⟨_, rfl⟩
            rw [← hwz] at hHeld0 ⊢
            have hbzd : Below wr.heap.size wr wzd := by rw [hwz]; exact (Below.refl _ _).drew
            have hlzd : Below wr.heap.size wr wzd := by rw [hwz]; exact (Below.refl _ _).drew
            have i1 := i1.carry hlzd
            have hP := hP.carry hlzd
            clear hwz hlzd
            refine wpAnyH_take (i := 0) (oi := { dst := some 20, op := Op.load 62 (Operand.tmp 1), type := 62, pos := "ref.go:295", after := #[], guard := none }) (v := ?_) rfl (by kernel_rfl) (by kernel_rfl) (by kernel_rfl) (fun _ _ _ h => h) (Or.inl ⟨by rfl, ?_⟩) (by assumption) ?_
            rotate_left
            · (intro w hSw; (try dsimp only at hSw); go_simp); (try with_reducible rfl)
            try simp only [Act.put, List.setIfInBounds_toArray, List.set_cons_zero, List.set_cons_succ]
            refine wpAnyH_take (i := 1) (oi := { dst := some 21, op := Op.move (Operand.tmp 4), type := 3, pos := "ref.go:295", after := #[], guard := none }) (v := ?_) rfl (by kernel_rfl) (by kernel_rfl) (by kernel_rfl) (fun _ _ _ h => h) (Or.inl ⟨by rfl, ?_⟩) (by assumption) ?_
            rotate_left
            · (intro w hSw; (try dsimp only at hSw); go_simp); (try with_reducible rfl)
            try simp only [Act.put, List.setIfInBounds_toArray, List.set_cons_zero, List.set_cons_succ]
            refine wpAnyH_take (i := 3) (oi := { dst := some 23, op := Op.load 62 (Operand.tmp 1), type := 62, pos := "ref.go:295", after := #[], guard := none }) (v := ?_) rfl (by kernel_rfl) (by kernel_rfl) (by kernel_rfl) (fun _ _ _ h => h) (Or.inl ⟨by rfl, ?_⟩) (by assumption) ?_
            rotate_left
            · (intro w hSw; (try dsimp only at hSw); go_simp); (try with_reducible rfl)
            try simp only [Act.put, List.setIfInBounds_toArray, List.set_cons_zero, List.set_cons_succ]
            refine wpAnyH_take (i := 4) (oi := { dst := some 24, op := Op.move (Operand.tmp 4), type := 3, pos := "ref.go:295", after := #[], guard := none }) (v := ?_) rfl (by kernel_rfl) (by kernel_rfl) (by kernel_rfl) (fun _ _ _ h => h) (Or.inl ⟨by rfl, ?_⟩) (by assumption) ?_
            rotate_left
            · (intro w hSw; (try dsimp only at hSw); go_simp); (try with_reducible rfl)
            try simp only [Act.put, List.setIfInBounds_toArray, List.set_cons_zero, List.set_cons_succ]
            refine wpAnyH_take (i := 5) (oi := { dst := some 25, op := Op.binOp BinOp.add 3 (Operand.tmp 24) (Operand.const (Value.int IntKind.i64 1)) 3, type := 3, pos := "ref.go:295", after := #[{ on := 4, ground := Ground.data }], guard := none }) (v := ?_) rfl (by kernel_rfl) (by kernel_rfl) (by kernel_rfl) (fun _ _ _ h => h) (Or.inl ⟨by rfl, ?_⟩) (by assumption) ?_
            rotate_left
            · (intro w hSw; (try dsimp only at hSw); go_simp); (try with_reducible rfl)
            try simp only [Act.put, List.setIfInBounds_toArray, List.set_cons_zero, List.set_cons_succ]
            refine wpAnyH_ready (rs := [2, 7, 8]) (by kernel_rfl) (by simp) ?_
            refine (AllReadyH.cons (o := { dst := some 22, op := Op.call { callee := Callee.value (Operand.func 39), args := #[Operand.tmp 20, Operand.tmp 21], argTypes := #[62, 3] }, type := 65, pos := "ref.go:295", after := #[{ on := 0, ground := Ground.data }, { on := 1, ground := Ground.data }], guard := none }) rfl (fun K hK => ?_) (AllReadyH.cons (o := { dst := some 5, op := Op.alloc 65, type := 0, pos := "ref.go:295", after := #[], guard := none }) rfl (fun K hK => ?_) (AllReadyH.cons (o := { dst := some 6, op := Op.alloc 65, type := 0, pos := "ref.go:295", after := #[], guard := none }) rfl (fun K hK => ?_) AllReadyH.nil)))
            · go_simp
              refine (S1b.out wzd hP).mono ?_
              rintro e wz2 ⟨rfl, hl⟩
              (try go_wp2_with fail)
              have hbz2 := bthen hbzd hl
              have i1 := i1.carry hl
              have hP := hP.carry hl
              clear hl
              refine hK.out _ _ (i1.cell (j := 0) (v := .slice a ls.length cp) rfl) (fun hHeld1 => ?_)
              clear hK K hHeld0
              try simp only [Act.put, List.setIfInBounds_toArray, List.set_cons_zero, List.set_cons_succ]
              refine wpAnyH_ready (rs := [6, 7, 8]) (by kernel_rfl) (by simp) ?_
              refine (AllReadyH.cons (o := { dst := some 26, op := Op.call { callee := Callee.value (Operand.func 39), args := #[Operand.tmp 23, Operand.tmp 25], argTypes := #[62, 3] }, type := 65, pos := "ref.go:295", after := #[{ on := 3, ground := Ground.data }, { on := 5, ground := Ground.data }, { on := 2, ground := Ground.chain }], guard := none }) rfl (fun K hK => ?_) (AllReadyH.cons (o := { dst := some 5, op := Op.alloc 65, type := 0, pos := "ref.go:295", after := #[], guard := none }) rfl (fun K hK => ?_) (AllReadyH.cons (o := { dst := some 6, op := Op.alloc 65, type := 0, pos := "ref.go:295", after := #[], guard := none }) rfl (fun K hK => ?_) AllReadyH.nil)))
              · go_simp
                refine (S2b.out wz2 hP).mono ?_
                rintro e wz6 ⟨rfl, hl⟩
                (try go_wp2_with fail)
                have hbz6 := bthen hbz2 hl
                have i1 := i1.carry hl
                have hP := hP.carry hl
                clear hl
                refine hK.out _ _ (i1.cell (j := 0) (v := .slice a ls.length cp) rfl) (fun hHeld2 => ?_)
                clear hK K hHeld1
                try simp only [Act.put, List.setIfInBounds_toArray, List.set_cons_zero, List.set_cons_succ]
                refine wpAnyH_ready (rs := [7, 8]) (by kernel_rfl) (by simp) ?_
                refine (AllReadyH.cons (o := { dst := some 5, op := Op.alloc 65, type := 0, pos := "ref.go:295", after := #[], guard := none }) rfl (fun K hK => ?_) (AllReadyH.cons (o := { dst := some 6, op := Op.alloc 65, type := 0, pos := "ref.go:295", after := #[], guard := none }) rfl (fun K hK => ?_) AllReadyH.nil))
                · go_simp
                  obtain ⟨wz7, hwz⟩ : ∃ v, v = wz6.alloc (Obj.cells #[.int .i64 0, .int .i64 0] 65) := ⟨_, rfl⟩
                  rw [← hwz]
                  have hl : Below wz6.heap.size wz6 wz7 := by rw [hwz]; exact below_new _ _
                  have hbz7 := bthen hbz6 hl
                  obtain ⟨G7, hG⟩ : ∃ G, G = wz6.heap.size := ⟨_, rfl⟩
                  have i7 : BlkI wz7 G7 65 [0, 0] := by rw [hwz, hG]; exact Blk.new _ _ _
                  have g7 : wr.heap.size ≤ G7 := by rw [hG]; exact (hbz6).size
                  try (have q87 : G8 < G7 := by rw [hG]; exact Blk.lt i8)
                  rw [← hG]
                  clear hG
                  clear hwz
                  have i1 := i1.carry hl
                  have hP := hP.carry hl
                  clear hl
                  refine hK.out _ _ (i1.cell (j := 0) (v := .slice a ls.length cp) rfl) (fun hHeld3 => ?_)
                  clear hK K hHeld2
                  try simp only [Act.put, List.setIfInBounds_toArray, List.set_cons_zero, List.set_cons_succ]
                  refine wpAnyH_ready (rs := [8]) (by kernel_rfl) (by simp) ?_
                  refine (AllReadyH.cons (o := { dst := some 6, op := Op.alloc 65, type := 0, pos := "ref.go:295", after := #[], guard := none }) rfl (fun K hK => ?_) AllReadyH.nil)
                  go_simp
                  obtain ⟨wz8, hwz⟩ : ∃ v, v = wz7.alloc (Obj.cells #[.int .i64 0, .int .i64 0] 65) := ⟨_, rfl⟩
                  rw [← hwz]
                  have hl : Below wz7.heap.size wz7 wz8 := by rw [hwz]; exact below_new _ _
                  have hbz8 := bthen hbz7 hl
                  obtain ⟨G8, hG⟩ : ∃ G, G = wz7.heap.size := ⟨_, rfl⟩
                  have i8 : BlkI wz8 G8 65 [0, 0] := by rw [hwz, hG]; exact Blk.new _ _ _
                  have g8 : wr.heap.size ≤ G8 := by rw [hG]; exact (hbz7).size
                  try (have q78 : G7 < G8 := by rw [hG]; exact Blk.lt i7)
                  rw [← hG]
                  clear hG
                  clear hwz
                  have i1 := i1.carry hl
                  have hP := hP.carry hl
                  have i7 := i7.carry hl
                  clear hl
                  refine hK.out _ _ (i1.cell (j := 0) (v := .slice a ls.length cp) rfl) (fun hHeld4 => ?_)
                  clear hK K hHeld3
                  try simp only [Act.put, List.setIfInBounds_toArray, List.set_cons_zero, List.set_cons_succ]
                  refine wpAnyH_ready (rs := [9]) (by kernel_rfl) (by simp) ?_
                  refine (AllReadyH.cons (o := { dst := none, op := Op.store 65 (Operand.tmp 5) (Operand.tmp 22), type := 0, pos := "ref.go:295", after := #[{ on := 7, ground := Ground.data }, { on := 2, ground := Ground.data }, { on := 6, ground := Ground.chain }, { on := 0, ground := Ground.phase }, { on := 1, ground := Ground.phase }, { on := 2, ground := Ground.phase }, { on := 3, ground := Ground.textOnly Departure.lateStores }, { on := 4, ground := Ground.textOnly Departure.lateStores }, { on := 5, ground := Ground.textOnly Departure.lateStores }, { on := 6, ground := Ground.textOnly Departure.lateStoresUnsure }, { on := 7, ground := Ground.phase }, { on := 8, ground := Ground.phase }], guard := none }) rfl (fun K hK => ?_) AllReadyH.nil)
                  refine wp_storeA _ _ _ rfl G7 [n1, d1] [0, 0] rfl rfl i7 rfl Tryz.infoRatio ?_
                  obtain ⟨wz9, hwz⟩ : ∃ v, v = World.setRow wz8 G7 (ia [n1, d1]) := ⟨_, rfl⟩
                  rw [← hwz]
                  have hbz9 : Below wr.heap.size wr wz9 := by rw [hwz]; exact below_rowA hbz8 g7 _
                  replace i7 := BlkI.setRowA i7 [n1, d1]
                  rw [← hwz] at i7
                  replace i1 := Blk.setRow i1 (by omega : w.heap.size ≠ G7) (ia [n1, d1])
                  rw [← hwz] at i1
                  replace i8 := BlkI.setRowO i8 (B' := G7) (by omega) (ia [n1, d1])
                  rw [← hwz] at i8
                  clear hwz
                  refine hK.out _ _ (i1.cell (j := 0) (v := .slice a ls.length cp) rfl) (fun hHeld5 => ?_)
                  clear hK K hHeld4
                  try simp only [Act.put, List.setIfInBounds_toArray, List.set_cons_zero, List.set_cons_succ]
                  refine wpAnyH_ready (rs := [10]) (by kernel_rfl) (by simp) ?_
                  refine (AllReadyH.cons (o := { dst := none, op := Op.store 65 (Operand.tmp 6) (Operand.tmp 26), type := 0, pos := "ref.go:295", after := #[{ on := 8, ground := Ground.data }, { on := 6, ground := Ground.data }, { on := 9, ground := Ground.chain }, { on := 0, ground := Ground.phase }, { on := 1, ground := Ground.phase }, { on := 2, ground := Ground.phase }, { on := 3, ground := Ground.phase }, { on := 4, ground := Ground.phase }, { on := 5, ground := Ground.phase }, { on := 6, ground := Ground.phase }, { on := 7, ground := Ground.phase }, { on := 8, ground := Ground.phase }, { on := 9, ground := Ground.phase }], guard := none }) rfl (fun K hK => ?_) AllReadyH.nil)
                  refine wp_storeA _ _ _ rfl G8 [n2, d2] [0, 0] rfl rfl i8 rfl Tryz.infoRatio ?_
                  obtain ⟨wz10, hwz⟩ : ∃ v, v = World.setRow wz9 G8 (ia [n2, d2]) := ⟨_, rfl⟩
                  rw [← hwz]
                  have hbz10 : Below wr.heap.size wr wz10 := by rw [hwz]; exact below_rowA hbz9 g8 _
                  replace i8 := BlkI.setRowA i8 [n2, d2]
                  rw [← hwz] at i8
                  replace i1 := Blk.setRow i1 (by omega : w.heap.size ≠ G8) (ia [n2, d2])
                  rw [← hwz] at i1
                  replace i7 := BlkI.setRowO i7 (B' := G8) (by omega) (ia [n2, d2])
                  rw [← hwz] at i7
                  clear hwz
                  refine hK.out _ _ (i1.cell (j := 0) (v := .slice a ls.length cp) rfl) (fun hHeld6 => ?_)
                  clear hK K hHeld5
                  try simp only [Act.put, List.setIfInBounds_toArray, List.set_cons_zero, List.set_cons_succ]
                  refine wpAnyH_done (by kernel_rfl) ?_ _
                  clear hHeld6
                  go_wp2_with fail
                  go_meet
                  exact ⟨G7, G8, rfl, rfl, i7, i8, hbz10⟩
                · go_simp
                  obtain ⟨wz8, hwz⟩ : ∃ v, v = wz6.alloc (Obj.cells #[.int .i64 0, .int .i64 0] 65) := ⟨_, rfl⟩
                  rw [← hwz]
                  have hl : Below wz6.heap.size wz6 wz8 := by rw [hwz]; exact below_new _ _
                  have hbz8 := bthen hbz6 hl
                  obtain ⟨G8, hG⟩ : ∃ G, G = wz6.heap.size := ⟨_, rfl⟩
                  have i8 : BlkI wz8 G8 65 [0, 0] := by rw [hwz, hG]; exact Blk.new _ _ _
                  have g8 : wr.heap.size ≤ G8 := by rw [hG]; exact (hbz6).size
                  try (have q78 : G7 < G8 := by rw [hG]; exact Blk.lt i7)
                  rw [← hG]
                  clear hG
                  clear hwz
                  have i1 := i1.carry hl
                  have hP := hP.carry hl
                  clear hl
                  refine hK.out _ _ (i1.cell (j := 0) (v := .slice a ls.length cp) rfl) (fun hHeld3 => ?_)
                  clear hK K hHeld2
                  try simp only [Act.put, List.setIfInBounds_toArray, List.set_cons_zero, List.set_cons_succ]
                  refine wpAnyH_ready (rs := [7]) (by kernel_rfl) (by simp) ?_
                  refine (AllReadyH.cons (o := { dst := some 5, op := Op.alloc 65, type := 0, pos := "ref.go:295", after := #[], guard := none }) rfl (fun K hK => ?_) AllReadyH.nil)
                  go_simp
                  obtain ⟨wz7, hwz⟩ : ∃ v, v = wz8.alloc (Obj.cells #[.int .i64 0, .int .i64 0] 65) := ⟨_, rfl⟩
                  rw [← hwz]
                  have hl : Below wz8.heap.size wz8 wz7 := by rw [hwz]; exact below_new _ _
                  have hbz7 := bthen hbz8 hl
                  obtain ⟨G7, hG⟩ : ∃ G, G = wz8.heap.size := ⟨_, rfl⟩
                  have i7 : BlkI wz7 G7 65 [0, 0] := by rw [hwz, hG]; exact Blk.new _ _ _
                  have g7 : wr.heap.size ≤ G7 := by rw [hG]; exact (hbz8).size
                  try (have q87 : G8 < G7 := by rw [hG]; exact Blk.lt i8)
                  rw [← hG]
                  clear hG
                  clear hwz
                  have i1 := i1.carry hl
                  have hP := hP.carry hl
                  have i8 := i8.carry hl
                  clear hl
                  refine hK.out _ _ (i1.cell (j := 0) (v := .slice a ls.length cp) rfl) (fun hHeld4 => ?_)
                  clear hK K hHeld3
                  try simp only [Act.put, List.setIfInBounds_toArray, List.set_cons_zero, List.set_cons_succ]
                  refine wpAnyH_ready (rs := [9]) (by kernel_rfl) (by simp) ?_
                  refine (AllReadyH.cons (o := { dst := none, op := Op.store 65 (Operand.tmp 5) (Operand.tmp 22), type := 0, pos := "ref.go:295", after := #[{ on := 7, ground := Ground.data }, { on := 2, ground := Ground.data }, { on := 6, ground := Ground.chain }, { on := 0, ground := Ground.phase }, { on := 1, ground := Ground.phase }, { on := 2, ground := Ground.phase }, { on := 3, ground := Ground.textOnly Departure.lateStores }, { on := 4, ground := Ground.textOnly Departure.lateStores }, { on := 5, ground := Ground.textOnly Departure.lateStores }, { on := 6, ground := Ground.textOnly Departure.lateStoresUnsure }, { on := 7, ground := Ground.phase }, { on := 8, ground := Ground.phase }], guard := none }) rfl (fun K hK => ?_) AllReadyH.nil)
                  refine wp_storeA _ _ _ rfl G7 [n1, d1] [0, 0] rfl rfl i7 rfl Tryz.infoRatio ?_
                  obtain ⟨wz9, hwz⟩ : ∃ v, v = World.setRow wz7 G7 (ia [n1, d1]) := ⟨_, rfl⟩
                  rw [← hwz]
                  have hbz9 : Below wr.heap.size wr wz9 := by rw [hwz]; exact below_rowA hbz7 g7 _
                  replace i7 := BlkI.setRowA i7 [n1, d1]
                  rw [← hwz] at i7
                  replace i1 := Blk.setRow i1 (by omega : w.heap.size ≠ G7) (ia [n1, d1])
                  rw [← hwz] at i1
                  replace i8 := BlkI.setRowO i8 (B' := G7) (by omega) (ia [n1, d1])
                  rw [← hwz] at i8
                  clear hwz
                  refine hK.out _ _ (i1.cell (j := 0) (v := .slice a ls.length cp) rfl) (fun hHeld5 => ?_)
                  clear hK K hHeld4
                  try simp only [Act.put, List.setIfInBounds_toArray, List.set_cons_zero, List.set_cons_succ]
                  refine wpAnyH_ready (rs := [10]) (by kernel_rfl) (by simp) ?_
                  refine (AllReadyH.cons (o := { dst := none, op := Op.store 65 (Operand.tmp 6) (Operand.tmp 26), type := 0, pos := "ref.go:295", after := #[{ on := 8, ground := Ground.data }, { on := 6, ground := Ground.data }, { on := 9, ground := Ground.chain }, { on := 0, ground := Ground.phase }, { on := 1, ground := Ground.phase }, { on := 2, ground := Ground.phase }, { on := 3, ground := Ground.phase }, { on := 4, ground := Ground.phase }, { on := 5, ground := Ground.phase }, { on := 6, ground := Ground.phase }, { on := 7, ground := Ground.phase }, { on := 8, ground := Ground.phase }, { on := 9, ground := Ground.phase }], guard := none }) rfl (fun K hK => ?_) AllReadyH.nil)
                  refine wp_storeA _ _ _ rfl G8 [n2, d2] [0, 0] rfl rfl i8 rfl Tryz.infoRatio ?_
                  obtain ⟨wz10, hwz⟩ : ∃ v, v = World.setRow wz9 G8 (ia [n2, d2]) := ⟨_, rfl⟩
                  rw [← hwz]
                  have hbz10 : Below wr.heap.size wr wz10 := by rw [hwz]; exact below_rowA hbz9 g8 _
                  replace i8 := BlkI.setRowA i8 [n2, d2]
                  rw [← hwz] at i8
                  replace i1 := Blk.setRow i1 (by omega : w.heap.size ≠ G8) (ia [n2, d2])
                  rw [← hwz] at i1
                  replace i7 := BlkI.setRowO i7 (B' := G8) (by omega) (ia [n2, d2])
                  rw [← hwz] at i7
                  clear hwz
                  refine hK.out _ _ (i1.cell (j := 0) (v := .slice a ls.length cp) rfl) (fun hHeld6 => ?_)
                  clear hK K hHeld5
                  try simp only [Act.put, List.setIfInBounds_toArray, List.set_cons_zero, List.set_cons_succ]
                  refine wpAnyH_done (by kernel_rfl) ?_ _
                  clear hHeld6
                  go_wp2_with fail
                  go_meet
                  exact ⟨G7, G8, rfl, rfl, i7, i8, hbz10⟩
              · go_simp
                obtain ⟨wz7, hwz⟩ : ∃ v, v = wz2.alloc (Obj.cells #[.int .i64 0, .int .i64 0] 65) := ⟨_, rfl⟩
                rw [← hwz]
                have hl : Below wz2.heap.size wz2 wz7 := by rw [hwz]; exact below_new _ _
                have hbz7 := bthen hbz2 hl
                obtain ⟨G7, hG⟩ : ∃ G, G = wz2.heap.size := ⟨_, rfl⟩
                have i7 : BlkI wz7 G7 65 [0, 0] := by rw [hwz, hG]; exact Blk.new _ _ _
                have g7 : wr.heap.size ≤ G7 := by rw [hG]; exact (hbz2).size
                try (have q87 : G8 < G7 := by rw [hG]; exact Blk.lt i8)
                rw [← hG]
                clear hG
                clear hwz
                have i1 := i1.carry hl
                have hP := hP.carry hl
                clear hl
                refine hK.out _ _ (i1.cell (j := 0) (v := .slice a ls.length cp) rfl) (fun hHeld2 => ?_)
                clear hK K hHeld1
                try simp only [Act.put, List.setIfInBounds_toArray, List.set_cons_zero, List.set_cons_succ]
                refine wpAnyH_ready (rs := [6, 8]) (by kernel_rfl) (by simp) ?_
                refine (AllReadyH.cons (o := { dst := some 26, op := Op.call { callee := Callee.value (Operand.func 39), args := #[Operand.tmp 23, Operand.tmp 25], argTypes := #[62, 3] }, type := 65, pos := "ref.go:295", after := #[{ on := 3, ground := Ground.data }, { on := 5, ground := Ground.data }, { on := 2, ground := Ground.chain }], guard := none }) rfl (fun K hK => ?_) (AllReadyH.cons (o := { dst := some 6, op := Op.alloc 65, type := 0, pos := "ref.go:295", after := #[], guard := none }) rfl (fun K hK => ?_) AllReadyH.nil))
                · go_simp
                  refine (S2b.out wz7 hP).mono ?_
                  rintro e wz6 ⟨rfl, hl⟩
                  (try go_wp2_with fail)
                  have hbz6 := bthen hbz7 hl
                  have i1 := i1.carry hl
                  have hP := hP.carry hl
                  have i7 := i7.carry hl
                  clear hl
                  refine hK.out _ _ (i1.cell (j := 0) (v := .slice a ls.length cp) rfl) (fun hHeld3 => ?_)
                  clear hK K hHeld2
                  try simp only [Act.put, List.setIfInBounds_toArray, List.set_cons_zero, List.set_cons_succ]
                  refine wpAnyH_ready (rs := [8]) (by kernel_rfl) (by simp) ?_
                  refine (AllReadyH.cons (o := { dst := some 6, op := Op.alloc 65, type := 0, pos := "ref.go:295", after := #[], guard := none }) rfl (fun K hK => ?_) AllReadyH.nil)
                  go_simp
                  obtain ⟨wz8, hwz⟩ : ∃ v, v = wz6.alloc (Obj.cells #[.int .i64 0, .int .i64 0] 65) := ⟨_, rfl⟩
                  rw [← hwz]
                  have hl : Below wz6.heap.size wz6 wz8 := by rw [hwz]; exact below_new _ _
                  have hbz8 := bthen hbz6 hl
                  obtain ⟨G8, hG⟩ : ∃ G, G = wz6.heap.size := ⟨_, rfl⟩
                  have i8 : BlkI wz8 G8 65 [0, 0] := by rw [hwz, hG]; exact Blk.new _ _ _
                  have g8 : wr.heap.size ≤ G8 := by rw [hG]; exact (hbz6).size
                  try (have q78 : G7 < G8 := by rw [hG]; exact Blk.lt i7)
                  rw [← hG]
                  clear hG
                  clear hwz
                  have i1 := i1.carry hl
                  have hP := hP.carry hl
                  have i7 := i7.carry hl
                  clear hl
                  refine hK.out _ _ (i1.cell (j := 0) (v := .slice a ls.length cp) rfl) (fun hHeld4 => ?_)
                  clear hK K hHeld3
                  try simp only [Act.put, List.setIfInBounds_toArray, List.set_cons_zero, List.set_cons_succ]
                  refine wpAnyH_ready (rs := [9]) (by kernel_rfl) (by simp) ?_
                  refine (AllReadyH.cons (o := { dst := none, op := Op.store 65 (Operand.tmp 5) (Operand.tmp 22), type := 0, pos := "ref.go:295", after := #[{ on := 7, ground := Ground.data }, { on := 2, ground := Ground.data }, { on := 6, ground := Ground.chain }, { on := 0, ground := Ground.phase }, { on := 1, ground := Ground.phase }, { on := 2, ground := Ground.phase }, { on := 3, ground := Ground.textOnly Departure.lateStores }, { on := 4, ground := Ground.textOnly Departure.lateStores }, { on := 5, ground := Ground.textOnly Departure.lateStores }, { on := 6, ground := Ground.textOnly Departure.lateStoresUnsure }, { on := 7, ground := Ground.phase }, { on := 8, ground := Ground.phase }], guard := none }) rfl (fun K hK => ?_) AllReadyH.nil)
                  refine wp_storeA _ _ _ rfl G7 [n1, d1] [0, 0] rfl rfl i7 rfl Tryz.infoRatio ?_
                  obtain ⟨wz9, hwz⟩ : ∃ v, v = World.setRow wz8 G7 (ia [n1, d1]) := ⟨_, rfl⟩
                  rw [← hwz]
                  have hbz9 : Below wr.heap.size wr wz9 := by rw [hwz]; exact below_rowA hbz8 g7 _
                  replace i7 := BlkI.setRowA i7 [n1, d1]
                  rw [← hwz] at i7
                  replace i1 := Blk.setRow i1 (by omega : w.heap.size ≠ G7) (ia [n1, d1])
                  rw [← hwz] at i1
                  replace i8 := BlkI.setRowO i8 (B' := G7) (by omega) (ia [n1, d1])
                  rw [← hwz] at i8
                  clear hwz
                  refine hK.out _ _ (i1.cell (j := 0) (v := .slice a ls.length cp) rfl) (fun hHeld5 => ?_)
                  clear hK K hHeld4
                  try simp only [Act.put, List.setIfInBounds_toArray, List.set_cons_zero, List.set_cons_succ]
                  refine wpAnyH_ready (rs := [10]) (by kernel_rfl) (by simp) ?_
                  refine (AllReadyH.cons (o := { dst := none, op := Op.store 65 (Operand.tmp 6) (Operand.tmp 26), type := 0, pos := "ref.go:295", after := #[{ on := 8, ground := Ground.data }, { on := 6, ground := Ground.data }, { on := 9, ground := Ground.chain }, { on := 0, ground := Ground.phase }, { on := 1, ground := Ground.phase }, { on := 2, ground := Ground.phase }, { on := 3, ground := Ground.phase }, { on := 4, ground := Ground.phase }, { on := 5, ground := Ground.phase }, { on := 6, ground := Ground.phase }, { on := 7, ground := Ground.phase }, { on := 8, ground := Ground.phase }, { on := 9, ground := Ground.phase }], guard := none }) rfl (fun K hK => ?_) AllReadyH.nil)
                  refine wp_storeA _ _ _ rfl G8 [n2, d2] [0, 0] rfl rfl i8 rfl Tryz.infoRatio ?_
                  obtain ⟨wz10, hwz⟩ : ∃ v, v = World.setRow wz9 G8 (ia [n2, d2]) := ⟨_, rfl⟩
                  rw [← hwz]
                  have hbz10 : Below wr.heap.size wr wz10 := by rw [hwz]; exact below_rowA hbz9 g8 _
                  replace i8 := BlkI.setRowA i8 [n2, d2]
                  rw [← hwz] at i8
                  replace i1 := Blk.setRow i1 (by omega : w.heap.size ≠ G8) (ia [n2, d2])
                  rw [← hwz] at i1
                  replace i7 := BlkI.setRowO i7 (B' := G8) (by omega) (ia [n2, d2])
                  rw [← hwz] at i7
                  clear hwz
                  refine hK.out _ _ (i1.cell (j := 0) (v := .slice a ls.length cp) rfl) (fun hHeld6 => ?_)
                  clear hK K hHeld5
                  try simp only [Act.put, List.setIfInBounds_toArray, List.set_cons_zero, List.set_cons_succ]
                  refine wpAnyH_done (by kernel_rfl) ?_ _
                  clear hHeld6
                  go_wp2_with fail
                  go_meet
                  exact ⟨G7, G8, rfl, rfl, i7, i8, hbz10⟩
                · go_simp
                  obtain ⟨wz8, hwz⟩ : ∃ v, v = wz7.alloc (Obj.cells #[.int .i64 0, .int .i64 0] 65) := ⟨_, rfl⟩
                  rw [← hwz]
                  have hl : Below wz7.heap.size wz7 wz8 := by rw [hwz]; exact below_new _ _
                  have hbz8 := bthen hbz7 hl
                  obtain ⟨G8, hG⟩ : ∃ G, G = wz7.heap.size := ⟨_, rfl⟩
                  have i8 : BlkI wz8 G8 65 [0, 0] := by rw [hwz, hG]; exact Blk.new _ _ _
                  have g8 : wr.heap.size ≤ G8 := by rw [hG]; exact (hbz7).size
                  try (have q78 : G7 < G8 := by rw [hG]; exact Blk.lt i7)
                  rw [← hG]
                  clear hG
                  clear hwz
                  have i1 := i1.carry hl
                  have hP := hP.carry hl
                  have i7 := i7.carry hl
                  clear hl
                  refine hK.out _ _ (i1.cell (j := 0) (v := .slice a ls.length cp) rfl) (fun hHeld3 => ?_)
                  clear hK K hHeld2
                  try simp only [Act.put, List.setIfInBounds_toArray, List.set_cons_zero, List.set_cons_succ]
                  refine wpAnyH_ready (rs := [6]) (by kernel_rfl) (by simp) ?_
                  refine (AllReadyH.cons (o := { dst := some 26, op := Op.call { callee := Callee.value (Operand.func 39), args := #[Operand.tmp 23, Operand.tmp 25], argTypes := #[62, 3] }, type := 65, pos := "ref.go:295", after := #[{ on := 3, ground := Ground.data }, { on := 5, ground := Ground.data }, { on := 2, ground := Ground.chain }], guard := none }) rfl (fun K hK => ?_) AllReadyH.nil)
                  go_simp
                  refine (S2b.out wz8 hP).mono ?_
                  rintro e wz6 ⟨rfl, hl⟩
                  (try go_wp2_with fail)
                  have hbz6 := bthen hbz8 hl
                  have i1 := i1.carry hl
                  have hP := hP.carry hl
                  have i7 := i7.carry hl
                  have i8 := i8.carry hl
                  clear hl
                  refine hK.out _ _ (i1.cell (j := 0) (v := .slice a ls.length cp) rfl) (fun hHeld4 => ?_)
                  clear hK K hHeld3
                  try simp only [Act.put, List.setIfInBounds_toArray, List.set_cons_zero, List.set_cons_succ]
                  refine wpAnyH_ready (rs := [9]) (by kernel_rfl) (by simp) ?_
                  refine (AllReadyH.cons (o := { dst := none, op := Op.store 65 (Operand.tmp 5) (Operand.tmp 22), type := 0, pos := "ref.go:295", after := #[{ on := 7, ground := Ground.data }, { on := 2, ground := Ground.data }, { on := 6, ground := Ground.chain }, { on := 0, ground := Ground.phase }, { on := 1, ground := Ground.phase }, { on := 2, ground := Ground.phase }, { on := 3, ground := Ground.textOnly Departure.lateStores }, { on := 4, ground := Ground.textOnly Departure.lateStores }, { on := 5, ground := Ground.textOnly Departure.lateStores }, { on := 6, ground := Ground.textOnly Departure.lateStoresUnsure }, { on := 7, ground := Ground.phase }, { on := 8, ground := Ground.phase }], guard := none }) rfl (fun K hK => ?_) AllReadyH.nil)
                  refine wp_storeA _ _ _ rfl G7 [n1, d1] [0, 0] rfl rfl i7 rfl Tryz.infoRatio ?_
                  obtain ⟨wz9, hwz⟩ : ∃ v, v = World.setRow wz6 G7 (ia [n1, d1]) := ⟨_, rfl⟩
                  rw [← hwz]
                  have hbz9 : Below wr.heap.size wr wz9 := by rw [hwz]; exact below_rowA hbz6 g7 _
                  replace i7 := BlkI.setRowA i7 [n1, d1]
                  rw [← hwz] at i7
                  replace i1 := Blk.setRow i1 (by omega : w.heap.size ≠ G7) (ia [n1, d1])
                  rw [← hwz] at i1
                  replace i8 := BlkI.setRowO i8 (B' := G7) (by omega) (ia [n1, d1])
                  rw [← hwz] at i8
                  clear hwz
                  refine hK.out _ _ (i1.cell (j := 0) (v := .slice a ls.length cp) rfl) (fun hHeld5 => ?_)
                  clear hK K hHeld4
                  try simp only [Act.put, List.setIfInBounds_toArray, List.set_cons_zero, List.set_cons_succ]
                  refine wpAnyH_ready (rs := [10]) (by kernel_rfl) (by simp) ?_
                  refine (AllReadyH.cons (o := { dst := none, op := Op.store 65 (Operand.tmp 6) (Operand.tmp 26), type := 0, pos := "ref.go:295", after := #[{ on := 8, ground := Ground.data }, { on := 6, ground := Ground.data }, { on := 9, ground := Ground.chain }, { on := 0, ground := Ground.phase }, { on := 1, ground := Ground.phase }, { on := 2, ground := Ground.phase }, { on := 3, ground := Ground.phase }, { on := 4, ground := Ground.phase }, { on := 5, ground := Ground.phase }, { on := 6, ground := Ground.phase }, { on := 7, ground := Ground.phase }, { on := 8, ground := Ground.phase }, { on := 9, ground := Ground.phase }], guard := none }) rfl (fun K hK => ?_) AllReadyH.nil)
                  refine wp_storeA _ _ _ rfl G8 [n2, d2] [0, 0] rfl rfl i8 rfl Tryz.infoRatio ?_
                  obtain ⟨wz10, hwz⟩ : ∃ v, v = World.setRow wz9 G8 (ia [n2, d2]) := ⟨_, rfl⟩
                  rw [← hwz]
                  have hbz10 : Below wr.heap.size wr wz10 := by rw [hwz]; exact below_rowA hbz9 g8 _
                  replace i8 := BlkI.setRowA i8 [n2, d2]
                  rw [← hwz] at i8
                  replace i1 := Blk.setRow i1 (by omega : w.heap.size ≠ G8) (ia [n2, d2])
                  rw [← hwz] at i1
                  replace i7 := BlkI.setRowO i7 (B' := G8) (by omega) (ia [n2, d2])
                  rw [← hwz] at i7
                  clear hwz
                  refine hK.out _ _ (i1.cell (j := 0) (v := .slice a ls.length cp) rfl) (fun hHeld6 => ?_)
                  clear hK K hHeld5
                  try simp only [Act.put, List.setIfInBounds_toArray, List.set_cons_zero, List.set_cons_succ]
                  refine wpAnyH_done (by kernel_rfl) ?_ _
                  clear hHeld6
                  go_wp2_with fail
                  go_meet
                  exact ⟨G7, G8, rfl, rfl, i7, i8, hbz10⟩
              · go_simp
                obtain ⟨wz8, hwz⟩ : ∃ v, v = wz2.alloc (Obj.cells #[.int .i64 0, .int .i64 0] 65) := ⟨_, rfl⟩
                rw [← hwz]
                have hl : Below wz2.heap.size wz2 wz8 := by rw [hwz]; exact below_new _ _
                have hbz8 := bthen hbz2 hl
                obtain ⟨G8, hG⟩ : ∃ G, G = wz2.heap.size := ⟨_, rfl⟩
                have i8 : BlkI wz8 G8 65 [0, 0] := by rw [hwz, hG]; exact Blk.new _ _ _
                have g8 : wr.heap.size ≤ G8 := by rw [hG]; exact (hbz2).size
                try (have q78 : G7 < G8 := by rw [hG]; exact Blk.lt i7)
                rw [← hG]
                clear hG
                clear hwz
                have i1 := i1.carry hl
                have hP := hP.carry hl
                clear hl
                refine hK.out _ _ (i1.cell (j := 0) (v := .slice a ls.length cp) rfl) (fun hHeld2 => ?_)
                clear hK K hHeld1
                try simp only [Act.put, List.setIfInBounds_toArray, List.set_cons_zero, List.set_cons_succ]
                refine wpAnyH_ready (rs := [6, 7]) (by kernel_rfl) (by simp) ?_
                refine (AllReadyH.cons (o := { dst := some 26, op := Op.call { callee := Callee.value (Operand.func 39), args := #[Operand.tmp 23, Operand.tmp 25], argTypes := #[62, 3] }, type := 65, pos := "ref.go:295", after := #[{ on := 3, ground := Ground.data }, { on := 5, ground := Ground.data }, { on := 2, ground := Ground.chain }], guard := none }) rfl (fun K hK => ?_) (AllReadyH.cons (o := { dst := some 5, op := Op.alloc 65, type := 0, pos := "ref.go:295", after := #[], guard := none }) rfl (fun K hK => ?_) AllReadyH.nil))
                · go_simp
                  refine (S2b.out wz8 hP).mono ?_
                  rintro e wz6 ⟨rfl, hl⟩
                  (try go_wp2_with fail)
                  have hbz6 := bthen hbz8 hl
                  have i1 := i1.carry hl
                  have hP := hP.carry hl
                  have i8 := i8.carry hl
                  clear hl
                  refine hK.out _ _ (i1.cell (j := 0) (v := .slice a ls.length cp) rfl) (fun hHeld3 => ?_)
                  clear hK K hHeld2
                  try simp only [Act.put, List.setIfInBounds_toArray, List.set_cons_zero, List.set_cons_succ]
                  refine wpAnyH_ready (rs := [7]) (by kernel_rfl) (by simp) ?_
                  refine (AllReadyH.cons (o := { dst := some 5, op := Op.alloc 65, type := 0, pos := "ref.go:295", after := #[], guard := none }) rfl (fun K hK => ?_) AllReadyH.nil)
                  go_simp
                  obtain ⟨wz7, hwz⟩ : ∃ v, v = wz6.alloc (Obj.cells #[.int .i64 0, .int .i64 0] 65) := ⟨_, rfl⟩
                  rw [← hwz]
                  have hl : Below wz6.heap.size wz6 wz7 := by rw [hwz]; exact below_new _ _
                  have hbz7 := bthen hbz6 hl
                  obtain ⟨G7, hG⟩ : ∃ G, G = wz6.heap.size := ⟨_, rfl⟩
                  have i7 : BlkI wz7 G7 65 [0, 0] := by rw [hwz, hG]; exact Blk.new _ _ _
                  have g7 : wr.heap.size ≤ G7 := by rw [hG]; exact (hbz6).size
                  try (have q87 : G8 < G7 := by rw [hG]; exact Blk.lt i8)
                  rw [← hG]
                  clear hG
                  clear hwz
                  have i1 := i1.carry hl
                  have hP := hP.carry hl
                  have i8 := i8.carry hl
                  clear hl
                  refine hK.out _ _ (i1.cell (j := 0) (v := .slice a ls.length cp) rfl) (fun hHeld4 => ?_)
                  clear hK K hHeld3
                  try simp only [Act.put, List.setIfInBounds_toArray, List.set_cons_zero, List.set_cons_succ]
                  refine wpAnyH_ready (rs := [9]) (by kernel_rfl) (by simp) ?_
                  refine (AllReadyH.cons (o := { dst := none, op := Op.store 65 (Operand.tmp 5) (Operand.tmp 22), type := 0, pos := "ref.go:295", after := #[{ on := 7, ground := Ground.data }, { on := 2, ground := Ground.data }, { on := 6, ground := Ground.chain }, { on := 0, ground := Ground.phase }, { on := 1, ground := Ground.phase }, { on := 2, ground := Ground.phase }, { on := 3, ground := Ground.textOnly Departure.lateStores }, { on := 4, ground := Ground.textOnly Departure.lateStores }, { on := 5, ground := Ground.textOnly Departure.lateStores }, { on := 6, ground := Ground.textOnly Departure.lateStoresUnsure }, { on := 7, ground := Ground.phase }, { on := 8, ground := Ground.phase }], guard := none }) rfl (fun K hK => ?_) AllReadyH.nil)
                  refine wp_storeA _ _ _ rfl G7 [n1, d1] [0, 0] rfl rfl i7 rfl Tryz.infoRatio ?_
                  obtain ⟨wz9, hwz⟩ : ∃ v, v = World.setRow wz7 G7 (ia [n1, d1]) := ⟨_, rfl⟩
                  rw [← hwz]
                  have hbz9 : Below wr.heap.size wr wz9 := by rw [hwz]; exact below_rowA hbz7 g7 _
                  replace i7 := BlkI.setRowA i7 [n1, d1]
                  rw [← hwz] at i7
                  replace i1 := Blk.setRow i1 (by omega : w.heap.size ≠ G7) (ia [n1, d1])
                  rw [← hwz] at i1
                  replace i8 := BlkI.setRowO i8 (B' := G7) (by omega) (ia [n1, d1])
                  rw [← hwz] at i8
                  clear hwz
                  refine hK.out _ _ (i1.cell (j := 0) (v := .slice a ls.length cp) rfl) (fun hHeld5 => ?_)
                  clear hK K hHeld4
                  try simp only [Act.put, List.setIfInBounds_toArray, List.set_cons_zero, List.set_cons_succ]
                  refine wpAnyH_ready (rs := [10]) (by kernel_rfl) (by simp) ?_
                  refine (AllReadyH.cons (o := { dst := none, op := Op.store 65 (Operand.tmp 6) (Operand.tmp 26), type := 0, pos := "ref.go:295", after := #[{ on := 8, ground := Ground.data }, { on := 6, ground := Ground.data }, { on := 9, ground := Ground.chain }, { on := 0, ground := Ground.phase }, { on := 1, ground := Ground.phase }, { on := 2, ground := Ground.phase }, { on := 3, ground := Ground.phase }, { on := 4, ground := Ground.phase }, { on := 5, ground := Ground.phase }, { on := 6, ground := Ground.phase }, { on := 7, ground := Ground.phase }, { on := 8, ground := Ground.phase }, { on := 9, ground := Ground.phase }], guard := none }) rfl (fun K hK => ?_) AllReadyH.nil)
                  refine wp_storeA _ _ _ rfl G8 [n2, d2] [0, 0] rfl rfl i8 rfl Tryz.infoRatio ?_
                  obtain ⟨wz10, hwz⟩ : ∃ v, v = World.setRow wz9 G8 (ia [n2, d2]) := ⟨_, rfl⟩
                  rw [← hwz]
                  have hbz10 : Below wr.heap.size wr wz10 := by rw [hwz]; exact below_rowA hbz9 g8 _
                  replace i8 := BlkI.setRowA i8 [n2, d2]
                  rw [← hwz] at i8
                  replace i1 := Blk.setRow i1 (by omega : w.heap.size ≠ G8) (ia [n2, d2])
                  rw [← hwz] at i1
                  replace i7 := BlkI.setRowO i7 (B' := G8) (by omega) (ia [n2, d2])
                  rw [← hwz] at i7
                  clear hwz
                  refine hK.out _ _ (i1.cell (j := 0) (v := .slice a ls.length cp) rfl) (fun hHeld6 => ?_)
                  clear hK K hHeld5
                  try simp only [Act.put, List.setIfInBounds_toArray, List.set_cons_zero, List.set_cons_succ]
                  refine wpAnyH_done (by kernel_rfl) ?_ _
                  clear hHeld6
                  go_wp2_with fail
                  go_meet
                  exact ⟨G7, G8, rfl, rfl, i7, i8, hbz10⟩
                · go_simp
                  obtain ⟨wz7, hwz⟩ : ∃ v, v = wz8.alloc (Obj.cells #[.int .i64 0, .int .i64 0] 65) := ⟨_, rfl⟩
                  rw [← hwz]
                  have hl : Below wz8.heap.size wz8 wz7 := by rw [hwz]; exact below_new _ _
                  have hbz7 := bthen hbz8 hl
                  obtain ⟨G7, hG⟩ : ∃ G, G = wz8.heap.size := ⟨_, rfl⟩
                  have i7 : BlkI wz7 G7 65 [0, 0] := by rw [hwz, hG]; exact Blk.new _ _ _
                  have g7 : wr.heap.size ≤ G7 := by rw [hG]; exact (hbz8).size
                  try (have q87 : G8 < G7 := by rw [hG]; exact Blk.lt i8)
                  rw [← hG]
                  clear hG
                  clear hwz
                  have i1 := i1.carry hl
                  have hP := hP.carry hl
                  have i8 := i8.carry hl
                  clear hl
                  refine hK.out _ _ (i1.cell (j := 0) (v := .slice a ls.length cp) rfl) (fun hHeld3 => ?_)
                  clear hK K hHeld2
                  try simp only [Act.put, List.setIfInBounds_toArray, List.set_cons_zero, List.set_cons_succ]
                  refine wpAnyH_ready (rs := [6]) (by kernel_rfl) (by simp) ?_
                  refine (AllReadyH.cons (o := { dst := some 26, op := Op.call { callee := Callee.value (Operand.func 39), args := #[Operand.tmp 23, Operand.tmp 25], argTypes := #[62, 3] }, type := 65, pos := "ref.go:295", after := #[{ on := 3, ground := Ground.data }, { on := 5, ground := Ground.data }, { on := 2, ground := Ground.chain }], guard := none }) rfl (fun K hK => ?_) AllReadyH.nil)
                  go_simp
                  refine (S2b.out wz7 hP).mono ?_
                  rintro e wz6 ⟨rfl, hl⟩
                  (try go_wp2_with fail)
                  have hbz6 := bthen hbz7 hl
                  have i1 := i1.carry hl
                  have hP := hP.carry hl
                  have i8 := i8.carry hl
                  have i7 := i7.carry hl
                  clear hl
                  refine hK.out _ _ (i1.cell (j := 0) (v := .slice a ls.length cp) rfl) (fun hHeld4 => ?_)
                  clear hK K hHeld3
                  try simp only [Act.put, List.setIfInBounds_toArray, List.set_cons_zero, List.set_cons_succ]
                  refine wpAnyH_ready (rs := [9]) (by kernel_rfl) (by simp) ?_
                  refine (AllReadyH.cons (o := { dst := none, op := Op.store 65 (Operand.tmp 5) (Operand.tmp 22), type := 0, pos := "ref.go:295", after := #[{ on := 7, ground := Ground.data }, { on := 2, ground := Ground.data }, { on := 6, ground := Ground.chain }, { on := 0, ground := Ground.phase }, { on := 1, ground := Ground.phase }, { on := 2, ground := Ground.phase }, { on := 3, ground := Ground.textOnly Departure.lateStores }, { on := 4, ground := Ground.textOnly Departure.lateStores }, { on := 5, ground := Ground.textOnly Departure.lateStores }, { on := 6, ground := Ground.textOnly Departure.lateStoresUnsure }, { on := 7, ground := Ground.phase }, { on := 8, ground := Ground.phase }], guard := none }) rfl (fun K hK => ?_) AllReadyH.nil)
                  refine wp_storeA _ _ _ rfl G7 [n1, d1] [0, 0] rfl rfl i7 rfl Tryz.infoRatio ?_
                  obtain ⟨wz9, hwz⟩ : ∃ v, v = World.setRow wz6 G7 (ia [n1, d1]) := ⟨_, rfl⟩
                  rw [← hwz]
                  have hbz9 : Below wr.heap.size wr wz9 := by rw [hwz]; exact below_rowA hbz6 g7 _
                  replace i7 := BlkI.setRowA i7 [n1, d1]
                  rw [← hwz] at i7
                  replace i1 := Blk.setRow i1 (by omega : w.heap.size ≠ G7) (ia [n1, d1])
                  rw [← hwz] at i1
                  replace i8 := BlkI.setRowO i8 (B' := G7) (by omega) (ia [n1, d1])
                  rw [← hwz] at i8
                  clear hwz
                  refine hK.out _ _ (i1.cell (j := 0) (v := .slice a ls.length cp) rfl) (fun hHeld5 => ?_)
                  clear hK K hHeld4
                  try simp only [Act.put, List.setIfInBounds_toArray, List.set_cons_zero, List.set_cons_succ]
                  refine wpAnyH_ready (rs := [10]) (by kernel_rfl) (by simp) ?_
                  refine (AllReadyH.cons (o := { dst := none, op := Op.store 65 (Operand.tmp 6) (Operand.tmp 26), type := 0, pos := "ref.go:295", after := #[{ on := 8, ground := Ground.data }, { on := 6, ground := Ground.data }, { on := 9, ground := Ground.chain }, { on := 0, ground := Ground.phase }, { on := 1, ground := Ground.phase }, { on := 2, ground := Ground.phase }, { on := 3, ground := Ground.phase }, { on := 4, ground := Ground.phase }, { on := 5, ground := Ground.phase }, { on := 6, ground := Ground.phase }, { on := 7, ground := Ground.phase }, { on := 8, ground := Ground.phase }, { on := 9, ground := Ground.phase }], guard := none }) rfl (fun K hK => ?_) AllReadyH.nil)
                  refine wp_storeA _ _ _ rfl G8 [n2, d2] [0, 0] rfl rfl i8 rfl Tryz.infoRatio ?_
                  obtain ⟨wz10, hwz⟩ : ∃ v, v = World.setRow wz9 G8 (ia [n2, d2]) := ⟨_, rfl⟩
                  rw [← hwz]
                  have hbz10 : Below wr.heap.size wr wz10 := by rw [hwz]; exact below_rowA hbz9 g8 _
                  replace i8 := BlkI.setRowA i8 [n2, d2]
                  rw [← hwz] at i8
                  replace i1 := Blk.setRow i1 (by omega : w.heap.size ≠ G8) (ia [n2, d2])
                  rw [← hwz] at i1
                  replace i7 := BlkI.setRowO i7 (B' := G8) (by omega) (ia [n2, d2])
                  rw [← hwz] at i7
                  clear hwz
                  refine hK.out _ _ (i1.cell (j := 0) (v := .slice a ls.length cp) rfl) (fun hHeld6 => ?_)
                  clear hK K hHeld5
                  try simp only [Act.put, List.setIfInBounds_toArray, List.set_cons_zero, List.set_cons_succ]
                  refine wpAnyH_done (by kernel_rfl) ?_ _
                  clear hHeld6
                  go_wp2_with fail
                  go_meet
                  exact ⟨G7, G8, rfl, rfl, i7, i8, hbz10⟩
            · go_simp
              obtain ⟨wz7, hwz⟩ : ∃ v, v = wzd.alloc (Obj.cells #[.int .i64 0, .int .i64 0] 65) := ⟨_, rfl⟩
              rw [← hwz]
              have hl : Below wzd.heap.size wzd wz7 := by rw [hwz]; exact below_new _ _
              have hbz7 := bthen hbzd hl
              obtain ⟨G7, hG⟩ : ∃ G, G = wzd.heap.size := ⟨_, rfl⟩
              have i7 : BlkI wz7 G7 65 [0, 0] := by rw [hwz, hG]; exact Blk.new _ _ _
              have g7 : wr.heap.size ≤ G7 := by rw [hG]; exact (hbzd).size
              try (have q87 : G8 < G7 := by rw [hG]; exact Blk.lt i8)
              rw [← hG]
              clear hG
              clear hwz
              have i1 := i1.carry hl
              have hP := hP.carry hl
              clear hl
              refine hK.out _ _ (i1.cell (j := 0) (v := .slice a ls.length cp) rfl) (fun hHeld1 => ?_)
              clear hK K hHeld0
              try simp only [Act.put, List.setIfInBounds_toArray, List.set_cons_zero, List.set_cons_succ]
              refine wpAnyH_ready (rs := [2, 8]) (by kernel_rfl) (by simp) ?_
              refine (AllReadyH.cons (o := { dst := some 22, op := Op.call { callee := Callee.value (Operand.func 39), args := #[Operand.tmp 20, Operand.tmp 21], argTypes := #[62, 3] }, type := 65, pos := "ref.go:295", after := #[{ on := 0, ground := Ground.data }, { on := 1, ground := Ground.data }], guard := none }) rfl (fun K hK => ?_) (AllReadyH.cons (o := { dst := some 6, op := Op.alloc 65, type := 0, pos := "ref.go:295", after := #[], guard := none }) rfl (fun K hK => ?_) AllReadyH.nil))
              · go_simp
                refine (S1b.out wz7 hP).mono ?_
                rintro e wz2 ⟨rfl, hl⟩
                (try go_wp2_with fail)
                have hbz2 := bthen hbz7 hl
                have i1 := i1.carry hl
                have hP := hP.carry hl
                have i7 := i7.carry hl
                clear hl
                refine hK.out _ _ (i1.cell (j := 0) (v := .slice a ls.length cp) rfl) (fun hHeld2 => ?_)
                clear hK K hHeld1
                try simp only [Act.put, List.setIfInBounds_toArray, List.set_cons_zero, List.set_cons_succ]
                refine wpAnyH_ready (rs := [6, 8]) (by kernel_rfl) (by simp) ?_
                refine (AllReadyH.cons (o := { dst := some 26, op := Op.call { callee := Callee.value (Operand.func 39), args := #[Operand.tmp 23, Operand.tmp 25], argTypes := #[62, 3] }, type := 65, pos := "ref.go:295", after := #[{ on := 3, ground := Ground.data }, { on := 5, ground := Ground.data }, { on := 2, ground := Ground.chain }], guard := none }) rfl (fun K hK => ?_) (AllReadyH.cons (o := { dst := some 6, op := Op.alloc 65, type := 0, pos := "ref.go:295", after := #[], guard := none }) rfl (fun K hK => ?_) AllReadyH.nil))
                · go_simp
                  refine (S2b.out wz2 hP).mono ?_
                  rintro e wz6 ⟨rfl, hl⟩
                  (try go_wp2_with fail)
                  have hbz6 := bthen hbz2 hl
                  have i1 := i1.carry hl
                  have hP := hP.carry hl
                  have i7 := i7.carry hl
                  clear hl
                  refine hK.out _ _ (i1.cell (j := 0) (v := .slice a ls.length cp) rfl) (fun hHeld3 => ?_)
                  clear hK K hHeld2
                  try simp only [Act.put, List.setIfInBounds_toArray, List.set_cons_zero, List.set_cons_succ]
                  refine wpAnyH_ready (rs := [8]) (by kernel_rfl) (by simp) ?_
                  refine (AllReadyH.cons (o := { dst := some 6, op := Op.alloc 65, type := 0, pos := "ref.go:295", after := #[], guard := none }) rfl (fun K hK => ?_) AllReadyH.nil)
                  go_simp
                  obtain ⟨wz8, hwz⟩ : ∃ v, v = wz6.alloc (Obj.cells #[.int .i64 0, .int .i64 0] 65) := ⟨_, rfl⟩
                  rw [← hwz]
                  have hl : Below wz6.heap.size wz6 wz8 := by rw [hwz]; exact below_new _ _
                  have hbz8 := bthen hbz6 hl
                  obtain ⟨G8, hG⟩ : ∃ G, G = wz6.heap.size := ⟨_, rfl⟩
                  have i8 : BlkI wz8 G8 65 [0, 0] := by rw [hwz, hG]; exact Blk.new _ _ _
                  have g8 : wr.heap.size ≤ G8 := by rw [hG]; exact (hbz6).size
                  try (have q78 : G7 < G8 := by rw [hG]; exact Blk.lt i7)
                  rw [← hG]
                  clear hG
                  clear hwz
                  have i1 := i1.carry hl
                  have hP := hP.carry hl
                  have i7 := i7.carry hl
                  clear hl
                  refine hK.out _ _ (i1.cell (j := 0) (v := .slice a ls.length cp) rfl) (fun hHeld4 => ?_)
                  clear hK K hHeld3
                  try simp only [Act.put, List.setIfInBounds_toArray, List.set_cons_zero, List.set_cons_succ]
                  refine wpAnyH_ready (rs := [9]) (by kernel_rfl) (by simp) ?_
                  refine (AllReadyH.cons (o := { dst := none, op := Op.store 65 (Operand.tmp 5) (Operand.tmp 22), type := 0, pos := "ref.go:295", after := #[{ on := 7, ground := Ground.data }, { on := 2, ground := Ground.data }, { on := 6, ground := Ground.chain }, { on := 0, ground := Ground.phase }, { on := 1, ground := Ground.phase }, { on := 2, ground := Ground.phase }, { on := 3, ground := Ground.textOnly Departure.lateStores }, { on := 4, ground := Ground.textOnly Departure.lateStores }, { on := 5, ground := Ground.textOnly Departure.lateStores }, { on := 6, ground := Ground.textOnly Departure.lateStoresUnsure }, { on := 7, ground := Ground.phase }, { on := 8, ground := Ground.phase }], guard := none }) rfl (fun K hK => ?_) AllReadyH.nil)
                  refine wp_storeA _ _ _ rfl G7 [n1, d1] [0, 0] rfl rfl i7 rfl Tryz.infoRatio ?_
                  obtain ⟨wz9, hwz⟩ : ∃ v, v = World.setRow wz8 G7 (ia [n1, d1]) := ⟨_, rfl⟩
                  rw [← hwz]
                  have hbz9 : Below wr.heap.size wr wz9 := by rw [hwz]; exact below_rowA hbz8 g7 _
                  replace i7 := BlkI.setRowA i7 [n1, d1]
                  rw [← hwz] at i7
                  replace i1 := Blk.setRow i1 (by omega : w.heap.size ≠ G7) (ia [n1, d1])
                  rw [← hwz] at i1
                  replace i8 := BlkI.setRowO i8 (B' := G7) (by omega) (ia [n1, d1])
                  rw [← hwz] at i8
                  clear hwz
                  refine hK.out _ _ (i1.cell (j := 0) (v := .slice a ls.length cp) rfl) (fun hHeld5 => ?_)
                  clear hK K hHeld4
                  try simp only [Act.put, List.setIfInBounds_toArray, List.set_cons_zero, List.set_cons_succ]
                  refine wpAnyH_ready (rs := [10]) (by kernel_rfl) (by simp) ?_
                  refine (AllReadyH.cons (o := { dst := none, op := Op.store 65 (Operand.tmp 6) (Operand.tmp 26), type := 0, pos := "ref.go:295", after := #[{ on := 8, ground := Ground.data }, { on := 6, ground := Ground.data }, { on := 9, ground := Ground.chain }, { on := 0, ground := Ground.phase }, { on := 1, ground := Ground.phase }, { on := 2, ground := Ground.phase }, { on := 3, ground := Ground.phase }, { on := 4, ground := Ground.phase }, { on := 5, ground := Ground.phase }, { on := 6, ground := Ground.phase }, { on := 7, ground := Ground.phase }, { on := 8, ground := Ground.phase }, { on := 9, ground := Ground.phase }], guard := none }) rfl (fun K hK => ?_) AllReadyH.nil)
                  refine wp_storeA _ _ _ rfl G8 [n2, d2] [0, 0] rfl rfl i8 rfl Tryz.infoRatio ?_
                  obtain ⟨wz10, hwz⟩ : ∃ v, v = World.setRow wz9 G8 (ia [n2, d2]) := ⟨_, rfl⟩
                  rw [← hwz]
                  have hbz10 : Below wr.heap.size wr wz10 := by rw [hwz]; exact below_rowA hbz9 g8 _
                  replace i8 := BlkI.setRowA i8 [n2, d2]
                  rw [← hwz] at i8
                  replace i1 := Blk.setRow i1 (by omega : w.heap.size ≠ G8) (ia [n2, d2])
                  rw [← hwz] at i1
                  replace i7 := BlkI.setRowO i7 (B' := G8) (by omega) (ia [n2, d2])
                  rw [← hwz] at i7
                  clear hwz
                  refine hK.out _ _ (i1.cell (j := 0) (v := .slice a ls.length cp) rfl) (fun hHeld6 => ?_)
                  clear hK K hHeld5
                  try simp only [Act.put, List.setIfInBounds_toArray, List.set_cons_zero, List.set_cons_succ]
                  refine wpAnyH_done (by kernel_rfl) ?_ _
                  clear hHeld6
                  go_wp2_with fail
                  go_meet
                  exact ⟨G7, G8, rfl, rfl, i7, i8, hbz10⟩
                · go_simp
                  obtain ⟨wz8, hwz⟩ : ∃ v, v = wz2.alloc (Obj.cells #[.int .i64 0, .int .i64 0] 65) := ⟨_, rfl⟩
                  rw [← hwz]
                  have hl : Below wz2.heap.size wz2 wz8 := by rw [hwz]; exact below_new _ _
                  have hbz8 := bthen hbz2 hl
                  obtain ⟨G8, hG⟩ : ∃ G, G = wz2.heap.size := ⟨_, rfl⟩
                  have i8 : BlkI wz8 G8 65 [0, 0] := by rw [hwz, hG]; exact Blk.new _ _ _
                  have g8 : wr.heap.size ≤ G8 := by rw [hG]; exact (hbz2).size
                  try (have q78 : G7 < G8 := by rw [hG]; exact Blk.lt i7)
                  rw [← hG]
                  clear hG
                  clear hwz
                  have i1 := i1.carry hl
                  have hP := hP.carry hl
                  have i7 := i7.carry hl
                  clear hl
                  refine hK.out _ _ (i1.cell (j := 0) (v := .slice a ls.length cp) rfl) (fun hHeld3 => ?_)
                  clear hK K hHeld2
                  try simp only [Act.put, List.setIfInBounds_toArray, List.set_cons_zero, List.set_cons_succ]
                  refine wpAnyH_ready (rs := [6]) (by kernel_rfl) (by simp) ?_
                  refine (AllReadyH.cons (o := { dst := some 26, op := Op.call { callee := Callee.value (Operand.func 39), args := #[Operand.tmp 23, Operand.tmp 25], argTypes := #[62, 3] }, type := 65, pos := "ref.go:295", after := #[{ on := 3, ground := Ground.data }, { on := 5, ground := Ground.data }, { on := 2, ground := Ground.chain }], guard := none }) rfl (fun K hK => ?_) AllReadyH.nil)
                  go_simp
                  refine (S2b.out wz8 hP).mono ?_
                  rintro e wz6 ⟨rfl, hl⟩
                  (try go_wp2_with fail)
                  have hbz6 := bthen hbz8 hl
                  have i1 := i1.carry hl
                  have hP := hP.carry hl
                  have i7 := i7.carry hl
                  have i8 := i8.carry hl
                  clear hl
                  refine hK.out _ _ (i1.cell (j := 0) (v := .slice a ls.length cp) rfl) (fun hHeld4 => ?_)
                  clear hK K hHeld3
                  try simp only [Act.put, List.setIfInBounds_toArray, List.set_cons_zero, List.set_cons_succ]
                  refine wpAnyH_ready (rs := [9]) (by kernel_rfl) (by simp) ?_
                  refine (AllReadyH.cons (o := { dst := none, op := Op.store 65 (Operand.tmp 5) (Operand.tmp 22), type := 0, pos := "ref.go:295", after := #[{ on := 7, ground := Ground.data }, { on := 2, ground := Ground.data }, { on := 6, ground := Ground.chain }, { on := 0, ground := Ground.phase }, { on := 1, ground := Ground.phase }, { on := 2, ground := Ground.phase }, { on := 3, ground := Ground.textOnly Departure.lateStores }, { on := 4, ground := Ground.textOnly Departure.lateStores }, { on := 5, ground := Ground.textOnly Departure.lateStores }, { on := 6, ground := Ground.textOnly Departure.lateStoresUnsure }, { on := 7, ground := Ground.phase }, { on := 8, ground := Ground.phase }], guard := none }) rfl (fun K hK => ?_) AllReadyH.nil)
                  refine wp_storeA _ _ _ rfl G7 [n1, d1] [0, 0] rfl rfl i7 rfl Tryz.infoRatio ?_
                  obtain ⟨wz9, hwz⟩ : ∃ v, v = World.setRow wz6 G7 (ia [n1, d1]) := ⟨_, rfl⟩
                  rw [← hwz]
                  have hbz9 : Below wr.heap.size wr wz9 := by rw [hwz]; exact below_rowA hbz6 g7 _
                  replace i7 := BlkI.setRowA i7 [n1, d1]
                  rw [← hwz] at i7
                  replace i1 := Blk.setRow i1 (by omega : w.heap.size ≠ G7) (ia [n1, d1])
                  rw [← hwz] at i1
                  replace i8 := BlkI.setRowO i8 (B' := G7) (by omega) (ia [n1, d1])
                  rw [← hwz] at i8
                  clear hwz
                  refine hK.out _ _ (i1.cell (j := 0) (v := .slice a ls.length cp) rfl) (fun hHeld5 => ?_)
                  clear hK K hHeld4
                  try simp only [Act.put, List.setIfInBounds_toArray, List.set_cons_zero, List.set_cons_succ]
                  refine wpAnyH_ready (rs := [10]) (by kernel_rfl) (by simp) ?_
                  refine (AllReadyH.cons (o := { dst := none, op := Op.store 65 (Operand.tmp 6) (Operand.tmp 26), type := 0, pos := "ref.go:295", after := #[{ on := 8, ground := Ground.data }, { on := 6, ground := Ground.data }, { on := 9, ground := Ground.chain }, { on := 0, ground := Ground.phase }, { on := 1, ground := Ground.phase }, { on := 2, ground := Ground.phase }, { on := 3, ground := Ground.phase }, { on := 4, ground := Ground.phase }, { on := 5, ground := Ground.phase }, { on := 6, ground := Ground.phase }, { on := 7, ground := Ground.phase }, { on := 8, ground := Ground.phase }, { on := 9, ground := Ground.phase }], guard := none }) rfl (fun K hK => ?_) AllReadyH.nil)
                  refine wp_storeA _ _ _ rfl G8 [n2, d2] [0, 0] rfl rfl i8 rfl Tryz.infoRatio ?_
                  obtain ⟨wz10, hwz⟩ : ∃ v, v = World.setRow wz9 G8 (ia [n2, d2]) := ⟨_, rfl⟩
                  rw [← hwz]
                  have hbz10 : Below wr.heap.size wr wz10 := by rw [hwz]; exact below_rowA hbz9 g8 _
                  replace i8 := BlkI.setRowA i8 [n2, d2]
                  rw [← hwz] at i8
                  replace i1 := Blk.setRow i1 (by omega : w.heap.size ≠ G8) (ia [n2, d2])
                  rw [← hwz] at i1
                  replace i7 := BlkI.setRowO i7 (B' := G8) (by omega) (ia [n2, d2])
                  rw [← hwz] at i7
                  clear hwz
                  refine hK.out _ _ (i1.cell (j := 0) (v := .slice a ls.length cp) rfl) (fun hHeld6 => ?_)
                  clear hK K hHeld5
                  try simp only [Act.put, List.setIfInBounds_toArray, List.set_cons_zero, List.set_cons_succ]
                  refine wpAnyH_done (by kernel_rfl) ?_ _
                  clear hHeld6
                  go_wp2_with fail
                  go_meet
                  exact ⟨G7, G8, rfl, rfl, i7, i8, hbz10⟩
              · go_simp
                obtain ⟨wz8, hwz⟩ : ∃ v, v = wz7.alloc (Obj.cells #[.int .i64 0, .int .i64 0] 65) := ⟨_, rfl⟩
                rw [← hwz]
                have hl : Below wz7.heap.size wz7 wz8 := by rw [hwz]; exact below_new _ _
                have hbz8 := bthen hbz7 hl
                obtain ⟨G8, hG⟩ : ∃ G, G = wz7.heap.size := ⟨_, rfl⟩
                have i8 : BlkI wz8 G8 65 [0, 0] := by rw [hwz, hG]; exact Blk.new _ _ _
                have g8 : wr.heap.size ≤ G8 := by rw [hG]; exact (hbz7).size
                try (have q78 : G7 < G8 := by rw [hG]; exact Blk.lt i7)
                rw [← hG]
                clear hG
                clear hwz
                have i1 := i1.carry hl
                have hP := hP.carry hl
                have i7 := i7.carry hl
                clear hl
                refine hK.out _ _ (i1.cell (j := 0) (v := .slice a ls.length cp) rfl) (fun hHeld2 => ?_)
                clear hK K hHeld1
                try simp only [Act.put, List.setIfInBounds_toArray, List.set_cons_zero, List.set_cons_succ]
                refine wpAnyH_ready (rs := [2]) (by kernel_rfl) (by simp) ?_
                refine (AllReadyH.cons (o := { dst := some 22, op := Op.call { callee := Callee.value (Operand.func 39), args := #[Operand.tmp 20, Operand.tmp 21], argTypes := #[62, 3] }, type := 65, pos := "ref.go:295", after := #[{ on := 0, ground := Ground.data }, { on := 1, ground := Ground.data }], guard := none }) rfl (fun K hK => ?_) AllReadyH.nil)
                go_simp
                refine (S1b.out wz8 hP).mono ?_
                rintro e wz2 ⟨rfl, hl⟩
                (try go_wp2_with fail)
                have hbz2 := bthen hbz8 hl
                have i1 := i1.carry hl
                have hP := hP.carry hl
                have i7 := i7.carry hl
                have i8 := i8.carry hl
                clear hl
                refine hK.out _ _ (i1.cell (j := 0) (v := .slice a ls.length cp) rfl) (fun hHeld3 => ?_)
                clear hK K hHeld2
                try simp only [Act.put, List.setIfInBounds_toArray, List.set_cons_zero, List.set_cons_succ]
                refine wpAnyH_ready (rs := [6]) (by kernel_rfl) (by simp) ?_
                refine (AllReadyH.cons (o := { dst := some 26, op := Op.call { callee := Callee.value (Operand.func 39), args := #[Operand.tmp 23, Operand.tmp 25], argTypes := #[62, 3] }, type := 65, pos := "ref.go:295", after := #[{ on := 3, ground := Ground.data }, { on := 5, ground := Ground.data }, { on := 2, ground := Ground.chain }], guard := none }) rfl (fun K hK => ?_) AllReadyH.nil)
                go_simp
                refine (S2b.out wz2 hP).mono ?_
                rintro e wz6 ⟨rfl, hl⟩
                (try go_wp2_with fail)
                have hbz6 := bthen hbz2 hl
                have i1 := i1.carry hl
                have hP := hP.carry hl
                have i7 := i7.carry hl
                have i8 := i8.carry hl
                clear hl
                refine hK.out _ _ (i1.cell (j := 0) (v := .slice a ls.length cp) rfl) (fun hHeld4 => ?_)
                clear hK K hHeld3
                try simp only [Act.put, List.setIfInBounds_toArray, List.set_cons_zero, List.set_cons_succ]
                refine wpAnyH_ready (rs := [9]) (by kernel_rfl) (by simp) ?_
                refine (AllReadyH.cons (o := { dst := none, op := Op.store 65 (Operand.tmp 5) (Operand.tmp 22), type := 0, pos := "ref.go:295", after := #[{ on := 7, ground := Ground.data }, { on := 2, ground := Ground.data }, { on := 6, ground := Ground.chain }, { on := 0, ground := Ground.phase }, { on := 1, ground := Ground.phase }, { on := 2, ground := Ground.phase }, { on := 3, ground := Ground.textOnly Departure.lateStores }, { on := 4, ground := Ground.textOnly Departure.lateStores }, { on := 5, ground := Ground.textOnly Departure.lateStores }, { on := 6, ground := Ground.textOnly Departure.lateStoresUnsure }, { on := 7, ground := Ground.phase }, { on := 8, ground := Ground.phase }], guard := none }) rfl (fun K hK => ?_) AllReadyH.nil)
                refine wp_storeA _ _ _ rfl G7 [n1, d1] [0, 0] rfl rfl i7 rfl Tryz.infoRatio ?_
                obtain ⟨wz9, hwz⟩ : ∃ v, v = World.setRow wz6 G7 (ia [n1, d1]) := ⟨_, rfl⟩
                rw [← hwz]
                have hbz9 : Below wr.heap.size wr wz9 := by rw [hwz]; exact below_rowA hbz6 g7 _
                replace i7 := BlkI.setRowA i7 [n1, d1]
                rw [← hwz] at i7
                replace i1 := Blk.setRow i1 (by omega : w.heap.size ≠ G7) (ia [n1, d1])
                rw [← hwz] at i1
                replace i8 := BlkI.setRowO i8 (B' := G7) (by omega) (ia [n1, d1])
                rw [← hwz] at i8
                clear hwz
                refine hK.out _ _ (i1.cell (j := 0) (v := .slice a ls.length cp) rfl) (fun hHeld5 => ?_)
                clear hK K hHeld4
                try simp only [Act.put, List.setIfInBounds_toArray, List.set_cons_zero, List.set_cons_succ]
                refine wpAnyH_ready (rs := [10]) (by kernel_rfl) (by simp) ?_
                refine (AllReadyH.cons (o := { dst := none, op := Op.store 65 (Operand.tmp 6) (Operand.tmp 26), type := 0, pos := "ref.go:295", after := #[{ on := 8, ground := Ground.data }, { on := 6, ground := Ground.data }, { on := 9, ground := Ground.chain }, { on := 0, ground := Ground.phase }, { on := 1, ground := Ground.phase }, { on := 2, ground := Ground.phase }, { on := 3, ground := Ground.phase }, { on := 4, ground := Ground.phase }, { on := 5, ground := Ground.phase }, { on := 6, ground := Ground.phase }, { on := 7, ground := Ground.phase }, { on := 8, ground := Ground.phase }, { on := 9, ground := Ground.phase }], guard := none }) rfl (fun K hK => ?_) AllReadyH.nil)
                refine wp_storeA _ _ _ rfl G8 [n2, d2] [0, 0] rfl rfl i8 rfl Tryz.infoRatio ?_
                obtain ⟨wz10, hwz⟩ : ∃ v, v = World.setRow wz9 G8 (ia [n2, d2]) := ⟨_, rfl⟩
                rw [← hwz]
                have hbz10 : Below wr.heap.size wr wz10 := by rw [hwz]; exact below_rowA hbz9 g8 _
                replace i8 := BlkI.setRowA i8 [n2, d2]
                rw [← hwz] at i8
                replace i1 := Blk.setRow i1 (by omega : w.heap.size ≠ G8) (ia [n2, d2])
                rw [← hwz] at i1
                replace i7 := BlkI.setRowO i7 (B' := G8) (by omega) (ia [n2, d2])
                rw [← hwz] at i7
                clear hwz
                refine hK.out _ _ (i1.cell (j := 0) (v := .slice a ls.length cp) rfl) (fun hHeld6 => ?_)
                clear hK K hHeld5
                try simp only [Act.put, List.setIfInBounds_toArray, List.set_cons_zero, List.set_cons_succ]
                refine wpAnyH_done (by kernel_rfl) ?_ _
                clear hHeld6
                go_wp2_with fail
                go_meet
                exact ⟨G7, G8, rfl, rfl, i7, i8, hbz10⟩
            · go_simp
              obtain ⟨wz8, hwz⟩ : ∃ v, v = wzd.alloc (Obj.cells #[.int .i64 0, .int .i64 0] 65) := ⟨_, rfl⟩
              rw [← hwz]
              have hl : Below wzd.heap.size wzd wz8 := by rw [hwz]; exact below_new _ _
              have hbz8 := bthen hbzd hl
              obtain ⟨G8, hG⟩ : ∃ G, G = wzd.heap.size := ⟨_, rfl⟩
              have i8 : BlkI wz8 G8 65 [0, 0] := by rw [hwz, hG]; exact Blk.new _ _ _
              have g8 : wr.heap.size ≤ G8 := by rw [hG]; exact (hbzd).size
              try (have q78 : G7 < G8 := by rw [hG]; exact Blk.lt i7)
              rw [← hG]
              clear hG
              clear hwz
              have i1 := i1.carry hl
              have hP := hP.carry hl
              clear hl
              refine hK.out _ _ (i1.cell (j := 0) (v := .slice a ls.length cp) rfl) (fun hHeld1 => ?_)
              clear hK K hHeld0
              try simp only [Act.put, List.setIfInBounds_toArray, List.set_cons_zero, List.set_cons_succ]
              refine wpAnyH_ready (rs := [2, 7]) (by kernel_rfl) (by simp) ?_
              refine (AllReadyH.cons (o := { dst := some 22, op := Op.call { callee := Callee.value (Operand.func 39), args := #[Operand.tmp 20, Operand.tmp 21], argTypes := #[62, 3] }, type := 65, pos := "ref.go:295", after := #[{ on := 0, ground := Ground.data }, { on := 1, ground := Ground.data }], guard := none }) rfl (fun K hK => ?_) (AllReadyH.cons (o := { dst := some 5, op := Op.alloc 65, type := 0, pos := "ref.go:295", after := #[], guard := none }) rfl (fun K hK => ?_) AllReadyH.nil))
              · go_simp
                refine (S1b.out wz8 hP).mono ?_
                rintro e wz2 ⟨rfl, hl⟩
                (try go_wp2_with fail)
                have hbz2 := bthen hbz8 hl
                have i1 := i1.carry hl
                have hP := hP.carry hl
                have i8 := i8.carry hl
                clear hl
                refine hK.out _ _ (i1.cell (j := 0) (v := .slice a ls.length cp) rfl) (fun hHeld2 => ?_)
                clear hK K hHeld1
                try simp only [Act.put, List.setIfInBounds_toArray, List.set_cons_zero, List.set_cons_succ]
                refine wpAnyH_ready (rs := [6, 7]) (by kernel_rfl) (by simp) ?_
                refine (AllReadyH.cons (o := { dst := some 26, op := Op.call { callee := Callee.value (Operand.func 39), args := #[Operand.tmp 23, Operand.tmp 25], argTypes := #[62, 3] }, type := 65, pos := "ref.go:295", after := #[{ on := 3, ground := Ground.data }, { on := 5, ground := Ground.data }, { on := 2, ground := Ground.chain }], guard := none }) rfl (fun K hK => ?_) (AllReadyH.cons (o := { dst := some 5, op := Op.alloc 65, type := 0, pos := "ref.go:295", after := #[], guard := none }) rfl (fun K hK => ?_) AllReadyH.nil))
                · go_simp
                  refine (S2b.out wz2 hP).mono ?_
                  rintro e wz6 ⟨rfl, hl⟩
                  (try go_wp2_with fail)
                  have hbz6 := bthen hbz2 hl
                  have i1 := i1.carry hl
                  have hP := hP.carry hl
                  have i8 := i8.carry hl
                  clear hl
                  refine hK.out _ _ (i1.cell (j := 0) (v := .slice a ls.length cp) rfl) (fun hHeld3 => ?_)
                  clear hK K hHeld2
                  try simp only [Act.put, List.setIfInBounds_toArray, List.set_cons_zero, List.set_cons_succ]
                  refine wpAnyH_ready (rs := [7]) (by kernel_rfl) (by simp) ?_
                  refine (AllReadyH.cons (o := { dst := some 5, op := Op.alloc 65, type := 0, pos := "ref.go:295", after := #[], guard := none }) rfl (fun K hK => ?_) AllReadyH.nil)
                  go_simp
                  obtain ⟨wz7, hwz⟩ : ∃ v, v = wz6.alloc (Obj.cells #[.int .i64 0, .int .i64 0] 65) := ⟨_, rfl⟩
                  rw [← hwz]
                  have hl : Below wz6.heap.size wz6 wz7 := by rw [hwz]; exact below_new _ _
                  have hbz7 := bthen hbz6 hl
                  obtain ⟨G7, hG⟩ : ∃ G, G = wz6.heap.size := ⟨_, rfl⟩
                  have i7 : BlkI wz7 G7 65 [0, 0] := by rw [hwz, hG]; exact Blk.new _ _ _
                  have g7 : wr.heap.size ≤ G7 := by rw [hG]; exact (hbz6).size
                  try (have q87 : G8 < G7 := by rw [hG]; exact Blk.lt i8)
                  rw [← hG]
                  clear hG
                  clear hwz
                  have i1 := i1.carry hl
                  have hP := hP.carry hl
                  have i8 := i8.carry hl
                  clear hl
                  refine hK.out _ _ (i1.cell (j := 0) (v := .slice a ls.length cp) rfl) (fun hHeld4 => ?_)
                  clear hK K hHeld3
                  try simp only [Act.put, List.setIfInBounds_toArray, List.set_cons_zero, List.set_cons_succ]
                  refine wpAnyH_ready (rs := [9]) (by kernel_rfl) (by simp) ?_
                  refine (AllReadyH.cons (o := { dst := none, op := Op.store 65 (Operand.tmp 5) (Operand.tmp 22), type := 0, pos := "ref.go:295", after := #[{ on := 7, ground := Ground.data }, { on := 2, ground := Ground.data }, { on := 6, ground := Ground.chain }, { on := 0, ground := Ground.phase }, { on := 1, ground := Ground.phase }, { on := 2, ground := Ground.phase }, { on := 3, ground := Ground.textOnly Departure.lateStores }, { on := 4, ground := Ground.textOnly Departure.lateStores }, { on := 5, ground := Ground.textOnly Departure.lateStores }, { on := 6, ground := Ground.textOnly Departure.lateStoresUnsure }, { on := 7, ground := Ground.phase }, { on := 8, ground := Ground.phase }], guard := none }) rfl (fun K hK => ?_) AllReadyH.nil)
                  refine wp_storeA _ _ _ rfl G7 [n1, d1] [0, 0] rfl rfl i7 rfl Tryz.infoRatio ?_
                  obtain ⟨wz9, hwz⟩ : ∃ v, v = World.setRow wz7 G7 (ia [n1, d1]) := ⟨_, rfl⟩
                  rw [← hwz]
                  have hbz9 : Below wr.heap.size wr wz9 := by rw [hwz]; exact below_rowA hbz7 g7 _
                  replace i7 := BlkI.setRowA i7 [n1, d1]
                  rw [← hwz] at i7
                  replace i1 := Blk.setRow i1 (by omega : w.heap.size ≠ G7) (ia [n1, d1])
                  rw [← hwz] at i1
                  replace i8 := BlkI.setRowO i8 (B' := G7) (by omega) (ia [n1, d1])
                  rw [← hwz] at i8
                  clear hwz
                  refine hK.out _ _ (i1.cell (j := 0) (v := .slice a ls.length cp) rfl) (fun hHeld5 => ?_)
                  clear hK K hHeld4
                  try simp only [Act.put, List.setIfInBounds_toArray, List.set_cons_zero, List.set_cons_succ]
                  refine wpAnyH_ready (rs := [10]) (by kernel_rfl) (by simp) ?_
                  refine (AllReadyH.cons (o := { dst := none, op := Op.store 65 (Operand.tmp 6) (Operand.tmp 26), type := 0, pos := "ref.go:295", after := #[{ on := 8, ground := Ground.data }, { on := 6, ground := Ground.data }, { on := 9, ground := Ground.chain }, { on := 0, ground := Ground.phase }, { on := 1, ground := Ground.phase }, { on := 2, ground := Ground.phase }, { on := 3, ground := Ground.phase }, { on := 4, ground := Ground.phase }, { on := 5, ground := Ground.phase }, { on := 6, ground := Ground.phase }, { on := 7, ground := Ground.phase }, { on := 8, ground := Ground.phase }, { on := 9, ground := Ground.phase }], guard := none }) rfl (fun K hK => ?_) AllReadyH.nil)
                  refine wp_storeA _ _ _ rfl G8 [n2, d2] [0, 0] rfl rfl i8 rfl Tryz.infoRatio ?_
                  obtain ⟨wz10, hwz⟩ : ∃ v, v = World.setRow wz9 G8 (ia [n2, d2]) := ⟨_, rfl⟩
                  rw [← hwz]
                  have hbz10 : Below wr.heap.size wr wz10 := by rw [hwz]; exact below_rowA hbz9 g8 _
                  replace i8 := BlkI.setRowA i8 [n2, d2]
                  rw [← hwz] at i8
                  replace i1 := Blk.setRow i1 (by omega : w.heap.size ≠ G8) (ia [n2, d2])
                  rw [← hwz] at i1
                  replace i7 := BlkI.setRowO i7 (B' := G8) (by omega) (ia [n2, d2])
                  rw [← hwz] at i7
                  clear hwz
                  refine hK.out _ _ (i1.cell (j := 0) (v := .slice a ls.length cp) rfl) (fun hHeld6 => ?_)
                  clear hK K hHeld5
                  try simp only [Act.put, List.setIfInBounds_toArray, List.set_cons_zero, List.set_cons_succ]
                  refine wpAnyH_done (by kernel_rfl) ?_ _
                  clear hHeld6
                  go_wp2_with fail
                  go_meet
                  exact ⟨G7, G8, rfl, rfl, i7, i8, hbz10⟩
                · go_simp
                  obtain ⟨wz7, hwz⟩ : ∃ v, v = wz2.alloc (Obj.cells #[.int .i64 0, .int .i64 0] 65) := ⟨_, rfl⟩
                  rw [← hwz]
                  have hl : Below wz2.heap.size wz2 wz7 := by rw [hwz]; exact below_new _ _
                  have hbz7 := bthen hbz2 hl
                  obtain ⟨G7, hG⟩ : ∃ G, G = wz2.heap.size := ⟨_, rfl⟩
                  have i7 : BlkI wz7 G7 65 [0, 0] := by rw [hwz, hG]; exact Blk.new _ _ _
                  have g7 : wr.heap.size ≤ G7 := by rw [hG]; exact (hbz2).size
                  try (have q87 : G8 < G7 := by rw [hG]; exact Blk.lt i8)
                  rw [← hG]
                  clear hG
                  clear hwz
                  have i1 := i1.carry hl
                  have hP := hP.carry hl
                  have i8 := i8.carry hl
                  clear hl
                  refine hK.out _ _ (i1.cell (j := 0) (v := .slice a ls.length cp) rfl) (fun hHeld3 => ?_)
                  clear hK K hHeld2
                  try simp only [Act.put, List.setIfInBounds_toArray, List.set_cons_zero, List.set_cons_succ]
                  refine wpAnyH_ready (rs := [6]) (by kernel_rfl) (by simp) ?_
                  refine (AllReadyH.cons (o := { dst := some 26, op := Op.call { callee := Callee.value (Operand.func 39), args := #[Operand.tmp 23, Operand.tmp 25], argTypes := #[62, 3] }, type := 65, pos := "ref.go:295", after := #[{ on := 3, ground := Ground.data }, { on := 5, ground := Ground.data }, { on := 2, ground := Ground.chain }], guard := none }) rfl (fun K hK => ?_) AllReadyH.nil)
                  go_simp
                  refine (S2b.out wz7 hP).mono ?_
                  rintro e wz6 ⟨rfl, hl⟩
                  (try go_wp2_with fail)
                  have hbz6 := bthen hbz7 hl
                  have i1 := i1.carry hl
                  have hP := hP.carry hl
                  have i8 := i8.carry hl
                  have i7 := i7.carry hl
                  clear hl
                  refine hK.out _ _ (i1.cell (j := 0) (v := .slice a ls.length cp) rfl) (fun hHeld4 => ?_)
                  clear hK K hHeld3
                  try simp only [Act.put, List.setIfInBounds_toArray, List.set_cons_zero, List.set_cons_succ]
                  refine wpAnyH_ready (rs := [9]) (by kernel_rfl) (by simp) ?_
                  refine (AllReadyH.cons (o := { dst := none, op := Op.store 65 (Operand.tmp 5) (Operand.tmp 22), type := 0, pos := "ref.go:295", after := #[{ on := 7, ground := Ground.data }, { on := 2, ground := Ground.data }, { on := 6, ground := Ground.chain }, { on := 0, ground := Ground.phase }, { on := 1, ground := Ground.phase }, { on := 2, ground := Ground.phase }, { on := 3, ground := Ground.textOnly Departure.lateStores }, { on := 4, ground := Ground.textOnly Departure.lateStores }, { on := 5, ground := Ground.textOnly Departure.lateStores }, { on := 6, ground := Ground.textOnly Departure.lateStoresUnsure }, { on := 7, ground := Ground.phase }, { on := 8, ground := Ground.phase }], guard := none }) rfl (fun K hK => ?_) AllReadyH.nil)
                  refine wp_storeA _ _ _ rfl G7 [n1, d1] [0, 0] rfl rfl i7 rfl Tryz.infoRatio ?_
                  obtain ⟨wz9, hwz⟩ : ∃ v, v = World.setRow wz6 G7 (ia [n1, d1]) := ⟨_, rfl⟩
                  rw [← hwz]
                  have hbz9 : Below wr.heap.size wr wz9 := by rw [hwz]; exact below_rowA hbz6 g7 _
                  replace i7 := BlkI.setRowA i7 [n1, d1]
                  rw [← hwz] at i7
                  replace i1 := Blk.setRow i1 (by omega : w.heap.size ≠ G7) (ia [n1, d1])
                  rw [← hwz] at i1
                  replace i8 := BlkI.setRowO i8 (B' := G7) (by omega) (ia [n1, d1])
                  rw [← hwz] at i8
                  clear hwz
                  refine hK.out _ _ (i1.cell (j := 0) (v := .slice a ls.length cp) rfl) (fun hHeld5 => ?_)
                  clear hK K hHeld4
                  try simp only [Act.put, List.setIfInBounds_toArray, List.set_cons_zero, List.set_cons_succ]
                  refine wpAnyH_ready (rs := [10]) (by kernel_rfl) (by simp) ?_
                  refine (AllReadyH.cons (o := { dst := none, op := Op.store 65 (Operand.tmp 6) (Operand.tmp 26), type := 0, pos := "ref.go:295", after := #[{ on := 8, ground := Ground.data }, { on := 6, ground := Ground.data }, { on := 9, ground := Ground.chain }, { on := 0, ground := Ground.phase }, { on := 1, ground := Ground.phase }, { on := 2, ground := Ground.phase }, { on := 3, ground := Ground.phase }, { on := 4, ground := Ground.phase }, { on := 5, ground := Ground.phase }, { on := 6, ground := Ground.phase }, { on := 7, ground := Ground.phase }, { on := 8, ground := Ground.phase }, { on := 9, ground := Ground.phase }], guard := none }) rfl (fun K hK => ?_) AllReadyH.nil)
                  refine wp_storeA _ _ _ rfl G8 [n2, d2] [0, 0] rfl rfl i8 rfl Tryz.infoRatio ?_
                  obtain ⟨wz10, hwz⟩ : ∃ v, v = World.setRow wz9 G8 (ia [n2, d2]) := ⟨_, rfl⟩
                  rw [← hwz]
                  have hbz10 : Below wr.heap.size wr wz10 := by rw [hwz]; exact below_rowA hbz9 g8 _
                  replace i8 := BlkI.setRowA i8 [n2, d2]
                  rw [← hwz] at i8
                  replace i1 := Blk.setRow i1 (by omega : w.heap.size ≠ G8) (ia [n2, d2])
                  rw [← hwz] at i1
                  replace i7 := BlkI.setRowO i7 (B' := G8) (by omega) (ia [n2, d2])
                  rw [← hwz] at i7
                  clear hwz
                  refine hK.out _ _ (i1.cell (j := 0) (v := .slice a ls.length cp) rfl) (fun hHeld6 => ?_)
                  clear hK K hHeld5
                  try simp only [Act.put, List.setIfInBounds_toArray, List.set_cons_zero, List.set_cons_succ]
                  refine wpAnyH_done (by kernel_rfl) ?_ _
                  clear hHeld6
                  go_wp2_with fail
                  go_meet
                  exact ⟨G7, G8, rfl, rfl, i7, i8, hbz10⟩
              · go_simp
                obtain ⟨wz7, hwz⟩ : ∃ v, v = wz8.alloc (Obj.cells #[.int .i64 0, .int .i64 0] 65) := ⟨_, rfl⟩
                rw [← hwz]
                have hl : Below wz8.heap.size wz8 wz7 := by rw [hwz]; exact below_new _ _
                have hbz7 := bthen hbz8 hl
                obtain ⟨G7, hG⟩ : ∃ G, G = wz8.heap.size := ⟨_, rfl⟩
                have i7 : BlkI wz7 G7 65 [0, 0] := by rw [hwz, hG]; exact Blk.new _ _ _
                have g7 : wr.heap.size ≤ G7 := by rw [hG]; exact (hbz8).size
                try (have q87 : G8 < G7 := by rw [hG]; exact Blk.lt i8)
                rw [← hG]
                clear hG
                clear hwz
                have i1 := i1.carry hl
                have hP := hP.carry hl
                have i8 := i8.carry hl
                clear hl
                refine hK.out _ _ (i1.cell (j := 0) (v := .slice a ls.length cp) rfl) (fun hHeld2 => ?_)
                clear hK K hHeld1
                try simp only [Act.put, List.setIfInBounds_toArray, List.set_cons_zero, List.set_cons_succ]
                refine wpAnyH_ready (rs := [2]) (by kernel_rfl) (by simp) ?_
                refine (AllReadyH.cons (o := { dst := some 22, op := Op.call { callee := Callee.value (Operand.func 39), args := #[Operand.tmp 20, Operand.tmp 21], argTypes := #[62, 3] }, type := 65, pos := "ref.go:295", after := #[{ on := 0, ground := Ground.data }, { on := 1, ground := Ground.data }], guard := none }) rfl (fun K hK => ?_) AllReadyH.nil)
                go_simp
                refine (S1b.out wz7 hP).mono ?_
                rintro e wz2 ⟨rfl, hl⟩
                (try go_wp2_with fail)
                have hbz2 := bthen hbz7 hl
                have i1 := i1.carry hl
                have hP := hP.carry hl
                have i8 := i8.carry hl
                have i7 := i7.carry hl
                clear hl
                refine hK.out _ _ (i1.cell (j := 0) (v := .slice a ls.length cp) rfl) (fun hHeld3 => ?_)
                clear hK K hHeld2
                try simp only [Act.put, List.setIfInBounds_toArray, List.set_cons_zero, List.set_cons_succ]
                refine wpAnyH_ready (rs := [6]) (by kernel_rfl) (by simp) ?_
                refine (AllReadyH.cons (o := { dst := some 26, op := Op.call { callee := Callee.value (Operand.func 39), args := #[Operand.tmp 23, Operand.tmp 25], argTypes := #[62, 3] }, type := 65, pos := "ref.go:295", after := #[{ on := 3, ground := Ground.data }, { on := 5, ground := Ground.data }, { on := 2, ground := Ground.chain }], guard := none }) rfl (fun K hK => ?_) AllReadyH.nil)
                go_simp
                refine (S2b.out wz2 hP).mono ?_
                rintro e wz6 ⟨rfl, hl⟩
                (try go_wp2_with fail)
                have hbz6 := bthen hbz2 hl
                have i1 := i1.carry hl
                have hP := hP.carry hl
                have i8 := i8.carry hl
                have i7 := i7.carry hl
                clear hl
                refine hK.out _ _ (i1.cell (j := 0) (v := .slice a ls.length cp) rfl) (fun hHeld4 => ?_)
                clear hK K hHeld3
                try simp only [Act.put, List.setIfInBounds_toArray, List.set_cons_zero, List.set_cons_succ]
                refine wpAnyH_ready (rs := [9]) (by kernel_rfl) (by simp) ?_
                refine (AllReadyH.cons (o := { dst := none, op := Op.store 65 (Operand.tmp 5) (Operand.tmp 22), type := 0, pos := "ref.go:295", after := #[{ on := 7, ground := Ground.data }, { on := 2, ground := Ground.data }, { on := 6, ground := Ground.chain }, { on := 0, ground := Ground.phase }, { on := 1, ground := Ground.phase }, { on := 2, ground := Ground.phase }, { on := 3, ground := Ground.textOnly Departure.lateStores }, { on := 4, ground := Ground.textOnly Departure.lateStores }, { on := 5, ground := Ground.textOnly Departure.lateStores }, { on := 6, ground := Ground.textOnly Departure.lateStoresUnsure }, { on := 7, ground := Ground.phase }, { on := 8, ground := Ground.phase }], guard := none }) rfl (fun K hK => ?_) AllReadyH.nil)
                refine wp_storeA _ _ _ rfl G7 [n1, d1] [0, 0] rfl rfl i7 rfl Tryz.infoRatio ?_
                obtain ⟨wz9, hwz⟩ : ∃ v, v = World.setRow wz6 G7 (ia [n1, d1]) := ⟨_, rfl⟩
                rw [← hwz]
                have hbz9 : Below wr.heap.size wr wz9 := by rw [hwz]; exact below_rowA hbz6 g7 _
                replace i7 := BlkI.setRowA i7 [n1, d1]
                rw [← hwz] at i7
                replace i1 := Blk.setRow i1 (by omega : w.heap.size ≠ G7) (ia [n1, d1])
                rw [← hwz] at i1
                replace i8 := BlkI.setRowO i8 (B' := G7) (by omega) (ia [n1, d1])
                rw [← hwz] at i8
                clear hwz
                refine hK.out _ _ (i1.cell (j := 0) (v := .slice a ls.length cp) rfl) (fun hHeld5 => ?_)
                clear hK K hHeld4
                try simp only [Act.put, List.setIfInBounds_toArray, List.set_cons_zero, List.set_cons_succ]
                refine wpAnyH_ready (rs := [10]) (by kernel_rfl) (by simp) ?_
                refine (AllReadyH.cons (o := { dst := none, op := Op.store 65 (Operand.tmp 6) (Operand.tmp 26), type := 0, pos := "ref.go:295", after := #[{ on := 8, ground := Ground.data }, { on := 6, ground := Ground.data }, { on := 9, ground := Ground.chain }, { on := 0, ground := Ground.phase }, { on := 1, ground := Ground.phase }, { on := 2, ground := Ground.phase }, { on := 3, ground := Ground.phase }, { on := 4, ground := Ground.phase }, { on := 5, ground := Ground.phase }, { on := 6, ground := Ground.phase }, { on := 7, ground := Ground.phase }, { on := 8, ground := Ground.phase }, { on := 9, ground := Ground.phase }], guard := none }) rfl (fun K hK => ?_) AllReadyH.nil)
                refine wp_storeA _ _ _ rfl G8 [n2, d2] [0, 0] rfl rfl i8 rfl Tryz.infoRatio ?_
                obtain ⟨wz10, hwz⟩ : ∃ v, v = World.setRow wz9 G8 (ia [n2, d2]) := ⟨_, rfl⟩
                rw [← hwz]
                have hbz10 : Below wr.heap.size wr wz10 := by rw [hwz]; exact below_rowA hbz9 g8 _
                replace i8 := BlkI.setRowA i8 [n2, d2]
                rw [← hwz] at i8
                replace i1 := Blk.setRow i1 (by omega : w.heap.size ≠ G8) (ia [n2, d2])
                rw [← hwz] at i1
                replace i7 := BlkI.setRowO i7 (B' := G8) (by omega) (ia [n2, d2])
                rw [← hwz] at i7
                clear hwz
                refine hK.out _ _ (i1.cell (j := 0) (v := .slice a ls.length cp) rfl) (fun hHeld6 => ?_)
                clear hK K hHeld5
                try simp only [Act.put, List.setIfInBounds_toArray, List.set_cons_zero, List.set_cons_succ]
                refine wpAnyH_done (by kernel_rfl) ?_ _
                clear hHeld6
                go_wp2_with fail
                go_meet
                exact ⟨G7, G8, rfl, rfl, i7, i8, hbz10⟩
          case rest =>
            obtain ⟨b5, b6, rfl, rfl, i5, i6, hbn⟩ := hcut
            replace hown := own_below hown hbn
            replace i1 := i1.carry hbn
            replace hB := bthen hB hbn
            have hsz2 : W0.heap.size ≤ wc.heap.size := by have := Blk.lt i1; omega
            clear hbn hP
            have x0 : wc.cell? ⟨b5, 0, none⟩ = some (.int .i64 n1) := BlkI.cell i5 (j := 0) (by simp)
            have y0 : wc.cell? ⟨b6, 0, none⟩ = some (.int .i64 n2) := BlkI.cell i6 (j := 0) (by simp)
            have hrb2 : resB ls (1 + k) = crossB n1 n2 := HRB.out
            clear HRB i5 i6
            by_cases c1 : n1 = 0
            · have HRB := Lib.hid (show resB ls (1 + k) = true by rw [hrb2, crossB, c1]; rfl)
              clear hrb2
              subst c1
              go_wp2_with (at_builtin; refine wpList_append_own _ rfl _ _ 72 rfl W0.heap.size 3 i0 (.int .i64 0) 1 8 Tryz.underlying72 hi hz0 hz1 hz2 rfl (by decide) _ _ _ rfl (hown.alloc _) ⟨wc.heap.size, 0, none⟩ 1 1 [.int .i64 (1 + k)] rfl rfl (cell_one_new _ _ _) (by simp [Value.oneCell']) (by unfold maxLen; omega) (by omega) (by simp; omega) ?_; intro v' w3 hown' hgrow _)
              have hB3 := (bthen hB (below_new wc (.cells #[.int .i64 (1 + k)] 3))).grown hgrow (by simp; omega) (fun k' hk' => by have := (World.ownsRow.lt hown k' hk').1; omega)
              have i13 := Blk.own_kept (i1.carry (below_new wc (.cells #[.int .i64 (1 + k)] 3))) (hown.alloc _) (by decide) hgrow
              have hown2 : w3.ownsRow W0.heap.size 3 1 v' (chosenL (resB ls) 1 (k + 1)).length ((chosenL (resB ls) 1 (k + 1)).map (Value.int .i64)) := by
                rw [chosenL_succ, if_pos HRB.out, List.length_append, List.map_append]; exact hown'
              clear hown hB hown' hgrow i1
              go_wp2
              go_roundw
              case rel => exact ⟨k + 1, by omega, by go_num, hown2, i13, hB3⟩
              case measure => simp [intOf]; omega
            · by_cases c2 : 0 < n1
              · by_cases c3 : n2 < 0
                · have HRB := Lib.hid (show resB ls (1 + k) = true by rw [hrb2, crossB, negB, negB]; simp [c2, c3])
                  clear hrb2
                  go_wp2_with (at_builtin; refine wpList_append_own _ rfl _ _ 72 rfl W0.heap.size 3 i0 (.int .i64 0) 1 8 Tryz.underlying72 hi hz0 hz1 hz2 rfl (by decide) _ _ _ rfl (hown.alloc _) ⟨wc.heap.size, 0, none⟩ 1 1 [.int .i64 (1 + k)] rfl rfl (cell_one_new _ _ _) (by simp [Value.oneCell']) (by unfold maxLen; omega) (by omega) (by simp; omega) ?_; intro v' w3 hown' hgrow _)
                  have hB3 := (bthen hB (below_new wc (.cells #[.int .i64 (1 + k)] 3))).grown hgrow (by simp; omega) (fun k' hk' => by have := (World.ownsRow.lt hown k' hk').1; omega)
                  have i13 := Blk.own_kept (i1.carry (below_new wc (.cells #[.int .i64 (1 + k)] 3))) (hown.alloc _) (by decide) hgrow
                  have hown2 : w3.ownsRow W0.heap.size 3 1 v' (chosenL (resB ls) 1 (k + 1)).length ((chosenL (resB ls) 1 (k + 1)).map (Value.int .i64)) := by
                    rw [chosenL_succ, if_pos HRB.out, List.length_append, List.map_append]; exact hown'
                  clear hown hB hown' hgrow i1
                  go_wp2
                  go_roundw
                  case rel => exact ⟨k + 1, by omega, by go_num, hown2, i13, hB3⟩
                  case measure => simp [intOf]; omega
                · have HRB := Lib.hid (show resB ls (1 + k) = false by rw [hrb2, crossB, negB, negB, Bool.eq_false_iff]; simp; omega)
                  clear hrb2
                  have hown2 : wc.ownsRow W0.heap.size 3 1 u3 (chosenL (resB ls) 1 (k + 1)).length ((chosenL (resB ls) 1 (k + 1)).map (Value.int .i64)) := by
                    rw [chosenL_succ, if_neg (by rw [HRB.out]; simp)]; exact hown
                  clear hown
                  go_wp2
                  go_roundw
                  case rel => exact ⟨k + 1, by omega, by go_num, hown2, i1, hB⟩
                  case measure => simp [intOf]; omega
              · by_cases c3 : 0 < n2
                · have HRB := Lib.hid (show resB ls (1 + k) = true by rw [hrb2, crossB, negB, negB]; simp; omega)
                  clear hrb2
                  go_wp2_with (at_builtin; refine wpList_append_own _ rfl _ _ 72 rfl W0.heap.size 3 i0 (.int .i64 0) 1 8 Tryz.underlying72 hi hz0 hz1 hz2 rfl (by decide) _ _ _ rfl (hown.alloc _) ⟨wc.heap.size, 0, none⟩ 1 1 [.int .i64 (1 + k)] rfl rfl (cell_one_new _ _ _) (by simp [Value.oneCell']) (by unfold maxLen; omega) (by omega) (by simp; omega) ?_; intro v' w3 hown' hgrow _)
                  have hB3 := (bthen hB (below_new wc (.cells #[.int .i64 (1 + k)] 3))).grown hgrow (by simp; omega) (fun k' hk' => by have := (World.ownsRow.lt hown k' hk').1; omega)
                  have i13 := Blk.own_kept (i1.carry (below_new wc (.cells #[.int .i64 (1 + k)] 3))) (hown.alloc _) (by decide) hgrow
                  have hown2 : w3.ownsRow W0.heap.size 3 1 v' (chosenL (resB ls) 1 (k + 1)).length ((chosenL (resB ls) 1 (k + 1)).map (Value.int .i64)) := by
                    rw [chosenL_succ, if_pos HRB.out, List.length_append, List.map_append]; exact hown'
                  clear hown hB hown' hgrow i1
                  go_wp2
                  go_roundw
                  case rel => exact ⟨k + 1, by omega, by go_num, hown2, i13, hB3⟩
                  case measure => simp [intOf]; omega
                · have HRB := Lib.hid (show resB ls (1 + k) = false by rw [hrb2, crossB, negB, negB, Bool.eq_false_iff]; simp; omega)
                  clear hrb2
                  have hown2 : wc.ownsRow W0.heap.size 3 1 u3 (chosenL (resB ls) 1 (k + 1)).length ((chosenL (resB ls) 1 (k + 1)).map (Value.int .i64)) := by
                    rw [chosenL_succ, if_neg (by rw [HRB.out]; simp)]; exact hown
                  clear hown
                  go_wp2
                  go_roundw
                  case rel => exact ⟨k + 1, by omega, by go_num, hown2, i1, hB⟩
                  case measure => simp [intOf]; omega
        · clear S1 S2 S1b
          have hrb2 : resB ls (1 + k) = false := HRB.out
          clear HRB
          have HRB := Lib.hid hrb2
          clear hrb2
          go_wp2_with fail
          refine (T1.out wr hP).mono ?_
          rintro e W1 ⟨rfl, hb⟩
          replace hown := own_below hown hb
          replace i1 := i1.carry hb
          replace hP := hP.carry hb
          replace hB := bthen hB hb
          have a0 := cellb a0 hb
          clear hb
          go_wp2_with fail
          refine (T2.out W1 hP).mono ?_
          rintro e W2 ⟨rfl, hb⟩
          replace hown := own_below hown hb
          replace i1 := i1.carry hb
          replace hB := bthen hB hb
          clear hb a0
          have hown2 : W2.ownsRow W0.heap.size 3 1 u3 (chosenL (resB ls) 1 (k + 1)).length ((chosenL (resB ls) 1 (k + 1)).map (Value.int .i64)) := by
            rw [chosenL_succ, if_neg (by rw [HRB.out]; simp)]; exact hown
          clear hown
          go_wp2
          go_roundw
          case rel => exact ⟨k + 1, by omega, by go_num, hown2, i1, hB⟩
          case measure => simp [intOf]; omega
      · clear S1 S2
        have hrb2 : resB ls (1 + k) = false := HRB.out
        clear HRB
        have HRB := Lib.hid hrb2
        clear hrb2
        go_wp2_with fail
        refine (T1.out wr hP).mono ?_
        rintro e W1 ⟨rfl, hb⟩
        replace hown := own_below hown hb
        replace i1 := i1.carry hb
        replace hB := bthen hB hb
        clear hb a0
        have hown2 : W1.ownsRow W0.heap.size 3 1 u3 (chosenL (resB ls) 1 (k + 1)).length ((chosenL (resB ls) 1 (k + 1)).map (Value.int .i64)) := by
          rw [chosenL_succ, if_neg (by rw [HRB.out]; simp)]; exact hown
        clear hown
        go_wp2
        go_roundw
        case rel => exact ⟨k + 1, by omega, by go_num, hown2, i1, hB⟩
        case measure => simp [intOf]; omega
    · obtain rfl : k = 11 := by omega
      have hout : Ints wr u3 (resL ls) := Ints.of_own hown rfl
      clear hown
      go_wp2
      go_ret
      exact ⟨⟨_, rfl, hout⟩, hB⟩
end Go.Proofs.YtfkemdapmoponaaGreatDoor

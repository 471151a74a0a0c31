/- The law TopShackleTapped. -/
import Derived.Test.YtpkaoechbmbolaaGreatDoorTapF
namespace Go.Proofs.YtpkaoechbmbolaaGreatDoor
set_option linter.unusedSimpArgs false
set_option linter.unusedVariables false
open Go.RowKit

theorem pol_len {l : List (Int × Int)} (h : polE l = 0) : 3 ≤ l.length := by
  have h1 := (polE_parts h).1
  unfold polN at h1
  have h2 := firstE_head h1
  unfold whenE at h2
  by_cases c : (l.length : Int) < 3
  · rw [decide_eq_true c] at h2; simp at h2
  · omega
theorem Ord1.new (w : World) (t p : Int) : Ord1 (w.alloc (.cells #[.int .i64 t, .int .i64 p] 48)) (.slice (some ⟨w.heap.size, 0, none⟩) 1 1) t p :=
  ⟨w.heap.size, 0, 1, rfl, Nat.le_refl _, (Blk.new w 48 [.int .i64 t, .int .i64 p]).cell (j := 0) rfl, (Blk.new w 48 [.int .i64 t, .int .i64 p]).cell (j := 1) rfl⟩
set_option maxRecDepth 100000 in
set_option maxHeartbeats 40000000 in
theorem tap_law (vf u : Value) (ls l : List (Int × Int)) (x0 x1 : Int) (w : World) (hw : Powers w) (hv : Pairs w vf ls) (hu : Pairs w u l) (hx0 : 0 ≤ x0 ∧ x0 ≤ 255) (hx1 : 0 ≤ x1 ∧ x1 ≤ 255) :
    Calls Tryz.prog 3 #[.agg #[vf], u, .agg #[.int .u8 x0, .int .u8 x1]] w fun e w' => e = .returned (.bool true) ∧ Below w.heap.size w w' := by
  have TH := Lib.hid (fun W h => heat_ok W h)
  have TSh := Lib.hid (fun W h => ShortR_any vf ls W h)
  have TSp := Lib.hid (fun W h => ShortPolygonR_any u l W h)
  go_enter Tryz.func3, Tryz.ntmps3
  go_upto_region 1 with fail
  obtain ⟨W1, hW1⟩ : ∃ v, v = World.alloc w (Obj.cells #[vf] 24) := ⟨_, rfl⟩
  have kW1 : Below w.heap.size w W1 := by rw [hW1]; exact below_new _ _
  have iW1 : Blk W1 (w.heap.size) 24 [vf] := by rw [hW1]; exact Blk.new _ _ _
  have sW1 : W1.heap.size = w.heap.size + 1 := by rw [hW1]; simp
  rw [← hW1]
  clear hW1
  obtain ⟨W2, hW2⟩ : ∃ v, v = World.alloc W1 (Obj.cells #[.int .u8 x0, .int .u8 x1] 26) := ⟨_, rfl⟩
  have kW2 : Below W1.heap.size W1 W2 := by rw [hW2]; exact below_new _ _
  have iW2 : Blk W2 (w.heap.size + 1) 26 [.int .u8 x0, .int .u8 x1] := by rw [hW2, ← sW1]; exact Blk.new _ _ _
  have sW2 : W2.heap.size = w.heap.size + 1 + 1 := by rw [hW2]; simp [sW1]
  rw [← hW2]
  clear hW2
  have i1 := iW1.carry kW2
  have i2 := iW2
  have hB : Below w.heap.size w W2 := bthen kW1 kW2
  replace hw := hw.carry hB
  replace hv := hv.carry hB
  replace hu := hu.carry hB
  clear iW1 kW1 sW1 iW2 kW2 sW2
  have a0 := i1.cell (j := 0) (v := vf) rfl
  by_cases g1 : (ls.length : Int) ≤ 4
  · by_cases g2 : (l.length : Int) ≤ 9
    · have TCf := Lib.hid (fun W h => CheckFilterR_any vf ls W h (by omega))
      have TCp := Lib.hid (fun W h => CheckPolygonR_any u l W h (by omega))
      rw [decide_eq_true g1] at TSh
      rw [decide_eq_true g2] at TSp
      by_cases g3 : fltE ls = 0
      · by_cases g4 : polE l = 0
        · as_aux_lemma =>
            rw [g3] at TCf
            rw [g4] at TCp
            have HL3 := Lib.hid (pol_len g4)
            obtain ⟨hh, hhe⟩ : ∃ hh, hh = 1 + x0 % 12 := ⟨_, rfl⟩
            obtain ⟨tk, htk⟩ : ∃ tk, tk = x1 % 41 := ⟨_, rfl⟩
            have hhb : 1 ≤ hh ∧ hh ≤ 12 := by omega
            have htb : 0 ≤ tk ∧ tk ≤ 40 := by omega
            have AF := Lib.hid (avo_facts g3 g4 hhb)
            have G3 := Lib.hid g3
            have hmee : ∀ T : Int, fltE (tapL ls 0 T) = 0 → meeE (tapL ls 0 T) l hh = 0 := fun T hT => by
              have e1 : withinE hh 1 12 = 0 := by unfold withinE; rw [if_neg (by omega)]
              rw [meeE, hT, g4, e1]; rfl
            have HMEE := Lib.hid hmee
            have q0 : IntKind.i64.wrap x0 = x0 := IntWalk.i64_in _ (by omega)
            have q1 : IntKind.i64.wrap x1 = x1 := IntWalk.i64_in _ (by omega)
            have q2 : x0.tmod 12 = x0 % 12 := Int.tmod_eq_emod_of_nonneg hx0.1
            have q3 : IntKind.i64.wrap (1 + x0 % 12) = hh := by rw [← hhe]; exact IntWalk.i64_in _ (by omega)
            have q4 : x1.tmod 41 = tk := by rw [htk]; exact Int.tmod_eq_emod_of_nonneg hx1.1
            have q5 : 1 + x0 % 12 = hh := hhe.symm
            have q6 : x1 % 41 = tk := htk.symm
            clear hhe htk g3 g4 hmee
            have hl4 : ls.length ≤ 1000000 := by omega
            have hl9 : l.length ≤ 1000000 := by omega
            have HL9 := Lib.hid g2
            have TA := Lib.hid (fun (v2 u2 z : Value) W hP hQ hR => Avoid_any v2 u2 z ls 0 l [hh] W hP hl4 hQ hl9 hR (by simp))
            have TG := Lib.hid (fun W hP hBf => given1_any vf ls w.heap.size W hP hBf hl4)
            clear g1 g2
            go_wp2_with fail
            refine (TSh.out W2 hv).mono ?_
            rintro e w3 ⟨rfl, hb3⟩
            replace hB := bthen hB hb3
            replace hw := hw.carry hb3
            replace hv := hv.carry hb3
            replace hu := hu.carry hb3
            replace i1 := i1.carry hb3
            replace i2 := i2.carry hb3
            replace a0 := cellb a0 hb3
            clear hb3
            go_wp2_with fail
            refine (TSp.out w3 hu).mono ?_
            rintro e w4 ⟨rfl, rfl⟩
            go_wp2_with fail
            refine (TCf.out w3 hv).mono ?_
            rintro e w5 ⟨rfl, hb5⟩
            replace hB := bthen hB hb5
            replace hw := hw.carry hb5
            replace hv := hv.carry hb5
            replace hu := hu.carry hb5
            replace i1 := i1.carry hb5
            replace i2 := i2.carry hb5
            clear hb5 a0
            go_wp2_with fail
            refine (TCp.out w5 hu).mono ?_
            rintro e w6 ⟨rfl, hb6⟩
            replace hB := bthen hB hb6
            replace hw := hw.carry hb6
            replace hv := hv.carry hb6
            replace hu := hu.carry hb6
            replace i1 := i1.carry hb6
            replace i2 := i2.carry hb6
            have b0 := i2.cell (j := 0) (v := .int .u8 x0) rfl
            have b1 := i2.cell (j := 1) (v := .int .u8 x1) rfl
            clear hb6 TSh TSp TCf TCp
            go_upto_region 3 with fail
            refine wp_region_E 99 (by kernel_rfl) ?_
            obtain ⟨wz, hwz⟩ : ∃ v, v = w6.drew := ⟨_, rfl⟩
            rw [← hwz]
            have hlz : Below w6.heap.size w6 wz := by rw [hwz]; exact (Below.refl _ _).drew
            have hbz := bthen hB hlz
            have b0 := cellb b0 hlz
            have b1 := cellb b1 hlz
            have i1 := i1.carry hlz
            have hw := hw.carry hlz
            have hv := hv.carry hlz
            have hu := hu.carry hlz
            clear hwz hlz
            refine wpAnyE_take (i := 0) (oi := { dst := some 48, op := Op.indexAddr 26 (Operand.tmp 5) (Operand.const (Value.int IntKind.i64 0)), type := 0, pos := "top05_wt41d.go:82", after := #[], guard := none }) (v := ?_) rfl (by kernel_rfl) (by kernel_rfl) (by kernel_rfl) (by kernel_rfl) (fun _ _ _ h => h) (Or.inl ⟨by rfl, ?_⟩) ?_
            rotate_left
            · (intro w hE; have b0 := cellb b0 hE; have b1 := cellb b1 hE; (try dsimp only); go_simp); (try with_reducible rfl)
            try simp only [Act.put, List.setIfInBounds_toArray, List.set_cons_zero, List.set_cons_succ]
            refine wpAnyE_take (i := 1) (oi := { dst := some 49, op := Op.load 5 (Operand.tmp 48), type := 5, pos := "top05_wt41d.go:82", after := #[{ on := 0, ground := Ground.data }], guard := none }) (v := ?_) rfl (by kernel_rfl) (by kernel_rfl) (by kernel_rfl) (by kernel_rfl) (fun _ _ _ h => h) (Or.inl ⟨by rfl, ?_⟩) ?_
            rotate_left
            · (intro w hE; have b0 := cellb b0 hE; have b1 := cellb b1 hE; (try dsimp only); go_simp); (try with_reducible rfl)
            try simp only [Act.put, List.setIfInBounds_toArray, List.set_cons_zero, List.set_cons_succ]
            refine wpAnyE_take (i := 2) (oi := { dst := some 50, op := Op.convert 5 3 (Operand.tmp 49), type := 3, pos := "top05_wt41d.go:82", after := #[{ on := 1, ground := Ground.data }], guard := none }) (v := ?_) rfl (by kernel_rfl) (by kernel_rfl) (by kernel_rfl) (by kernel_rfl) (fun _ _ _ h => h) (Or.inl ⟨by rfl, ?_⟩) ?_
            rotate_left
            · (intro w hE; have b0 := cellb b0 hE; have b1 := cellb b1 hE; (try dsimp only); go_simp); (try with_reducible rfl)
            try simp only [Act.put, List.setIfInBounds_toArray, List.set_cons_zero, List.set_cons_succ]
            refine wpAnyE_take (i := 3) (oi := { dst := some 51, op := Op.binOp BinOp.rem 3 (Operand.tmp 50) (Operand.const (Value.int IntKind.i64 12)) 3, type := 3, pos := "top05_wt41d.go:82", after := #[{ on := 2, ground := Ground.data }], guard := none }) (v := ?_) rfl (by kernel_rfl) (by kernel_rfl) (by kernel_rfl) (by kernel_rfl) (fun _ _ _ h => h) (Or.inl ⟨by rfl, ?_⟩) ?_
            rotate_left
            · (intro w hE; have b0 := cellb b0 hE; have b1 := cellb b1 hE; (try dsimp only); go_simp); (try with_reducible rfl)
            try simp only [Act.put, List.setIfInBounds_toArray, List.set_cons_zero, List.set_cons_succ]
            refine wpAnyE_take (i := 4) (oi := { dst := some 52, op := Op.binOp BinOp.add 3 (Operand.const (Value.int IntKind.i64 1)) (Operand.tmp 51) 3, type := 3, pos := "top05_wt41d.go:82", after := #[{ on := 3, ground := Ground.data }], guard := none }) (v := ?_) rfl (by kernel_rfl) (by kernel_rfl) (by kernel_rfl) (by kernel_rfl) (fun _ _ _ h => h) (Or.inl ⟨by rfl, ?_⟩) ?_
            rotate_left
            · (intro w hE; have b0 := cellb b0 hE; have b1 := cellb b1 hE; (try dsimp only); go_simp); (try with_reducible rfl)
            try simp only [Act.put, List.setIfInBounds_toArray, List.set_cons_zero, List.set_cons_succ]
            refine wpAnyE_take (i := 5) (oi := { dst := some 53, op := Op.indexAddr 26 (Operand.tmp 5) (Operand.const (Value.int IntKind.i64 1)), type := 0, pos := "top05_wt41d.go:82", after := #[{ on := 9, ground := Ground.gcOnly Departure.lateStores }], guard := none }) (v := ?_) rfl (by kernel_rfl) (by kernel_rfl) (by kernel_rfl) (by kernel_rfl) (fun _ _ _ h => h) (Or.inl ⟨by rfl, ?_⟩) ?_
            rotate_left
            · (intro w hE; have b0 := cellb b0 hE; have b1 := cellb b1 hE; (try dsimp only); go_simp); (try with_reducible rfl)
            try simp only [Act.put, List.setIfInBounds_toArray, List.set_cons_zero, List.set_cons_succ]
            refine wpAnyE_take (i := 6) (oi := { dst := some 54, op := Op.load 5 (Operand.tmp 53), type := 5, pos := "top05_wt41d.go:82", after := #[{ on := 5, ground := Ground.data }, { on := 9, ground := Ground.gcOnly Departure.lateStores }], guard := none }) (v := ?_) rfl (by kernel_rfl) (by kernel_rfl) (by kernel_rfl) (by kernel_rfl) (fun _ _ _ h => h) (Or.inl ⟨by rfl, ?_⟩) ?_
            rotate_left
            · (intro w hE; have b0 := cellb b0 hE; have b1 := cellb b1 hE; (try dsimp only); go_simp); (try with_reducible rfl)
            try simp only [Act.put, List.setIfInBounds_toArray, List.set_cons_zero, List.set_cons_succ]
            refine wpAnyE_take (i := 7) (oi := { dst := some 55, op := Op.convert 5 3 (Operand.tmp 54), type := 3, pos := "top05_wt41d.go:82", after := #[{ on := 6, ground := Ground.data }, { on := 9, ground := Ground.gcOnly Departure.lateStores }], guard := none }) (v := ?_) rfl (by kernel_rfl) (by kernel_rfl) (by kernel_rfl) (by kernel_rfl) (fun _ _ _ h => h) (Or.inl ⟨by rfl, ?_⟩) ?_
            rotate_left
            · (intro w hE; have b0 := cellb b0 hE; have b1 := cellb b1 hE; (try dsimp only); go_simp); (try with_reducible rfl)
            try simp only [Act.put, List.setIfInBounds_toArray, List.set_cons_zero, List.set_cons_succ]
            refine wpAnyE_take (i := 8) (oi := { dst := some 56, op := Op.binOp BinOp.rem 3 (Operand.tmp 55) (Operand.const (Value.int IntKind.i64 41)) 3, type := 3, pos := "top05_wt41d.go:82", after := #[{ on := 7, ground := Ground.data }, { on := 9, ground := Ground.gcOnly Departure.lateStores }], guard := none }) (v := ?_) rfl (by kernel_rfl) (by kernel_rfl) (by kernel_rfl) (by kernel_rfl) (fun _ _ _ h => h) (Or.inl ⟨by rfl, ?_⟩) ?_
            rotate_left
            · (intro w hE; have b0 := cellb b0 hE; have b1 := cellb b1 hE; (try dsimp only); go_simp); (try with_reducible rfl)
            try simp only [Act.put, List.setIfInBounds_toArray, List.set_cons_zero, List.set_cons_succ]
            refine wpAnyE_take (i := 9) (oi := { dst := some 7, op := Op.assign (Operand.tmp 52), type := 3, pos := "top05_wt41d.go:82", after := #[{ on := 4, ground := Ground.data }, { on := 0, ground := Ground.phase }, { on := 1, ground := Ground.phase }, { on := 2, ground := Ground.phase }, { on := 3, ground := Ground.phase }, { on := 4, ground := Ground.phase }, { on := 5, ground := Ground.textOnly Departure.lateStores }, { on := 6, ground := Ground.textOnly Departure.lateStores }, { on := 7, ground := Ground.textOnly Departure.lateStores }, { on := 8, ground := Ground.textOnly Departure.lateStores }], guard := none }) (v := ?_) rfl (by kernel_rfl) (by kernel_rfl) (by kernel_rfl) (by kernel_rfl) (fun _ _ _ h => h) (Or.inl ⟨by rfl, ?_⟩) ?_
            rotate_left
            · (intro w hE; have b0 := cellb b0 hE; have b1 := cellb b1 hE; (try dsimp only); go_simp); (try with_reducible rfl)
            try simp only [Act.put, List.setIfInBounds_toArray, List.set_cons_zero, List.set_cons_succ]
            refine wpAnyE_take (i := 10) (oi := { dst := some 8, op := Op.assign (Operand.tmp 56), type := 3, pos := "top05_wt41d.go:82", after := #[{ on := 8, ground := Ground.data }, { on := 9, ground := Ground.chain }, { on := 0, ground := Ground.phase }, { on := 1, ground := Ground.phase }, { on := 2, ground := Ground.phase }, { on := 3, ground := Ground.phase }, { on := 4, ground := Ground.phase }, { on := 5, ground := Ground.phase }, { on := 6, ground := Ground.phase }, { on := 7, ground := Ground.phase }, { on := 8, ground := Ground.phase }, { on := 9, ground := Ground.phase }], guard := none }) (v := ?_) rfl (by kernel_rfl) (by kernel_rfl) (by kernel_rfl) (by kernel_rfl) (fun _ _ _ h => h) (Or.inl ⟨by rfl, ?_⟩) ?_
            rotate_left
            · (intro w hE; have b0 := cellb b0 hE; have b1 := cellb b1 hE; (try dsimp only); go_simp); (try with_reducible rfl)
            try simp only [Act.put, List.setIfInBounds_toArray, List.set_cons_zero, List.set_cons_succ]
            refine wpAnyE_done (by kernel_rfl) (fun wy1 hE => ?_) _
            have hbz1 := bthen hbz hE
            have b0 := cellb b0 hE
            have b1 := cellb b1 hE
            have i1 := i1.carry hE
            have hw := hw.carry hE
            have hv := hv.carry hE
            have hu := hu.carry hE
            clear hE
            have hB := hbz1
            obtain ⟨W7, hW7⟩ : ∃ v, v = wy1 := ⟨_, rfl⟩
            rw [← hW7] at hB i1 hw hv hu ⊢
            clear hW7
            clear b0 b1 i2 q0 q1 q2 q3 q4 q5 q6
            go_wp2_with fail
            refine (TG.out W7 hv i1).mono ?_
            rintro e w8 ⟨⟨g1, rfl, hg1⟩, hb8⟩
            replace hB := bthen hB hb8
            replace hw := hw.carry hb8
            replace hv := hv.carry hb8
            replace hu := hu.carry hb8
            replace i1 := i1.carry hb8
            clear hb8
            obtain ⟨j0, hj, hjz0, hjz1, hjz2⟩ := info_parts Tryz.infoGauss3
            have HU := Lib.hid hu
            obtain ⟨ua, uc, rfl, _, _⟩ := hu
            go_wp2_with (at_builtin; refine wpList_append_freshO rfl (.tmp 61) (.tmp 62) 25 25 63 rfl j0 _ 2 16 Tryz.undGausses hj hjz0 hjz1 hjz2 rfl w8.heap.size 0 rfl (.slice ua l.length uc) l.length _ rfl ((HU.out.carry (below_new _ _)).src Tryz.undGausses (by have := HL3.out; omega)) (by have := HL3.out; omega) (by unfold maxLen; omega) (by omega) ?_; intro u63 w9 hown9 hb9)
            have hc9 : Pairs w9 u63 l := Pairs.of_own hown9
            have hb89 := bthen (below_new w8 (.cells #[] 63)) hb9
            have k10 := below_new w9 (.cells #[.int .i64 hh] 3)
            have hb810 := bthen hb89 k10
            clear hown9 hb9
            refine (TA.out g1 u63 _ _ (hg1.carry hb810) (hc9.carry k10) (Ints.lit w9 3 [hh] 1 rfl)).mono ?_
            rintro e w10 ⟨he, hb10⟩
            have hb80 := bthen hb810 hb10
            replace hB := bthen hB hb80
            replace hw := hw.carry hb80
            replace hv := hv.carry hb80
            have hu := HU.out.carry hb80
            replace i1 := i1.carry hb80
            clear hb810 hb89 hb10 hb80 k10 hc9 hg1 HU
            have HU := Lib.hid hu
            clear hu
            rcases AF.out with ⟨ha, _⟩ | ⟨T, ha, hT, _, hTf, hTm⟩
            · rw [ha] at he
              subst he
              go_wp2_with fail
              refine (TH.out w10 hw).mono ?_
              rintro e w11 ⟨rfl, hb11⟩
              go_wp2
              go_ret
              exact ⟨rfl, bthen hB hb11⟩
            · rw [ha] at he
              subst he
              have HTF := Lib.hid hTf
              have HTM := Lib.hid hTm
              have hok : OkT tk T := ⟨htb, hT⟩
              have HOK := Lib.hid hok
              have hsb := szT_bd hok
              have hng : IntKind.i64.wrap (-T) = -T := IntWalk.i64_in _ (by omega)
              clear ha hTf hTm hok
              go_upto_region 11 with fail
              obtain ⟨W11, hW11⟩ : ∃ v, v = World.alloc w10 (Obj.cells #[.int .i64 1, .int .i64 (-8), .int .i64 8] 44) := ⟨_, rfl⟩
              have kW11 : Below w10.heap.size w10 W11 := by rw [hW11]; exact below_new _ _
              have iW11 : Blk W11 (w10.heap.size) 44 [.int .i64 1, .int .i64 (-8), .int .i64 8] := by rw [hW11]; exact Blk.new _ _ _
              have sW11 : W11.heap.size = w10.heap.size + 1 := by rw [hW11]; simp
              rw [← hW11]
              clear hW11
              have iR := iW11
              replace hB := bthen hB kW11
              replace hw := hw.carry kW11
              replace hv := hv.carry kW11
              have hu := HU.out.carry kW11
              replace i1 := i1.carry kW11
              clear HU iW11 kW11 sW11
              have HU := Lib.hid hu
              clear hu
              obtain ⟨GR, hGR⟩ : ∃ G, G = w10.heap.size := ⟨_, rfl⟩
              rw [← hGR] at iR ⊢
              clear hGR
              go_cut [13] from 83 to 86 (fun u13 wn => u13 = .int .i64 (szT T) ∧ W11 = wn)
              case first =>
                go_wp2_with fail
                all_goals
                  go_meet
                  refine ⟨?_, rfl⟩
                  congr 1
                  unfold szT
                  split <;> omega
              case rest =>
                obtain ⟨rfl, rfl⟩ := hcut
                obtain ⟨sz, hsz⟩ : ∃ sz, sz = szT T := ⟨_, rfl⟩
                rw [← hsz] at hsb ⊢
                have HSZ := Lib.hid hsz
                clear hsz hng
                have r0 := iR.cell (j := 0) (v := .int .i64 1) rfl
                have r1 := iR.cell (j := 1) (v := .int .i64 (-8)) rfl
                have r2 := iR.cell (j := 2) (v := .int .i64 8) rfl
                by_cases hbad : tk < sz
                · have TRm := Lib.hid (fun v2 W h => Ramp_bad v2 tk T W h HOK.out (by rw [← HSZ.out]; exact hbad))
                  have TRf := Lib.hid (fun v2 W h => Refused_bad v2 tk T W h HOK.out (by rw [← HSZ.out]; exact hbad))
                  go_wp2_with fail
                  have k12 := below_new W11 (.cells #[.int .i64 tk, .int .i64 T] 48)
                  refine (TRm.out _ _ (Ord1.new W11 tk T)).mono ?_
                  rintro e w12 ⟨rfl, hb12⟩
                  have hb := bthen k12 hb12
                  replace hB := bthen hB hb
                  replace hw := hw.carry hb
                  have r0 := cellb r0 hb
                  have r1 := cellb r1 hb
                  have r2 := cellb r2 hb
                  clear hb hb12 k12 iR i1 hv HU
                  go_wp2_with fail
                  have k13 := below_new w12 (.cells #[.int .i64 tk, .int .i64 T] 48)
                  refine (TRf.out _ _ (Ord1.new w12 tk T)).mono ?_
                  rintro e w13 ⟨rfl, hb13⟩
                  have hb := bthen k13 hb13
                  replace hB := bthen hB hb
                  replace hw := hw.carry hb
                  clear r0 r1 r2 hb hb13 k13
                  go_wp2_with fail
                  refine (TH.out w13 hw).mono ?_
                  rintro e w14 ⟨rfl, hb14⟩
                  go_wp2
                  go_ret
                  exact ⟨rfl, bthen hB hb14⟩
                · have hngd : ¬ tk < szT T := by rw [← HSZ.out]; exact hbad
                  have TRm := Lib.hid (fun v2 W h => Ramp_ok v2 tk T W h HOK.out hngd)
                  have TLt := Lib.hid (fun v2 W h => Latest_ok v2 tk T W h HOK.out hngd)
                  rw [← HSZ.out] at TLt
                  have RF := Lib.hid (rmp_facts HOK.out hngd)
                  clear hngd
                  go_wp2_with fail
                  have k12 := below_new W11 (.cells #[.int .i64 tk, .int .i64 T] 48)
                  refine (TRm.out _ _ (Ord1.new W11 tk T)).mono ?_
                  rintro e w12 ⟨⟨u14, rfl, h14⟩, hb12⟩
                  have hb := bthen k12 hb12
                  replace hB := bthen hB hb
                  replace hw := hw.carry hb
                  replace hv := hv.carry hb
                  have hu := HU.out.carry hb
                  replace i1 := i1.carry hb
                  have r0 := cellb r0 hb
                  have r1 := cellb r1 hb
                  have r2 := cellb r2 hb
                  clear hb hb12 k12 iR HU
                  have HU := Lib.hid hu
                  clear hu
                  go_wp2_with fail
                  have k13 := below_new w12 (.cells #[.int .i64 tk, .int .i64 T] 48)
                  refine (TLt.out _ _ (Ord1.new w12 tk T)).mono ?_
                  rintro e w13 ⟨rfl, hb13⟩
                  have hb := bthen k13 hb13
                  replace hB := bthen hB hb
                  replace hw := hw.carry hb
                  replace hv := hv.carry hb
                  have hu := HU.out.carry hb
                  replace i1 := i1.carry hb
                  have h14' := Ints.below h14 hb
                  clear r0 r1 r2 hb hb13 k13 HU h14
                  have HU := Lib.hid hu
                  have HR := Lib.hid h14'
                  clear hu
                  have hqs : IntKind.i64.wrap (tk - sz) = tk - sz := IntWalk.i64_in _ (by omega)
                  obtain ⟨ra, rc, rfl, _, hrc0⟩ := h14'
                  rw [rmpL_len] at HR hrc0 ⊢
                  obtain ⟨rb, ro, rfl, hrc⟩ := hrc0 (by omega)
                  have HRC := Lib.hid hrc
                  clear hrc0 hrc
                  obtain ⟨a, c, rest, hls, htl, hab⟩ := tapL_head G3.out (n := 0) (by omega)
                  have HV := Lib.hid hv
                  have HI1 := Lib.hid i1
                  have hvc := hv.head (by rw [hls]; simp)
                  obtain ⟨fb, fo, fc, rfl, hfc⟩ := hvc
                  have f0 := (hfc 0 (a, c) (by rw [hls]; rfl)).1
                  rw [Nat.zero_mul, Nat.add_zero] at f0
                  have p0 := i1.cell (j := 0) (v := .slice (some ⟨fb, fo, none⟩) ls.length fc) rfl
                  have hlp : (1 : Int) ≤ (ls.length : Int) := by rw [hls, List.length_cons]; omega
                  obtain ⟨NL, hNL⟩ : ∃ N, N = ls.length := ⟨_, rfl⟩
                  rw [← hNL] at p0 hlp TG HV HI1 ⊢
                  have HNL := Lib.hid hNL
                  have HLS := Lib.hid hls
                  simp only at f0
                  clear hv i1 hfc hls htl hNL
                  go_wp2_with fail
                  go_loopw [21, 155] (fun u21 i wx => ∃ k : Nat, k ≤ 50 ∧ i = .int .i64 k ∧ u21 = .int .i64 (a + (if (k : Int) = 0 then 0 else rmpV tk T ((k : Int) - 1))) ∧ Below w13.heap.size w13 wx) (fun _ i _ => 50 - (intOf i).toNat)
                  case atStart => exact ⟨0, by omega, rfl, by simp, Below.refl _ _⟩
                  case round =>
                    obtain ⟨k, hk, rfl, rfl, hbel⟩ := hrel
                    by_cases hlt : k < 50
                    · obtain ⟨n, hn⟩ : ∃ n, n = rmpV tk T (k : Int) := ⟨_, rfl⟩
                      obtain ⟨pv, hpv⟩ : ∃ pv, pv = (if (k : Int) = 0 then 0 else rmpV tk T ((k : Int) - 1)) := ⟨_, rfl⟩
                      obtain ⟨f1, f2, f3, f4⟩ := RF.out (k : Int) (by omega)
                      rw [← hn, ← hpv] at f4
                      rw [← hn] at f1 f2 f3
                      rw [← HSZ.out] at f2
                      rw [← hpv]
                      have hnb : -8 ≤ n ∧ n ≤ 8 := by omega
                      have hpb : -9 ≤ pv ∧ pv ≤ 9 := by omega
                      have hnf := tap_mid G3.out hT HTF.out f1
                      obtain ⟨tx, tz⟩ := tap_facts G3.out hnb hnf
                      obtain ⟨a2, c2, rest2, hls2, htl2, _⟩ := tapL_head G3.out hnb
                      have hac : (a2 = a ∧ c2 = c) ∧ rest2 = rest := by
                        have h9 := HLS.out
                        rw [hls2] at h9
                        simp only [List.cons.injEq, Prod.mk.injEq] at h9
                        exact h9
                      obtain ⟨⟨rfl, rfl⟩, rfl⟩ := hac
                      have hnx : a2 + (if (((k + 1 : Nat) : Int)) = 0 then 0 else rmpV tk T (((k + 1 : Nat) : Int) - 1)) = a2 + n := by
                        rw [if_neg (by omega), show (((k + 1 : Nat) : Int) - 1) = (k : Int) by omega, ← hn]
                      have HNX := Lib.hid hnx
                      have rcell := HRC.out k hlt
                      rw [show (rmpL tk T 50)[k]?.getD 0 = n by rw [hn]; unfold rmpL; rw [List.getElem?_map, List.getElem?_range hlt]; rfl] at rcell
                      have rcell := cellb rcell hbel
                      have TT := Lib.hid (fun u2 W hP => tapped_ok u2 ls (tapL ls 0 n) n W hP hl4 tx tz)
                      have hvk := HV.out.carry hbel
                      have hik := HI1.out.carry hbel
                      have htl := htl2
                      have HTL := Lib.hid htl2
                      have hdk : (k : Int) < 50 := by omega
                      have n0 : decide (n < -8) = false := by simp; omega
                      have n1 : decide (8 < n) = false := by simp; omega
                      obtain ⟨tr, htr⟩ : ∃ tr, tr = n - pv := ⟨_, rfl⟩
                      have qtr : IntKind.i64.wrap (a2 + n - (a2 + pv)) = tr := by rw [show a2 + n - (a2 + pv) = tr by omega]; exact IntWalk.i64_in _ (by omega)
                      have qtr2 : a2 + n - (a2 + pv) = tr := by omega
                      have t0 : decide (tr < -1) = false := by simp; omega
                      have t1 : decide (1 < tr) = false := by simp; omega
                      have QT := Lib.hid (And.intro qtr qtr2)
                      have T01 := Lib.hid (And.intro t0 t1)
                      have F2 := Lib.hid f2
                      have F3 := Lib.hid f3
                      have HAB := Lib.hid hab
                      have hlen2 : (tapL ls 0 n).length = NL := by rw [htl2, HNL.out, HLS.out]; rfl
                      have HLEN2 := Lib.hid hlen2
                      have HN := Lib.hid hn
                      clear f1 f2 f3 f4 hnf tx tz hls2 htl2 hnx htl qtr qtr2 t0 t1 htr hn hpv hlen2
                      go_wp2_with fail
                      refine (TG.out wr hvk hik).mono ?_
                      rintro e w15 ⟨⟨g2, rfl, hg2⟩, hb15⟩
                      replace hbel := bthen hbel hb15
                      clear rcell hvk hik hb15
                      go_wp2_with fail
                      refine (TT.out g2 w15 hg2).mono ?_
                      rintro e w16 ⟨⟨u3, rfl, hu3⟩, hb16⟩
                      replace hbel := bthen hbel hb16
                      clear hg2 hb16
                      obtain ⟨u3b, u3o, u3c, rfl, hc3⟩ := hu3.head (by rw [HLEN2.out]; omega)
                      have c30 := (hc3 0 (a2 + n, c2) (by rw [HTL.out]; rfl)).1
                      rw [Nat.zero_mul, Nat.add_zero] at c30
                      simp only at c30
                      rw [HLEN2.out] at hu3 ⊢
                      go_upto_region 26 with fail
                      obtain ⟨W17, hW17⟩ : ∃ v, v = World.alloc w16 (Obj.cells #[.slice (some ⟨u3b, u3o, none⟩) NL u3c] 34) := ⟨_, rfl⟩
                      have kW17 : Below w16.heap.size w16 W17 := by rw [hW17]; exact below_new _ _
                      have iW17 : Blk W17 (w16.heap.size) 34 [.slice (some ⟨u3b, u3o, none⟩) NL u3c] := by rw [hW17]; exact Blk.new _ _ _
                      have sW17 : W17.heap.size = w16.heap.size + 1 := by rw [hW17]; simp
                      rw [← hW17]
                      clear hW17
                      have i17 := iW17
                      replace hbel := bthen hbel kW17
                      replace hu3 := hu3.carry kW17
                      replace c30 := cellb c30 kW17
                      clear iW17 kW17 sW17 hc3
                      have HU3 := Lib.hid hu3
                      clear hu3
                      have m0 := i17.cell (j := 0) (v := .slice (some ⟨u3b, u3o, none⟩) NL u3c) rfl
                      have p1 := cellb p0 hbel
                      have hab := HAB.out
                      obtain ⟨qtr, qtr2⟩ := QT.out
                      go_upto_region 29 with fail
                      obtain ⟨t0, t1⟩ := T01.out
                      clear qtr qtr2 hab
                      by_cases c1 : (k : Int) ≤ tk - sz
                      · by_cases c2 : tk ≤ (k : Int)
                        · have z9 := F2.out c1
                          have nz : (n != 0) = false := by rw [z9]; rfl
                          clear z9
                          have e9 := F3.out c2
                          have nT : (n != T) = false := by rw [e9]; simp
                          have d9 : ¬ (k : Int) < tk := by omega
                          have hu3T : Pairs W17 (.slice (some ⟨u3b, u3o, none⟩) NL u3c) (tapL ls 0 T) := by
                            have h9 := HU3.out
                            rw [e9] at h9; exact h9
                          have TM := Lib.hid (fun u2 uC W hP hQ => meets_no u2 uC (tapL ls 0 T) l hh W hP (by rw [← e9, HLEN2.out, HNL.out]; omega) hQ hl9 (HMEE.out T HTF.out) HTM.out)
                          have hu17 := HU.out.carry hbel
                          clear e9
                          go_upto_region 33 with fail
                          clear c30 p1
                          refine wp_region_E 99 (by kernel_rfl) ?_
                          obtain ⟨wz, hwz⟩ : ∃ v, v = W17.drew := ⟨_, rfl⟩
                          rw [← hwz]
                          have hlz : Below W17.heap.size W17 wz := by rw [hwz]; exact (Below.refl _ _).drew
                          have hbz := bthen hbel hlz
                          have m0 := cellb m0 hlz
                          have hu17 := hu17.carry hlz
                          have hu3T := hu3T.carry hlz
                          clear hwz hlz
                          refine wpAnyE_take (i := 0) (oi := { dst := some 225, op := Op.load 34 (Operand.tmp 24), type := 34, pos := "top05_wt41d.go:125", after := #[], guard := none }) (v := ?_) rfl (by kernel_rfl) (by kernel_rfl) (by kernel_rfl) (by kernel_rfl) (fun _ _ _ h => h) (Or.inl ⟨by rfl, ?_⟩) ?_
                          rotate_left
                          · (intro w hE; have m0 := cellb m0 hE; (try dsimp only); go_simp); (try with_reducible rfl)
                          try simp only [Act.put, List.setIfInBounds_toArray, List.set_cons_zero, List.set_cons_succ]
                          refine wpAnyE_take (i := 2) (oi := { dst := some 227, op := Op.move (Operand.tmp 1), type := 25, pos := "top05_wt41d.go:125", after := #[], guard := none }) (v := ?_) rfl (by kernel_rfl) (by kernel_rfl) (by kernel_rfl) (by kernel_rfl) (fun _ _ _ h => h) (Or.inl ⟨by rfl, ?_⟩) ?_
                          rotate_left
                          · (intro w hE; have m0 := cellb m0 hE; (try dsimp only); go_simp); (try with_reducible rfl)
                          try simp only [Act.put, List.setIfInBounds_toArray, List.set_cons_zero, List.set_cons_succ]
                          refine wpAnyE_take (i := 4) (oi := { dst := some 229, op := Op.move (Operand.tmp 7), type := 3, pos := "top05_wt41d.go:125", after := #[], guard := none }) (v := ?_) rfl (by kernel_rfl) (by kernel_rfl) (by kernel_rfl) (by kernel_rfl) (fun _ _ _ h => h) (Or.inl ⟨by rfl, ?_⟩) ?_
                          rotate_left
                          · (intro w hE; have m0 := cellb m0 hE; (try dsimp only); go_simp); (try with_reducible rfl)
                          try simp only [Act.put, List.setIfInBounds_toArray, List.set_cons_zero, List.set_cons_succ]
                          refine wpAnyE_one (i := 1) (o := { dst := some 226, op := Op.buildSlice 25 0 #[], type := 25, pos := "top05_wt41d.go:125", after := #[], guard := none }) (by kernel_rfl) rfl (fun wy1 hE K hK => ?_)
                          have m0 := cellb m0 hE
                          have hu17 := hu17.carry hE
                          have hu3T := hu3T.carry hE
                          have hbz1 := bthen hbz hE
                          clear hE
                          go_simp
                          obtain ⟨wx1, hwz⟩ : ∃ v, v = wy1.alloc (Obj.cells #[] 63) := ⟨_, rfl⟩
                          rw [← hwz]
                          have hl : Below wy1.heap.size wy1 wx1 := by rw [hwz]; exact below_new _ _
                          have hcz1 := bthen hbz1 hl
                          obtain ⟨G1, hG1⟩ : ∃ G, G = wy1.heap.size := ⟨_, rfl⟩
                          rw [← hG1]
                          clear hG1
                          have m0 := cellb m0 hl
                          have hu17 := hu17.carry hl
                          have hu3T := hu3T.carry hl
                          clear hwz
                          refine hK _ _ (fun _ => hl) ?_
                          clear hK K hl
                          try simp only [Act.put, List.setIfInBounds_toArray, List.set_cons_zero, List.set_cons_succ]
                          refine wpAnyE_one (i := 3) (o := { dst := some 228, op := Op.call { callee := Callee.builtin Builtin.append, args := #[Operand.tmp 226, Operand.tmp 227], argTypes := #[25, 25] }, type := 25, pos := "top05_wt41d.go:125", after := #[{ on := 1, ground := Ground.data }, { on := 2, ground := Ground.data }], guard := none }) (by kernel_rfl) rfl (fun wy2 hE K hK => ?_)
                          have m0 := cellb m0 hE
                          have hu17 := hu17.carry hE
                          have hu3T := hu3T.carry hE
                          have hbz2 := bthen hcz1 hE
                          clear hE
                          refine wp_append_freshO (.tmp 226) (.tmp 227) 25 25 63 rfl j0 _ 2 16 Tryz.undGausses hj hjz0 hjz1 hjz2 rfl G1 0 rfl (.slice ua l.length uc) l.length _ rfl (hu17.src Tryz.undGausses (by have := HL3.out; omega)) (by have := HL3.out; omega) (by unfold maxLen; omega) (by omega) ?_
                          intro uC wx2 hownC hl
                          have hcC : Pairs wx2 uC l := Pairs.of_own hownC
                          clear hownC
                          have hcz2 := bthen hbz2 hl
                          have m0 := cellb m0 hl
                          have hu17 := hu17.carry hl
                          have hu3T := hu3T.carry hl
                          refine hK _ _ (fun _ => hl) ?_
                          clear hK K hl
                          try simp only [Act.put, List.setIfInBounds_toArray, List.set_cons_zero, List.set_cons_succ]
                          refine wpAnyE_call (i := 5) (oi := { dst := some 230, op := Op.call { callee := Callee.value (Operand.func 15), args := #[Operand.tmp 225, Operand.tmp 228, Operand.tmp 229], argTypes := #[34, 25, 3] }, type := 55, pos := "top05_wt41d.go:125", after := #[{ on := 0, ground := Ground.data }, { on := 3, ground := Ground.data }, { on := 4, ground := Ground.data }, { on := 3, ground := Ground.chain }], guard := none }) (fun w hE => TM.out _ uC w (hu3T.carry hE) (hcC.carry hE)) rfl (by kernel_rfl) (by kernel_rfl) (by kernel_rfl) (by kernel_rfl) (fun _ _ _ h => h) (by rfl) (fun w hE => by (try dsimp only); go_simp) ?_
                          try simp only [Act.put, List.setIfInBounds_toArray, List.set_cons_zero, List.set_cons_succ]
                          refine wpAnyE_take (i := 6) (oi := { dst := some 224, op := Op.move (Operand.tmp 230), type := 55, pos := "top05_wt41d.go:125", after := #[{ on := 5, ground := Ground.data }], guard := none }) (v := ?_) rfl (by kernel_rfl) (by kernel_rfl) (by kernel_rfl) (by kernel_rfl) (fun _ _ _ h => h) (Or.inl ⟨by rfl, ?_⟩) ?_
                          rotate_left
                          · (intro w hE; have m0 := cellb m0 hE; (try dsimp only); go_simp); (try with_reducible rfl)
                          try simp only [Act.put, List.setIfInBounds_toArray, List.set_cons_zero, List.set_cons_succ]
                          refine wpAnyE_take (i := 7) (oi := { dst := some 231, op := Op.extract (Operand.tmp 224) 0, type := 4, pos := "top05_wt41d.go:125", after := #[{ on := 6, ground := Ground.data }], guard := none }) (v := ?_) rfl (by kernel_rfl) (by kernel_rfl) (by kernel_rfl) (by kernel_rfl) (fun _ _ _ h => h) (Or.inl ⟨by rfl, ?_⟩) ?_
                          rotate_left
                          · (intro w hE; have m0 := cellb m0 hE; (try dsimp only); go_simp); (try with_reducible rfl)
                          try simp only [Act.put, List.setIfInBounds_toArray, List.set_cons_zero, List.set_cons_succ]
                          refine wpAnyE_take (i := 8) (oi := { dst := some 232, op := Op.extract (Operand.tmp 224) 1, type := 39, pos := "top05_wt41d.go:125", after := #[{ on := 6, ground := Ground.data }, { on := 9, ground := Ground.gcOnly Departure.lateStores }], guard := none }) (v := ?_) rfl (by kernel_rfl) (by kernel_rfl) (by kernel_rfl) (by kernel_rfl) (fun _ _ _ h => h) (Or.inl ⟨by rfl, ?_⟩) ?_
                          rotate_left
                          · (intro w hE; have m0 := cellb m0 hE; (try dsimp only); go_simp); (try with_reducible rfl)
                          try simp only [Act.put, List.setIfInBounds_toArray, List.set_cons_zero, List.set_cons_succ]
                          refine wpAnyE_take (i := 9) (oi := { dst := some 27, op := Op.assign (Operand.tmp 231), type := 4, pos := "top05_wt41d.go:125", after := #[{ on := 7, ground := Ground.data }, { on := 5, ground := Ground.chain }, { on := 0, ground := Ground.phase }, { on := 1, ground := Ground.phase }, { on := 2, ground := Ground.phase }, { on := 3, ground := Ground.phase }, { on := 4, ground := Ground.phase }, { on := 5, ground := Ground.phase }, { on := 6, ground := Ground.phase }, { on := 7, ground := Ground.phase }, { on := 8, ground := Ground.textOnly Departure.lateStores }], guard := none }) (v := ?_) rfl (by kernel_rfl) (by kernel_rfl) (by kernel_rfl) (by kernel_rfl) (fun _ _ _ h => h) (Or.inl ⟨by rfl, ?_⟩) ?_
                          rotate_left
                          · (intro w hE; have m0 := cellb m0 hE; (try dsimp only); go_simp); (try with_reducible rfl)
                          try simp only [Act.put, List.setIfInBounds_toArray, List.set_cons_zero, List.set_cons_succ]
                          refine wpAnyE_take (i := 10) (oi := { dst := some 28, op := Op.assign (Operand.tmp 232), type := 39, pos := "top05_wt41d.go:125", after := #[{ on := 8, ground := Ground.data }, { on := 9, ground := Ground.chain }, { on := 0, ground := Ground.phase }, { on := 1, ground := Ground.phase }, { on := 2, ground := Ground.phase }, { on := 3, ground := Ground.phase }, { on := 4, ground := Ground.phase }, { on := 5, ground := Ground.phase }, { on := 6, ground := Ground.phase }, { on := 7, ground := Ground.phase }, { on := 8, ground := Ground.phase }, { on := 9, ground := Ground.phase }], guard := none }) (v := ?_) rfl (by kernel_rfl) (by kernel_rfl) (by kernel_rfl) (by kernel_rfl) (fun _ _ _ h => h) (Or.inl ⟨by rfl, ?_⟩) ?_
                          rotate_left
                          · (intro w hE; have m0 := cellb m0 hE; (try dsimp only); go_simp); (try with_reducible rfl)
                          try simp only [Act.put, List.setIfInBounds_toArray, List.set_cons_zero, List.set_cons_succ]
                          refine wpAnyE_done (by kernel_rfl) (fun wy3 hE => ?_) _
                          have hbz3 := bthen hcz2 hE
                          have m0 := cellb m0 hE
                          have hu17 := hu17.carry hE
                          have hu3T := hu3T.carry hE
                          have hcC := hcC.carry hE
                          clear hE
                          have hB9 := hbz3
                          obtain ⟨W19, hW19⟩ : ∃ v, v = wy3 := ⟨_, rfl⟩
                          rw [← hW19] at hB9 ⊢
                          clear hW19
                          go_wp2_with fail
                          go_roundw
                          case rel => exact ⟨k + 1, by omega, by go_num, by rw [HNX.out], hB9⟩
                          case measure => simp [intOf]; omega
                        · have z9 := F2.out c1
                          have nz : (n != 0) = false := by rw [z9]; rfl
                          clear z9
                          have d9 : (k : Int) < tk := by omega
                          go_wp2_with fail
                          go_roundw
                          case rel => exact ⟨k + 1, by omega, by go_num, by rw [HNX.out], hbel⟩
                          case measure => simp [intOf]; omega
                      · by_cases c2 : tk ≤ (k : Int)
                        · have e9 := F3.out c2
                          have nT : (n != T) = false := by rw [e9]; simp
                          have d9 : ¬ (k : Int) < tk := by omega
                          have hu3T : Pairs W17 (.slice (some ⟨u3b, u3o, none⟩) NL u3c) (tapL ls 0 T) := by
                            have h9 := HU3.out
                            rw [e9] at h9; exact h9
                          have TM := Lib.hid (fun u2 uC W hP hQ => meets_no u2 uC (tapL ls 0 T) l hh W hP (by rw [← e9, HLEN2.out, HNL.out]; omega) hQ hl9 (HMEE.out T HTF.out) HTM.out)
                          have hu17 := HU.out.carry hbel
                          clear e9
                          go_upto_region 33 with fail
                          clear c30 p1
                          refine wp_region_E 99 (by kernel_rfl) ?_
                          obtain ⟨wz, hwz⟩ : ∃ v, v = W17.drew := ⟨_, rfl⟩
                          rw [← hwz]
                          have hlz : Below W17.heap.size W17 wz := by rw [hwz]; exact (Below.refl _ _).drew
                          have hbz := bthen hbel hlz
                          have m0 := cellb m0 hlz
                          have hu17 := hu17.carry hlz
                          have hu3T := hu3T.carry hlz
                          clear hwz hlz
                          refine wpAnyE_take (i := 0) (oi := { dst := some 225, op := Op.load 34 (Operand.tmp 24), type := 34, pos := "top05_wt41d.go:125", after := #[], guard := none }) (v := ?_) rfl (by kernel_rfl) (by kernel_rfl) (by kernel_rfl) (by kernel_rfl) (fun _ _ _ h => h) (Or.inl ⟨by rfl, ?_⟩) ?_
                          rotate_left
                          · (intro w hE; have m0 := cellb m0 hE; (try dsimp only); go_simp); (try with_reducible rfl)
                          try simp only [Act.put, List.setIfInBounds_toArray, List.set_cons_zero, List.set_cons_succ]
                          refine wpAnyE_take (i := 2) (oi := { dst := some 227, op := Op.move (Operand.tmp 1), type := 25, pos := "top05_wt41d.go:125", after := #[], guard := none }) (v := ?_) rfl (by kernel_rfl) (by kernel_rfl) (by kernel_rfl) (by kernel_rfl) (fun _ _ _ h => h) (Or.inl ⟨by rfl, ?_⟩) ?_
                          rotate_left
                          · (intro w hE; have m0 := cellb m0 hE; (try dsimp only); go_simp); (try with_reducible rfl)
                          try simp only [Act.put, List.setIfInBounds_toArray, List.set_cons_zero, List.set_cons_succ]
                          refine wpAnyE_take (i := 4) (oi := { dst := some 229, op := Op.move (Operand.tmp 7), type := 3, pos := "top05_wt41d.go:125", after := #[], guard := none }) (v := ?_) rfl (by kernel_rfl) (by kernel_rfl) (by kernel_rfl) (by kernel_rfl) (fun _ _ _ h => h) (Or.inl ⟨by rfl, ?_⟩) ?_
                          rotate_left
                          · (intro w hE; have m0 := cellb m0 hE; (try dsimp only); go_simp); (try with_reducible rfl)
                          try simp only [Act.put, List.setIfInBounds_toArray, List.set_cons_zero, List.set_cons_succ]
                          refine wpAnyE_one (i := 1) (o := { dst := some 226, op := Op.buildSlice 25 0 #[], type := 25, pos := "top05_wt41d.go:125", after := #[], guard := none }) (by kernel_rfl) rfl (fun wy1 hE K hK => ?_)
                          have m0 := cellb m0 hE
                          have hu17 := hu17.carry hE
                          have hu3T := hu3T.carry hE
                          have hbz1 := bthen hbz hE
                          clear hE
                          go_simp
                          obtain ⟨wx1, hwz⟩ : ∃ v, v = wy1.alloc (Obj.cells #[] 63) := ⟨_, rfl⟩
                          rw [← hwz]
                          have hl : Below wy1.heap.size wy1 wx1 := by rw [hwz]; exact below_new _ _
                          have hcz1 := bthen hbz1 hl
                          obtain ⟨G1, hG1⟩ : ∃ G, G = wy1.heap.size := ⟨_, rfl⟩
                          rw [← hG1]
                          clear hG1
                          have m0 := cellb m0 hl
                          have hu17 := hu17.carry hl
                          have hu3T := hu3T.carry hl
                          clear hwz
                          refine hK _ _ (fun _ => hl) ?_
                          clear hK K hl
                          try simp only [Act.put, List.setIfInBounds_toArray, List.set_cons_zero, List.set_cons_succ]
                          refine wpAnyE_one (i := 3) (o := { dst := some 228, op := Op.call { callee := Callee.builtin Builtin.append, args := #[Operand.tmp 226, Operand.tmp 227], argTypes := #[25, 25] }, type := 25, pos := "top05_wt41d.go:125", after := #[{ on := 1, ground := Ground.data }, { on := 2, ground := Ground.data }], guard := none }) (by kernel_rfl) rfl (fun wy2 hE K hK => ?_)
                          have m0 := cellb m0 hE
                          have hu17 := hu17.carry hE
                          have hu3T := hu3T.carry hE
                          have hbz2 := bthen hcz1 hE
                          clear hE
                          refine wp_append_freshO (.tmp 226) (.tmp 227) 25 25 63 rfl j0 _ 2 16 Tryz.undGausses hj hjz0 hjz1 hjz2 rfl G1 0 rfl (.slice ua l.length uc) l.length _ rfl (hu17.src Tryz.undGausses (by have := HL3.out; omega)) (by have := HL3.out; omega) (by unfold maxLen; omega) (by omega) ?_
                          intro uC wx2 hownC hl
                          have hcC : Pairs wx2 uC l := Pairs.of_own hownC
                          clear hownC
                          have hcz2 := bthen hbz2 hl
                          have m0 := cellb m0 hl
                          have hu17 := hu17.carry hl
                          have hu3T := hu3T.carry hl
                          refine hK _ _ (fun _ => hl) ?_
                          clear hK K hl
                          try simp only [Act.put, List.setIfInBounds_toArray, List.set_cons_zero, List.set_cons_succ]
                          refine wpAnyE_call (i := 5) (oi := { dst := some 230, op := Op.call { callee := Callee.value (Operand.func 15), args := #[Operand.tmp 225, Operand.tmp 228, Operand.tmp 229], argTypes := #[34, 25, 3] }, type := 55, pos := "top05_wt41d.go:125", after := #[{ on := 0, ground := Ground.data }, { on := 3, ground := Ground.data }, { on := 4, ground := Ground.data }, { on := 3, ground := Ground.chain }], guard := none }) (fun w hE => TM.out _ uC w (hu3T.carry hE) (hcC.carry hE)) rfl (by kernel_rfl) (by kernel_rfl) (by kernel_rfl) (by kernel_rfl) (fun _ _ _ h => h) (by rfl) (fun w hE => by (try dsimp only); go_simp) ?_
                          try simp only [Act.put, List.setIfInBounds_toArray, List.set_cons_zero, List.set_cons_succ]
                          refine wpAnyE_take (i := 6) (oi := { dst := some 224, op := Op.move (Operand.tmp 230), type := 55, pos := "top05_wt41d.go:125", after := #[{ on := 5, ground := Ground.data }], guard := none }) (v := ?_) rfl (by kernel_rfl) (by kernel_rfl) (by kernel_rfl) (by kernel_rfl) (fun _ _ _ h => h) (Or.inl ⟨by rfl, ?_⟩) ?_
                          rotate_left
                          · (intro w hE; have m0 := cellb m0 hE; (try dsimp only); go_simp); (try with_reducible rfl)
                          try simp only [Act.put, List.setIfInBounds_toArray, List.set_cons_zero, List.set_cons_succ]
                          refine wpAnyE_take (i := 7) (oi := { dst := some 231, op := Op.extract (Operand.tmp 224) 0, type := 4, pos := "top05_wt41d.go:125", after := #[{ on := 6, ground := Ground.data }], guard := none }) (v := ?_) rfl (by kernel_rfl) (by kernel_rfl) (by kernel_rfl) (by kernel_rfl) (fun _ _ _ h => h) (Or.inl ⟨by rfl, ?_⟩) ?_
                          rotate_left
                          · (intro w hE; have m0 := cellb m0 hE; (try dsimp only); go_simp); (try with_reducible rfl)
                          try simp only [Act.put, List.setIfInBounds_toArray, List.set_cons_zero, List.set_cons_succ]
                          refine wpAnyE_take (i := 8) (oi := { dst := some 232, op := Op.extract (Operand.tmp 224) 1, type := 39, pos := "top05_wt41d.go:125", after := #[{ on := 6, ground := Ground.data }, { on := 9, ground := Ground.gcOnly Departure.lateStores }], guard := none }) (v := ?_) rfl (by kernel_rfl) (by kernel_rfl) (by kernel_rfl) (by kernel_rfl) (fun _ _ _ h => h) (Or.inl ⟨by rfl, ?_⟩) ?_
                          rotate_left
                          · (intro w hE; have m0 := cellb m0 hE; (try dsimp only); go_simp); (try with_reducible rfl)
                          try simp only [Act.put, List.setIfInBounds_toArray, List.set_cons_zero, List.set_cons_succ]
                          refine wpAnyE_take (i := 9) (oi := { dst := some 27, op := Op.assign (Operand.tmp 231), type := 4, pos := "top05_wt41d.go:125", after := #[{ on := 7, ground := Ground.data }, { on := 5, ground := Ground.chain }, { on := 0, ground := Ground.phase }, { on := 1, ground := Ground.phase }, { on := 2, ground := Ground.phase }, { on := 3, ground := Ground.phase }, { on := 4, ground := Ground.phase }, { on := 5, ground := Ground.phase }, { on := 6, ground := Ground.phase }, { on := 7, ground := Ground.phase }, { on := 8, ground := Ground.textOnly Departure.lateStores }], guard := none }) (v := ?_) rfl (by kernel_rfl) (by kernel_rfl) (by kernel_rfl) (by kernel_rfl) (fun _ _ _ h => h) (Or.inl ⟨by rfl, ?_⟩) ?_
                          rotate_left
                          · (intro w hE; have m0 := cellb m0 hE; (try dsimp only); go_simp); (try with_reducible rfl)
                          try simp only [Act.put, List.setIfInBounds_toArray, List.set_cons_zero, List.set_cons_succ]
                          refine wpAnyE_take (i := 10) (oi := { dst := some 28, op := Op.assign (Operand.tmp 232), type := 39, pos := "top05_wt41d.go:125", after := #[{ on := 8, ground := Ground.data }, { on := 9, ground := Ground.chain }, { on := 0, ground := Ground.phase }, { on := 1, ground := Ground.phase }, { on := 2, ground := Ground.phase }, { on := 3, ground := Ground.phase }, { on := 4, ground := Ground.phase }, { on := 5, ground := Ground.phase }, { on := 6, ground := Ground.phase }, { on := 7, ground := Ground.phase }, { on := 8, ground := Ground.phase }, { on := 9, ground := Ground.phase }], guard := none }) (v := ?_) rfl (by kernel_rfl) (by kernel_rfl) (by kernel_rfl) (by kernel_rfl) (fun _ _ _ h => h) (Or.inl ⟨by rfl, ?_⟩) ?_
                          rotate_left
                          · (intro w hE; have m0 := cellb m0 hE; (try dsimp only); go_simp); (try with_reducible rfl)
                          try simp only [Act.put, List.setIfInBounds_toArray, List.set_cons_zero, List.set_cons_succ]
                          refine wpAnyE_done (by kernel_rfl) (fun wy3 hE => ?_) _
                          have hbz3 := bthen hcz2 hE
                          have m0 := cellb m0 hE
                          have hu17 := hu17.carry hE
                          have hu3T := hu3T.carry hE
                          have hcC := hcC.carry hE
                          clear hE
                          have hB9 := hbz3
                          obtain ⟨W19, hW19⟩ : ∃ v, v = wy3 := ⟨_, rfl⟩
                          rw [← hW19] at hB9 ⊢
                          clear hW19
                          go_wp2_with fail
                          go_roundw
                          case rel => exact ⟨k + 1, by omega, by go_num, by rw [HNX.out], hB9⟩
                          case measure => simp [intOf]; omega
                        · have d9 : (k : Int) < tk := by omega
                          go_wp2_with fail
                          go_roundw
                          case rel => exact ⟨k + 1, by omega, by go_num, by rw [HNX.out], hbel⟩
                          case measure => simp [intOf]; omega
                    · have hd5 : ¬ (k : Int) < 50 := by omega
                      have hw' := hw.carry hbel
                      go_wp2_with fail
                      refine (TH.out _ hw').mono ?_
                      rintro e w14 ⟨rfl, hb14⟩
                      go_wp2
                      go_ret
                      exact ⟨rfl, bthen (hB.trans (hbel.mono hB.size)) hb14⟩
        · obtain ⟨E, hE⟩ : ∃ E, E = polE l := ⟨_, rfl⟩
          rw [g3] at TCf
          rw [← hE] at TCp g4
          have g4' : (E != 0) = true := by rw [bne_iff_ne]; exact g4
          clear g3 g4 g1 g2 hE
          go_wp2_with fail
          refine (TSh.out W2 hv).mono ?_
          rintro e w3 ⟨rfl, hb3⟩
          replace hB := bthen hB hb3
          replace hw := hw.carry hb3
          replace hv := hv.carry hb3
          replace hu := hu.carry hb3
          replace a0 := cellb a0 hb3
          clear hb3
          go_wp2_with fail
          refine (TSp.out w3 hu).mono ?_
          rintro e w4 ⟨rfl, rfl⟩
          go_wp2_with fail
          refine (TCf.out w3 hv).mono ?_
          rintro e w5 ⟨rfl, hb5⟩
          replace hB := bthen hB hb5
          replace hw := hw.carry hb5
          replace hu := hu.carry hb5
          clear hb5 a0
          go_wp2_with fail
          refine (TCp.out w5 hu).mono ?_
          rintro e w6 ⟨rfl, hb6⟩
          replace hB := bthen hB hb6
          replace hw := hw.carry hb6
          go_wp2_with fail
          refine (TH.out w6 hw).mono ?_
          rintro e w7 ⟨rfl, hb7⟩
          go_wp2
          go_ret
          exact ⟨rfl, bthen hB hb7⟩
      · obtain ⟨E, hE⟩ : ∃ E, E = fltE ls := ⟨_, rfl⟩
        rw [← hE] at TCf g3
        have g3' : (E != 0) = true := by rw [bne_iff_ne]; exact g3
        clear g3 g1 g2 hE
        go_wp2_with fail
        refine (TSh.out W2 hv).mono ?_
        rintro e w3 ⟨rfl, hb3⟩
        replace hB := bthen hB hb3
        replace hw := hw.carry hb3
        replace hv := hv.carry hb3
        replace hu := hu.carry hb3
        replace a0 := cellb a0 hb3
        clear hb3
        go_wp2_with fail
        refine (TSp.out w3 hu).mono ?_
        rintro e w4 ⟨rfl, rfl⟩
        go_wp2_with fail
        refine (TCf.out w3 hv).mono ?_
        rintro e w5 ⟨rfl, hb5⟩
        replace hB := bthen hB hb5
        replace hw := hw.carry hb5
        clear hb5 a0
        go_wp2_with fail
        refine (TH.out w5 hw).mono ?_
        rintro e w7 ⟨rfl, hb7⟩
        go_wp2
        go_ret
        exact ⟨rfl, bthen hB hb7⟩
    · rw [decide_eq_true g1] at TSh
      rw [decide_eq_false g2] at TSp
      clear g1 g2
      go_wp2_with fail
      refine (TSh.out W2 hv).mono ?_
      rintro e w3 ⟨rfl, hb3⟩
      replace hB := bthen hB hb3
      replace hw := hw.carry hb3
      replace hu := hu.carry hb3
      clear hb3 a0
      go_wp2_with fail
      refine (TSp.out w3 hu).mono ?_
      rintro e w4 ⟨rfl, rfl⟩
      go_wp2_with fail
      refine (TH.out w3 hw).mono ?_
      rintro e w7 ⟨rfl, hb7⟩
      go_wp2
      go_ret
      exact ⟨rfl, bthen hB hb7⟩
  · rw [decide_eq_false g1] at TSh
    clear g1
    go_wp2_with fail
    refine (TSh.out W2 hv).mono ?_
    rintro e w3 ⟨rfl, hb3⟩
    replace hB := bthen hB hb3
    replace hw := hw.carry hb3
    clear hb3 a0
    go_wp2_with fail
    refine (TH.out w3 hw).mono ?_
    rintro e w7 ⟨rfl, hb7⟩
    go_wp2
    go_ret
    exact ⟨rfl, bthen hB hb7⟩
end Go.Proofs.YtpkaoechbmbolaaGreatDoor

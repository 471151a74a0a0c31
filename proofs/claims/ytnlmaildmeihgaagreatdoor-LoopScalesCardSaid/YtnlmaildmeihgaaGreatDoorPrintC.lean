/- Print: the text. -/
import Derived.Test.YtnlmaildmeihgaaGreatDoorPrintB
namespace Go.Proofs.YtnlmaildmeihgaaGreatDoor
open Go.RowKit

/-- the words of a field's line, and the line. -/
def lineW (k : Nat) (l : List Int) : List ByteArray := fldName k :: l.map word
def joinB (xs : List ByteArray) : ByteArray := ⟨(Lib.join (xs.map (·.data.toList)) [32]).toArray⟩
def lineT (k : Nat) (l : List Int) : ByteArray := joinB (lineW k l) ++ ⟨#[10]⟩
def printT : Nat → (Nat → List Int) → ByteArray
  | 0, _ => ⟨#[]⟩
  | k + 1, f => printT k f ++ lineT k (f k)

/-- the k-th polynomial of a loop. -/
def four (a b c d : List Int) : Nat → List Int
  | 0 => a | 1 => b | 2 => c | _ => d
def printR (a b c d : List Int) : ByteArray := if checkLoopE a b c d ≠ 0 then ⟨#[]⟩ else printT 4 (four a b c d)

theorem four_poly {a b c d : List Int} (h : checkLoopE a b c d = 0) {k : Nat} (hk : k < 4) : checkPolyE (four a b c d k) = 0 := by
  obtain ⟨h1, h2, h3, h4⟩ := checkLoopE_ok h
  obtain rfl | rfl | rfl | rfl : k = 0 ∨ k = 1 ∨ k = 2 ∨ k = 3 := by omega
  all_goals assumption
theorem wordsV_one (l : List Int) : ∀ u ∈ wordsV l, u.oneCell' = true := by
  intro u hu
  obtain ⟨x, _, rfl⟩ := List.mem_map.1 hu
  rfl
theorem lens_words (l : List Int) (h : ∀ x ∈ l, -100 ≤ x ∧ x ≤ 100) : Lib.lens (l.map fun x => (word x).data.toList) ≤ 21 * l.length := by
  induction l with
  | nil => simp [Lib.lens]
  | cons x l ih =>
    have h1 := word_size x (h x (by simp))
    have h2 := ih fun y hy => h y (by simp [hy])
    simp only [Lib.lens, List.map_cons, List.sum_cons, List.length_cons] at h2 ⊢
    omega
theorem line_len (k : Nat) (l : List Int) (hl : l.length ≤ 5) (h : ∀ x ∈ l, -100 ≤ x ∧ x ≤ 100) : (Lib.join ((lineW k l).map (·.data.toList)) [32]).length ≤ 200 := by
  have h1 := lens_words l h
  have h2 : (fldName k).data.toList.length ≤ 13 := by
    match k with
    | 0 => decide
    | 1 => decide
    | 2 => decide
    | _ + 3 => simp [fldName]
  have h3 := Lib.join_length (fldName k).data.toList (l.map fun x => (word x).data.toList) [32]
  have e : (lineW k l).map (·.data.toList) = (fldName k).data.toList :: (l.map fun x => (word x).data.toList) := by simp [lineW]
  rw [e, h3]
  simp only [Lib.lens, List.map_cons, List.sum_cons, List.length_map, List.length_cons, List.length_nil] at h1 ⊢
  omega

set_option maxRecDepth 100000 in
set_option maxHeartbeats 4000000 in
theorem Print_any (va vb vc vd : Value) (a b c d : List Int) (w : World) (hp : Pows w) (ha : Ints w va a) (hb : Ints w vb b) (hc : Ints w vc c) (hd : Ints w vd d)
    (ha2 : a.length ≤ 100000) (hb2 : b.length ≤ 100000) (hc2 : c.length ≤ 100000) (hd2 : d.length ≤ 100000) :
    Calls Tryz.prog 82 #[.agg #[va, vb, vc, vd]] w fun r w' => r = .returned (.tuple #[.string (printR a b c d), .int .i64 (checkLoopE a b c d)]) ∧ Below w.heap.size w w' := by
  go_enter Tryz.func82, Tryz.ntmps82
  go_wp2_with fail
  obtain ⟨W1, hW1⟩ : ∃ v, v = World.alloc w (Obj.cells #[va, vb, vc, vd] 44) := ⟨_, rfl⟩
  have kW1 : Below w.heap.size w W1 := by rw [hW1]; exact below_new _ _
  have iW1 : Blk W1 (w.heap.size) 44 [va, vb, vc, vd] := by rw [hW1]; exact Blk.new _ _ _
  have sW1 : W1.heap.size = w.heap.size + 1 := by rw [hW1]; simp
  rw [← hW1]
  clear hW1
  clear sW1
  have TC := Lib.hid (CheckLoop_any va vb vc vd a b c d _ (ha.below kW1) (hb.below kW1) (hc.below kW1) (hd.below kW1) ha2 hb2 hc2 hd2)
  refine TC.out.mono ?_
  clear TC
  rintro e w2 ⟨rfl, h2⟩
  have hB2 := bthen kW1 h2
  have l2 := iW1.carry h2
  by_cases he : checkLoopE a b c d = 0
  · have HR := Lib.hid (show printR a b c d = printT 4 (four a b c d) by rw [printR, if_neg (by rw [he]; simp)])
    have HE := Lib.hid he
    rw [he]
    clear he
    go_wp2_with fail
    refine (fields_any w2).mono ?_
    rintro e w3 ⟨m, rfl, hm, h3⟩
    have hlen := fld_lenR hm 3
    have l3 := l2.carry h3
    have hB3 := bthen hB2 h3
    have HB := Lib.hid hB3
    clear hB2 h2 h3 l2 iW1 kW1
    go_wp2_with fail
    go_loopw [6, 17] (fun s i wr => ∃ k : Nat, k ≤ 4 ∧ i = .int .i64 k ∧ s = .string (printT k (four a b c d)) ∧ (printT k (four a b c d)).size ≤ 1000 * k ∧ Below w3.heap.size w3 wr) (fun _ i _ => 4 - (intOf i).toNat)
    case atStart => exact ⟨0, by omega, rfl, rfl, by simp [printT]; rfl, Below.refl _ _⟩
    case round =>
      obtain ⟨k, hk4, rfl, rfl, hsz, hbr⟩ := hrel
      clear hlen
      by_cases hlt : k < 4
      · have hmr := map_below hm hbr
        have lr := l3.carry hbr
        have hB := bthen HB.out hbr
        have hpr := hp.below hB
        have hP := checkPolyE_range (four_poly HE.out hlt)
        have hP2 := checkPolyE_ok (four_poly HE.out hlt)
        obtain ⟨v, hv, hints⟩ : ∃ v, ([va, vb, vc, vd] : List Value)[k]? = some v ∧ Ints wr v (four a b c d k) := by
          obtain rfl | rfl | rfl | rfl : k = 0 ∨ k = 1 ∨ k = 2 ∨ k = 3 := by omega
          · exact ⟨va, rfl, ha.below hB⟩
          · exact ⟨vb, rfl, hb.below hB⟩
          · exact ⟨vc, rfl, hc.below hB⟩
          · exact ⟨vd, rfl, hd.below hB⟩
        have hcv := lr.cell hv
        have HT : printT (k + 1) (four a b c d) = printT k (four a b c d) ++ lineT k (four a b c d k) := rfl
        generalize four a b c d k = l at hP hP2 hints HT
        have HT := Lib.hid HT
        generalize hB0 : w.heap.size = B0 at hcv lr
        have HW0 := Lib.hid hB0
        clear hB0
        obtain ⟨hP, _⟩ := hP
        obtain ⟨hP1, hP2⟩ := hP2
        have hent := field_enter k hlt
        obtain ⟨i0, hi, hz0, hz1, hz2⟩ := info_parts Tryz.infoString
        clear hm l3 hv hB ha hb hc hd
        go_upto_region 9 with fail
        go_cut [8] from 18 to 39 (fun u wn => Vals wn u ((lineW k l).map Value.string) ∧ Below wr.heap.size wr wn)
        case first =>
          refine wp_region_held_drew (S := (fun w' => w'.ownsMap Tryz.prog 3 fldR m 4 fldD ∧ w'.cell? ⟨B0, k, none⟩ = some v)) (by kernel_rfl) ⟨map_below hmr (Below.refl _ _).drew, cellb hcv (Below.refl _ _).drew⟩ (fun hHeld0 => ?_)
          obtain ⟨wzd, hwz⟩ : ∃ v, v = wr.drew := ⟨_, rfl⟩
          rw [← hwz] at hHeld0 ⊢
          have hbzd : Below wr.heap.size wr wzd := by rw [hwz]; exact (Below.refl _ _).drew
          have hlzd : Below wr.heap.size wr wzd := by rw [hwz]; exact (Below.refl _ _).drew
          clear hwz hlzd
          refine wpAnyH_take (i := 0) (oi := { dst := some 20, op := Op.move (Operand.tmp 5), type := 183, pos := "ring.go:166", after := #[], guard := none }) (v := ?_) rfl (by kernel_rfl) (by kernel_rfl) (by kernel_rfl) (fun _ _ _ h => h) (Or.inl ⟨by rfl, ?_⟩) (by assumption) ?_
          rotate_left
          · (intro w hSw; (try dsimp only at hSw); go_simp); (try with_reducible rfl)
          try simp only [Act.put, List.setIfInBounds_toArray, List.set_cons_zero, List.set_cons_succ]
          refine wpAnyH_take (i := 1) (oi := { dst := some 21, op := Op.move (Operand.tmp 7), type := 3, pos := "ring.go:166", after := #[], guard := none }) (v := ?_) rfl (by kernel_rfl) (by kernel_rfl) (by kernel_rfl) (fun _ _ _ h => h) (Or.inl ⟨by rfl, ?_⟩) (by assumption) ?_
          rotate_left
          · (intro w hSw; (try dsimp only at hSw); go_simp); (try with_reducible rfl)
          try simp only [Act.put, List.setIfInBounds_toArray, List.set_cons_zero, List.set_cons_succ]
          refine wpAnyH_take (i := 2) (oi := { dst := some 22, op := Op.lookup 183 (Operand.tmp 20) (Operand.tmp 21) false, type := 187, pos := "ring.go:166", after := #[{ on := 0, ground := Ground.data }, { on := 1, ground := Ground.data }], guard := none }) (v := ?_) rfl (by kernel_rfl) (by kernel_rfl) (by kernel_rfl) (fun _ _ _ h => h) (Or.inl ⟨by rfl, ?_⟩) (by assumption) ?_
          rotate_left
          · (intro w hSw; (try dsimp only at hSw); have hl2 := fld_look hSw.1 k hlt; rw [fld_eq] at hl2; go_simp); (try with_reducible rfl)
          try simp only [Act.put, List.setIfInBounds_toArray, List.set_cons_zero, List.set_cons_succ]
          refine wpAnyH_take (i := 3) (oi := { dst := some 23, op := Op.field 187 (Operand.tmp 22) 0, type := 9, pos := "ring.go:166", after := #[{ on := 2, ground := Ground.data }], guard := none }) (v := ?_) rfl (by kernel_rfl) (by kernel_rfl) (by kernel_rfl) (fun _ _ _ h => h) (Or.inl ⟨by rfl, ?_⟩) (by assumption) ?_
          rotate_left
          · (intro w hSw; (try dsimp only at hSw); have hl2 := field_word (fldName k) (fldF k) w; go_simp); (try with_reducible rfl)
          try simp only [Act.put, List.setIfInBounds_toArray, List.set_cons_zero, List.set_cons_succ]
          refine wpAnyH_take (i := 5) (oi := { dst := some 25, op := Op.move (Operand.tmp 5), type := 183, pos := "ring.go:166", after := #[], guard := none }) (v := ?_) rfl (by kernel_rfl) (by kernel_rfl) (by kernel_rfl) (fun _ _ _ h => h) (Or.inl ⟨by rfl, ?_⟩) (by assumption) ?_
          rotate_left
          · (intro w hSw; (try dsimp only at hSw); go_simp); (try with_reducible rfl)
          try simp only [Act.put, List.setIfInBounds_toArray, List.set_cons_zero, List.set_cons_succ]
          refine wpAnyH_take (i := 6) (oi := { dst := some 26, op := Op.move (Operand.tmp 7), type := 3, pos := "ring.go:166", after := #[], guard := none }) (v := ?_) rfl (by kernel_rfl) (by kernel_rfl) (by kernel_rfl) (fun _ _ _ h => h) (Or.inl ⟨by rfl, ?_⟩) (by assumption) ?_
          rotate_left
          · (intro w hSw; (try dsimp only at hSw); go_simp); (try with_reducible rfl)
          try simp only [Act.put, List.setIfInBounds_toArray, List.set_cons_zero, List.set_cons_succ]
          refine wpAnyH_take (i := 7) (oi := { dst := some 27, op := Op.lookup 183 (Operand.tmp 25) (Operand.tmp 26) false, type := 187, pos := "ring.go:166", after := #[{ on := 5, ground := Ground.data }, { on := 6, ground := Ground.data }], guard := none }) (v := ?_) rfl (by kernel_rfl) (by kernel_rfl) (by kernel_rfl) (fun _ _ _ h => h) (Or.inl ⟨by rfl, ?_⟩) (by assumption) ?_
          rotate_left
          · (intro w hSw; (try dsimp only at hSw); have hl2 := fld_look hSw.1 k hlt; rw [fld_eq] at hl2; go_simp); (try with_reducible rfl)
          try simp only [Act.put, List.setIfInBounds_toArray, List.set_cons_zero, List.set_cons_succ]
          refine wpAnyH_take (i := 8) (oi := { dst := some 28, op := Op.field 187 (Operand.tmp 27) 1, type := 185, pos := "ring.go:166", after := #[{ on := 7, ground := Ground.data }], guard := none }) (v := ?_) rfl (by kernel_rfl) (by kernel_rfl) (by kernel_rfl) (fun _ _ _ h => h) (Or.inl ⟨by rfl, ?_⟩) (by assumption) ?_
          rotate_left
          · (intro w hSw; (try dsimp only at hSw); have hl2 := field_func (fldName k) (fldF k) w; go_simp); (try with_reducible rfl)
          try simp only [Act.put, List.setIfInBounds_toArray, List.set_cons_zero, List.set_cons_succ]
          refine wpAnyH_ready (rs := [4, 9]) (by kernel_rfl) (by simp) ?_
          refine (AllReadyH.cons (o := { dst := some 24, op := Op.buildSlice 144 1 #[(0, Operand.tmp 23)], type := 144, pos := "ring.go:166", after := #[{ on := 3, ground := Ground.data }], guard := none }) rfl (fun K hK => ?_) (AllReadyH.cons (o := { dst := some 29, op := Op.call { callee := Callee.value (Operand.tmp 28), args := #[Operand.tmp 1], argTypes := #[190] }, type := 189, pos := "ring.go:166", after := #[{ on := 8, ground := Ground.data }], guard := none }) rfl (fun K hK => ?_) AllReadyH.nil))
          · go_simp
            obtain ⟨wz4, hwz⟩ : ∃ v, v = wzd.alloc (Obj.cells #[.string (fldName k)] 9) := ⟨_, rfl⟩
            rw [← hwz]
            have hl : Below wzd.heap.size wzd wz4 := by rw [hwz]; exact below_new _ _
            have hbz4 := bthen hbzd hl
            have bs : Blk wz4 wzd.heap.size 9 [.string (fldName k)] := by rw [hwz]; exact Blk.new _ _ _
            generalize wzd.heap.size = G at bs ⊢
            clear hwz
            clear hl
            refine hK.out _ _ ⟨map_below hmr hbz4, cellb hcv hbz4⟩ (fun hHeld1 => ?_)
            clear hK K hHeld0
            try simp only [Act.put, List.setIfInBounds_toArray, List.set_cons_zero, List.set_cons_succ]
            refine wpAnyH_ready (rs := [9]) (by kernel_rfl) (by simp) ?_
            refine (AllReadyH.cons (o := { dst := some 29, op := Op.call { callee := Callee.value (Operand.tmp 28), args := #[Operand.tmp 1], argTypes := #[190] }, type := 189, pos := "ring.go:166", after := #[{ on := 8, ground := Ground.data }], guard := none }) rfl (fun K hK => ?_) AllReadyH.nil)
            go_simp
            refine (field_any k hlt B0 wz4).mono ?_
            rintro e wz9 ⟨rfl, hww⟩
            have hl : Below wz4.heap.size wz4 wz9 := by rw [hww]; exact Below.refl _ _
            clear hww
            (try go_wp2_with fail)
            have hbz9 := bthen hbz4 hl
            have bs := bs.carry hl
            clear hl
            refine hK.out _ _ ⟨map_below hmr hbz9, cellb hcv hbz9⟩ (fun hHeld2 => ?_)
            clear hK K hHeld1
            try simp only [Act.put, List.setIfInBounds_toArray, List.set_cons_zero, List.set_cons_succ]
            refine wpAnyH_take (i := 10) (oi := { dst := some 30, op := Op.nilCheck (Operand.tmp 29), type := 0, pos := "ring.go:166", after := #[{ on := 9, ground := Ground.data }], guard := none }) (v := ?_) rfl (by kernel_rfl) (by kernel_rfl) (by kernel_rfl) (fun _ _ _ h => h) (Or.inl ⟨by rfl, ?_⟩) (by assumption) ?_
            rotate_left
            · (intro w hSw; (try dsimp only at hSw); go_simp); (try with_reducible rfl)
            try simp only [Act.put, List.setIfInBounds_toArray, List.set_cons_zero, List.set_cons_succ]
            refine wpAnyH_take (i := 11) (oi := { dst := some 31, op := Op.load 26 (Operand.tmp 30), type := 26, pos := "ring.go:166", after := #[{ on := 10, ground := Ground.data }], guard := none }) (v := ?_) rfl (by kernel_rfl) (by kernel_rfl) (by kernel_rfl) (fun _ _ _ h => h) (Or.inl ⟨by rfl, ?_⟩) (by assumption) ?_
            rotate_left
            · (intro w hSw; (try dsimp only at hSw); go_simp); (try with_reducible rfl)
            try simp only [Act.put, List.setIfInBounds_toArray, List.set_cons_zero, List.set_cons_succ]
            refine wpAnyH_ready (rs := [12]) (by kernel_rfl) (by simp) ?_
            refine (AllReadyH.cons (o := { dst := some 32, op := Op.call { callee := Callee.value (Operand.func 130), args := #[Operand.tmp 31, Operand.func 131], argTypes := #[22, 191] }, type := 144, pos := "ring.go:166", after := #[{ on := 11, ground := Ground.data }, { on := 9, ground := Ground.chain }], guard := none }) rfl (fun K hK => ?_) AllReadyH.nil)
            go_simp
            refine (words_any v l wz9 (by omega) (hints.below hbz9) (hpr.below hbz9) (fun x hx => by have := hP x hx; omega)).mono ?_
            rintro e wz12 ⟨⟨u, rfl, hu⟩, hl⟩
            (try go_wp2_with fail)
            have hbz12 := bthen hbz9 hl
            have bs := bs.carry hl
            clear hl
            refine hK.out _ _ ⟨map_below hmr hbz12, cellb hcv hbz12⟩ (fun hHeld3 => ?_)
            clear hK K hHeld2
            try simp only [Act.put, List.setIfInBounds_toArray, List.set_cons_zero, List.set_cons_succ]
            refine wpAnyH_ready (rs := [13]) (by kernel_rfl) (by simp) ?_
            refine (AllReadyH.cons (o := { dst := some 33, op := Op.call { callee := Callee.builtin Builtin.append, args := #[Operand.tmp 24, Operand.tmp 32], argTypes := #[144, 144] }, type := 144, pos := "ring.go:166", after := #[{ on := 4, ground := Ground.data }, { on := 12, ground := Ground.data }, { on := 12, ground := Ground.chain }], guard := none }) rfl (fun K hK => ?_) AllReadyH.nil)
            refine wp_append_one (.tmp 24) (.tmp 32) 144 144 9 9 rfl i0 (.string ⟨#[]⟩) 16 Tryz.underlying144 Tryz.underlying144 hi hz0 hz1 hz2 (by decide) G (.string (fldName k)) rfl (bs.cell rfl) u (wordsV l) rfl hu (by rw [wordsV_length]; omega) (wordsV_one l) (by rw [wordsV_length]; omega) ?_
            intro u2 wz13 hu2 hl
            have hbz13 := bthen hbz12 hl
            have bs := bs.carry hl
            have hu := hu.carry hl
            clear hl
            refine hK.out _ _ ⟨map_below hmr hbz13, cellb hcv hbz13⟩ (fun hHeld4 => ?_)
            clear hK K hHeld3
            try simp only [Act.put, List.setIfInBounds_toArray, List.set_cons_zero, List.set_cons_succ]
            refine wpAnyH_take (i := 14) (oi := { dst := some 8, op := Op.assign (Operand.tmp 33), type := 144, pos := "ring.go:166", after := #[{ on := 13, ground := Ground.data }, { on := 13, ground := Ground.chain }, { on := 0, ground := Ground.phase }, { on := 1, ground := Ground.phase }, { on := 2, ground := Ground.phase }, { on := 3, ground := Ground.phase }, { on := 4, ground := Ground.phase }, { on := 5, ground := Ground.phase }, { on := 6, ground := Ground.phase }, { on := 7, ground := Ground.phase }, { on := 8, ground := Ground.phase }, { on := 9, ground := Ground.phase }, { on := 10, ground := Ground.phase }, { on := 11, ground := Ground.phase }, { on := 12, ground := Ground.phase }, { on := 13, ground := Ground.phase }], guard := none }) (v := ?_) rfl (by kernel_rfl) (by kernel_rfl) (by kernel_rfl) (fun _ _ _ h => h) (Or.inl ⟨by rfl, ?_⟩) (by assumption) ?_
            rotate_left
            · (intro w hSw; (try dsimp only at hSw); go_simp); (try with_reducible rfl)
            try simp only [Act.put, List.setIfInBounds_toArray, List.set_cons_zero, List.set_cons_succ]
            refine wpAnyH_done (by kernel_rfl) ?_ _
            clear hHeld4
            go_wp2_with fail
            go_meet
            exact ⟨by rw [show (lineW k l).map Value.string = .string (fldName k) :: wordsV l by simp [lineW, wordsV]]; exact hu2, hbz13⟩
          · go_simp
            refine (field_any k hlt B0 wzd).mono ?_
            rintro e wz9 ⟨rfl, hww⟩
            have hl : Below wzd.heap.size wzd wz9 := by rw [hww]; exact Below.refl _ _
            clear hww
            (try go_wp2_with fail)
            have hbz9 := bthen hbzd hl
            clear hl
            refine hK.out _ _ ⟨map_below hmr hbz9, cellb hcv hbz9⟩ (fun hHeld1 => ?_)
            clear hK K hHeld0
            try simp only [Act.put, List.setIfInBounds_toArray, List.set_cons_zero, List.set_cons_succ]
            refine wpAnyH_take (i := 10) (oi := { dst := some 30, op := Op.nilCheck (Operand.tmp 29), type := 0, pos := "ring.go:166", after := #[{ on := 9, ground := Ground.data }], guard := none }) (v := ?_) rfl (by kernel_rfl) (by kernel_rfl) (by kernel_rfl) (fun _ _ _ h => h) (Or.inl ⟨by rfl, ?_⟩) (by assumption) ?_
            rotate_left
            · (intro w hSw; (try dsimp only at hSw); go_simp); (try with_reducible rfl)
            try simp only [Act.put, List.setIfInBounds_toArray, List.set_cons_zero, List.set_cons_succ]
            refine wpAnyH_take (i := 11) (oi := { dst := some 31, op := Op.load 26 (Operand.tmp 30), type := 26, pos := "ring.go:166", after := #[{ on := 10, ground := Ground.data }], guard := none }) (v := ?_) rfl (by kernel_rfl) (by kernel_rfl) (by kernel_rfl) (fun _ _ _ h => h) (Or.inl ⟨by rfl, ?_⟩) (by assumption) ?_
            rotate_left
            · (intro w hSw; (try dsimp only at hSw); go_simp); (try with_reducible rfl)
            try simp only [Act.put, List.setIfInBounds_toArray, List.set_cons_zero, List.set_cons_succ]
            refine wpAnyH_ready (rs := [4, 12]) (by kernel_rfl) (by simp) ?_
            refine (AllReadyH.cons (o := { dst := some 24, op := Op.buildSlice 144 1 #[(0, Operand.tmp 23)], type := 144, pos := "ring.go:166", after := #[{ on := 3, ground := Ground.data }], guard := none }) rfl (fun K hK => ?_) (AllReadyH.cons (o := { dst := some 32, op := Op.call { callee := Callee.value (Operand.func 130), args := #[Operand.tmp 31, Operand.func 131], argTypes := #[22, 191] }, type := 144, pos := "ring.go:166", after := #[{ on := 11, ground := Ground.data }, { on := 9, ground := Ground.chain }], guard := none }) rfl (fun K hK => ?_) AllReadyH.nil))
            · go_simp
              obtain ⟨wz4, hwz⟩ : ∃ v, v = wz9.alloc (Obj.cells #[.string (fldName k)] 9) := ⟨_, rfl⟩
              rw [← hwz]
              have hl : Below wz9.heap.size wz9 wz4 := by rw [hwz]; exact below_new _ _
              have hbz4 := bthen hbz9 hl
              have bs : Blk wz4 wz9.heap.size 9 [.string (fldName k)] := by rw [hwz]; exact Blk.new _ _ _
              generalize wz9.heap.size = G at bs ⊢
              clear hwz
              clear hl
              refine hK.out _ _ ⟨map_below hmr hbz4, cellb hcv hbz4⟩ (fun hHeld2 => ?_)
              clear hK K hHeld1
              try simp only [Act.put, List.setIfInBounds_toArray, List.set_cons_zero, List.set_cons_succ]
              refine wpAnyH_ready (rs := [12]) (by kernel_rfl) (by simp) ?_
              refine (AllReadyH.cons (o := { dst := some 32, op := Op.call { callee := Callee.value (Operand.func 130), args := #[Operand.tmp 31, Operand.func 131], argTypes := #[22, 191] }, type := 144, pos := "ring.go:166", after := #[{ on := 11, ground := Ground.data }, { on := 9, ground := Ground.chain }], guard := none }) rfl (fun K hK => ?_) AllReadyH.nil)
              go_simp
              refine (words_any v l wz4 (by omega) (hints.below hbz4) (hpr.below hbz4) (fun x hx => by have := hP x hx; omega)).mono ?_
              rintro e wz12 ⟨⟨u, rfl, hu⟩, hl⟩
              (try go_wp2_with fail)
              have hbz12 := bthen hbz4 hl
              have bs := bs.carry hl
              clear hl
              refine hK.out _ _ ⟨map_below hmr hbz12, cellb hcv hbz12⟩ (fun hHeld3 => ?_)
              clear hK K hHeld2
              try simp only [Act.put, List.setIfInBounds_toArray, List.set_cons_zero, List.set_cons_succ]
              refine wpAnyH_ready (rs := [13]) (by kernel_rfl) (by simp) ?_
              refine (AllReadyH.cons (o := { dst := some 33, op := Op.call { callee := Callee.builtin Builtin.append, args := #[Operand.tmp 24, Operand.tmp 32], argTypes := #[144, 144] }, type := 144, pos := "ring.go:166", after := #[{ on := 4, ground := Ground.data }, { on := 12, ground := Ground.data }, { on := 12, ground := Ground.chain }], guard := none }) rfl (fun K hK => ?_) AllReadyH.nil)
              refine wp_append_one (.tmp 24) (.tmp 32) 144 144 9 9 rfl i0 (.string ⟨#[]⟩) 16 Tryz.underlying144 Tryz.underlying144 hi hz0 hz1 hz2 (by decide) G (.string (fldName k)) rfl (bs.cell rfl) u (wordsV l) rfl hu (by rw [wordsV_length]; omega) (wordsV_one l) (by rw [wordsV_length]; omega) ?_
              intro u2 wz13 hu2 hl
              have hbz13 := bthen hbz12 hl
              have bs := bs.carry hl
              have hu := hu.carry hl
              clear hl
              refine hK.out _ _ ⟨map_below hmr hbz13, cellb hcv hbz13⟩ (fun hHeld4 => ?_)
              clear hK K hHeld3
              try simp only [Act.put, List.setIfInBounds_toArray, List.set_cons_zero, List.set_cons_succ]
              refine wpAnyH_take (i := 14) (oi := { dst := some 8, op := Op.assign (Operand.tmp 33), type := 144, pos := "ring.go:166", after := #[{ on := 13, ground := Ground.data }, { on := 13, ground := Ground.chain }, { on := 0, ground := Ground.phase }, { on := 1, ground := Ground.phase }, { on := 2, ground := Ground.phase }, { on := 3, ground := Ground.phase }, { on := 4, ground := Ground.phase }, { on := 5, ground := Ground.phase }, { on := 6, ground := Ground.phase }, { on := 7, ground := Ground.phase }, { on := 8, ground := Ground.phase }, { on := 9, ground := Ground.phase }, { on := 10, ground := Ground.phase }, { on := 11, ground := Ground.phase }, { on := 12, ground := Ground.phase }, { on := 13, ground := Ground.phase }], guard := none }) (v := ?_) rfl (by kernel_rfl) (by kernel_rfl) (by kernel_rfl) (fun _ _ _ h => h) (Or.inl ⟨by rfl, ?_⟩) (by assumption) ?_
              rotate_left
              · (intro w hSw; (try dsimp only at hSw); go_simp); (try with_reducible rfl)
              try simp only [Act.put, List.setIfInBounds_toArray, List.set_cons_zero, List.set_cons_succ]
              refine wpAnyH_done (by kernel_rfl) ?_ _
              clear hHeld4
              go_wp2_with fail
              go_meet
              exact ⟨by rw [show (lineW k l).map Value.string = .string (fldName k) :: wordsV l by simp [lineW, wordsV]]; exact hu2, hbz13⟩
            · go_simp
              refine (words_any v l wz9 (by omega) (hints.below hbz9) (hpr.below hbz9) (fun x hx => by have := hP x hx; omega)).mono ?_
              rintro e wz12 ⟨⟨u, rfl, hu⟩, hl⟩
              (try go_wp2_with fail)
              have hbz12 := bthen hbz9 hl
              clear hl
              refine hK.out _ _ ⟨map_below hmr hbz12, cellb hcv hbz12⟩ (fun hHeld2 => ?_)
              clear hK K hHeld1
              try simp only [Act.put, List.setIfInBounds_toArray, List.set_cons_zero, List.set_cons_succ]
              refine wpAnyH_ready (rs := [4]) (by kernel_rfl) (by simp) ?_
              refine (AllReadyH.cons (o := { dst := some 24, op := Op.buildSlice 144 1 #[(0, Operand.tmp 23)], type := 144, pos := "ring.go:166", after := #[{ on := 3, ground := Ground.data }], guard := none }) rfl (fun K hK => ?_) AllReadyH.nil)
              go_simp
              obtain ⟨wz4, hwz⟩ : ∃ v, v = wz12.alloc (Obj.cells #[.string (fldName k)] 9) := ⟨_, rfl⟩
              rw [← hwz]
              have hl : Below wz12.heap.size wz12 wz4 := by rw [hwz]; exact below_new _ _
              have hbz4 := bthen hbz12 hl
              have bs : Blk wz4 wz12.heap.size 9 [.string (fldName k)] := by rw [hwz]; exact Blk.new _ _ _
              generalize wz12.heap.size = G at bs ⊢
              clear hwz
              have hu := hu.carry hl
              clear hl
              refine hK.out _ _ ⟨map_below hmr hbz4, cellb hcv hbz4⟩ (fun hHeld3 => ?_)
              clear hK K hHeld2
              try simp only [Act.put, List.setIfInBounds_toArray, List.set_cons_zero, List.set_cons_succ]
              refine wpAnyH_ready (rs := [13]) (by kernel_rfl) (by simp) ?_
              refine (AllReadyH.cons (o := { dst := some 33, op := Op.call { callee := Callee.builtin Builtin.append, args := #[Operand.tmp 24, Operand.tmp 32], argTypes := #[144, 144] }, type := 144, pos := "ring.go:166", after := #[{ on := 4, ground := Ground.data }, { on := 12, ground := Ground.data }, { on := 12, ground := Ground.chain }], guard := none }) rfl (fun K hK => ?_) AllReadyH.nil)
              refine wp_append_one (.tmp 24) (.tmp 32) 144 144 9 9 rfl i0 (.string ⟨#[]⟩) 16 Tryz.underlying144 Tryz.underlying144 hi hz0 hz1 hz2 (by decide) G (.string (fldName k)) rfl (bs.cell rfl) u (wordsV l) rfl hu (by rw [wordsV_length]; omega) (wordsV_one l) (by rw [wordsV_length]; omega) ?_
              intro u2 wz13 hu2 hl
              have hbz13 := bthen hbz4 hl
              have hu := hu.carry hl
              have bs := bs.carry hl
              clear hl
              refine hK.out _ _ ⟨map_below hmr hbz13, cellb hcv hbz13⟩ (fun hHeld4 => ?_)
              clear hK K hHeld3
              try simp only [Act.put, List.setIfInBounds_toArray, List.set_cons_zero, List.set_cons_succ]
              refine wpAnyH_take (i := 14) (oi := { dst := some 8, op := Op.assign (Operand.tmp 33), type := 144, pos := "ring.go:166", after := #[{ on := 13, ground := Ground.data }, { on := 13, ground := Ground.chain }, { on := 0, ground := Ground.phase }, { on := 1, ground := Ground.phase }, { on := 2, ground := Ground.phase }, { on := 3, ground := Ground.phase }, { on := 4, ground := Ground.phase }, { on := 5, ground := Ground.phase }, { on := 6, ground := Ground.phase }, { on := 7, ground := Ground.phase }, { on := 8, ground := Ground.phase }, { on := 9, ground := Ground.phase }, { on := 10, ground := Ground.phase }, { on := 11, ground := Ground.phase }, { on := 12, ground := Ground.phase }, { on := 13, ground := Ground.phase }], guard := none }) (v := ?_) rfl (by kernel_rfl) (by kernel_rfl) (by kernel_rfl) (fun _ _ _ h => h) (Or.inl ⟨by rfl, ?_⟩) (by assumption) ?_
              rotate_left
              · (intro w hSw; (try dsimp only at hSw); go_simp); (try with_reducible rfl)
              try simp only [Act.put, List.setIfInBounds_toArray, List.set_cons_zero, List.set_cons_succ]
              refine wpAnyH_done (by kernel_rfl) ?_ _
              clear hHeld4
              go_wp2_with fail
              go_meet
              exact ⟨by rw [show (lineW k l).map Value.string = .string (fldName k) :: wordsV l by simp [lineW, wordsV]]; exact hu2, hbz13⟩
        case rest =>
          obtain ⟨hu, hl⟩ := hcut
          obtain ⟨bk, o, cp, rfl, hcs⟩ := hu.head (by simp [lineW])
          have hcp : (lineW k l).length ≤ cp := by
            obtain ⟨a', cap', e1, e2, _⟩ := hu
            cases e1
            simpa using e2
          rw [List.length_map]
          have hbk : bk < wc.heap.size := lt_of_cellSome (hcs 0 (.string (fldName k)) (by simp [lineW]))
          go_wp2_with fail
          refine (Tryz.strings_Join bk o cp (lineW k l) ⟨#[32]⟩ wc (fun j x hj => hcs j _ (by simp [hj])) hbk (by simp [lineW]; omega) hcp (Nat.le_trans (line_len k l (by omega) hP) (by decide))).mono ?_
          rintro e w5 ⟨rfl, hl5⟩
          have hl9 := bthen (bthen hbr hl) hl5
          have hJ : (⟨(Lib.join ((lineW k l).map (·.data.toList)) [32]).toArray⟩ : ByteArray).size ≤ 200 := by
            have := line_len k l (by omega) hP
            show (Lib.join ((lineW k l).map (·.data.toList)) [32]).toArray.size ≤ 200
            simpa using this
          have hJ' : joinB (lineW k l) = ⟨(Lib.join ((lineW k l).map (·.data.toList)) [32]).toArray⟩ := rfl
          have HT2 : printT (k + 1) (four a b c d) = printT k (four a b c d) ++ (joinB (lineW k l) ++ ⟨#[10]⟩) := HT.out
          rw [← hJ'] at hJ ⊢
          clear hJ'
          generalize joinB (lineW k l) = J at hJ HT2 ⊢
          generalize printT k (four a b c d) = T at hsz HT2 ⊢
          have hJ2 : (J ++ (⟨#[10]⟩ : ByteArray)).size ≤ 201 := by rw [ByteArray.size_append]; show J.size + 1 ≤ 201; omega
          have HT3 := Lib.hid HT2
          clear HT2
          go_wp2
          go_roundw
          case rel => exact ⟨k + 1, by omega, by go_num, by rw [HT3.out], by rw [HT3.out, ByteArray.size_append]; omega, hl9⟩
          case measure => simp [intOf]; omega
      · obtain rfl : k = 4 := by omega
        go_wp2
        go_ret2
        exact ⟨by rw [HR.out, HE.out]; rfl, bthen HB.out hbr⟩
  · have HR := Lib.hid (show printR a b c d = ⟨#[]⟩ by rw [printR, if_pos he])
    go_wp2
    go_ret2
    exact ⟨by rw [HR.out]; rfl, hB2⟩

end Go.Proofs.YtnlmaildmeihgaaGreatDoor

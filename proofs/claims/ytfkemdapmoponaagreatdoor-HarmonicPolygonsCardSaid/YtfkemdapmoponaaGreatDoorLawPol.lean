/- The law HarmonicPolygons: the walk. (printed by gen/lawpol.py) -/
import Derived.Test.YtfkemdapmoponaaGreatDoorHqC
namespace Go.Proofs.YtfkemdapmoponaaGreatDoor
set_option linter.unusedSimpArgs false
set_option linter.unusedVariables false
open Go.RowKit

theorem firstE_nest (a b c : Int) : firstE [a, firstE [b, c]] = firstE [a, b, c] := by
  by_cases ha : a = 0 <;> by_cases hb : b = 0 <;> by_cases hc : c = 0 <;> simp [firstE, ha, hb, hc]
theorem edges_any_range (l : List (Int × Int)) (g : I4 → Bool) : (edgesL l).any g = (List.range l.length).any fun k => g (edgeK l k) := by
  rw [edgesL, upto, List.any_map]; rfl
/-- both ways to ask whether a point lies inside. -/
theorem inside_same (l : List (Int × Int)) (p : Int × Int) (h : insE l p = 0) : negB (outL l p 1) = insR l p := by
  unfold insE at h
  obtain ⟨h1, h⟩ := firstE_cons_ok h
  obtain ⟨h2, _⟩ := firstE_cons_ok h
  have hp := pointE_ok h2
  have hok : ∀ x ∈ l, PtOk x := by
    have hm : firstE (l.map pointE) = 0 := by
      unfold polE orE at h1
      by_cases c1 : polN l = 0
      · rw [if_pos c1] at h1
        by_cases c2 : firstE (l.map pointE) = 0
        · exact c2
        · rw [if_neg c2] at h1; exact h1
      · rw [if_neg c1] at h1; exact absurd h1 c1
    exact fun x hx => pointE_ok (firstE_mapOk hm x hx)
  have e1 : negB (outL l p 1) = !(edgesL l).any fun x => negB (sideE x p 1) := by
    rw [← findX_ge, outL, negB]
    by_cases c : findX (fun x => negB (sideE x p 1)) (edgesL l) < 0
    · have : ¬ 0 ≤ findX (fun x => negB (sideE x p 1)) (edgesL l) := by omega
      simp [c, this]
    · have : 0 ≤ findX (fun x => negB (sideE x p 1)) (edgesL l) := by omega
      simp [c, this]
  rw [e1, insR, edges_any_range]
  congr 1
  rw [Bool.eq_iff_iff]
  simp only [List.any_eq_true, List.mem_range]
  have key : ∀ k, k < l.length → negB (sideE (edgeK l k) p 1) = negB (crossF (l[k]?.getD (0, 0)) (l[(k + 1) % l.length]?.getD (0, 0)) (l[k]?.getD (0, 0)) p) := fun k hk => by
    have hm : (k + 1) % l.length < l.length := Nat.mod_lt _ (by omega)
    have a := hok _ (List.getElem_mem hk)
    have b := hok _ (List.getElem_mem hm)
    rw [edgeK, List.getElem?_eq_getElem hk, List.getElem?_eq_getElem hm]
    simp only [Option.getD_some]
    rw [cross_side a b hp]
  constructor
  · rintro ⟨k, hk, h⟩; exact ⟨k, hk, by rw [← key k hk]; exact h⟩
  · rintro ⟨k, hk, h⟩; exact ⟨k, hk, by rw [key k hk]; exact h⟩
theorem best_spec (l : List (Int × Int)) (d : Int × Int) : ∀ k, k < l.length → bestN l d (k + 1) ≤ k ∧ maxN (l.map (sumG d)) k = sumG d (l[bestN l d (k + 1)]?.getD (0, 0)) ∧ ∀ j, j < bestN l d (k + 1) → sumG d (l[j]?.getD (0, 0)) < sumG d (l[bestN l d (k + 1)]?.getD (0, 0)) := by
  have hg : ∀ k, k < l.length → (l.map (sumG d))[k]?.getD 0 = sumG d (l[k]?.getD (0, 0)) := fun k hk => by
    rw [List.getElem?_map, List.getElem?_eq_getElem hk]; rfl
  have hle : ∀ k, k < l.length → ∀ j, j ≤ k → sumG d (l[j]?.getD (0, 0)) ≤ maxN (l.map (sumG d)) k := by
    intro k
    induction k with
    | zero => intro hk j hj; obtain rfl : j = 0 := by omega
              rw [maxN, hg 0 hk]; exact Int.le_refl _
    | succ k ih =>
      intro hk j hj
      have h1 := ih (by omega)
      rw [maxN, hg (k + 1) hk]
      rcases Nat.lt_or_ge j (k + 1) with h | h
      · have := h1 j (by omega)
        split <;> omega
      · obtain rfl : j = k + 1 := by omega
        split <;> omega
  intro k
  induction k with
  | zero =>
    intro hk
    have : bestN l d 1 = 0 := by rw [bestN, bestN]; simp
    rw [this]
    exact ⟨Nat.le_refl _, by rw [maxN, hg 0 hk], fun j hj => by omega⟩
  | succ k ih =>
    intro hk
    obtain ⟨h1, h2, h3⟩ := ih (by omega)
    have h4 := hle k (by omega)
    rw [bestN]
    by_cases c : sumG d (l[bestN l d (k + 1)]?.getD (0, 0)) < sumG d (l[k + 1]?.getD (0, 0))
    · rw [decide_eq_true c]
      refine ⟨Nat.le_refl _, ?_, fun j hj => ?_⟩
      · rw [maxN, hg (k + 1) hk, h2, if_pos c]; rfl
      · have := h4 j (by simp at hj; omega)
        rw [h2] at this
        simp only [cond_true]
        omega
    · rw [decide_eq_false c]
      refine ⟨Nat.le_trans h1 (Nat.le_succ _), ?_, h3⟩
      rw [maxN, hg (k + 1) hk, h2, if_neg c]; rfl
/-- both ways to find the extreme corner. -/
theorem extreme_same (l : List (Int × Int)) (d : Int × Int) (h0 : 0 < l.length) : extL l d = (bestN l d l.length : Int) := by
  obtain ⟨n, hn⟩ : ∃ n, l.length = n + 1 := ⟨l.length - 1, by omega⟩
  obtain ⟨h1, h2, h3⟩ := best_spec l d n (by omega)
  rw [hn]
  have hb : bestN l d (n + 1) < l.length := by omega
  have hM : maxW (l.map (sumG d)) = sumG d (l[bestN l d (n + 1)]?.getD (0, 0)) := by
    rw [maxW, List.length_map, hn, Nat.add_sub_cancel, h2]
  rw [extL]
  refine findX_some (x := sumG d (l[bestN l d (n + 1)]'hb)) (by rw [List.getElem?_map, List.getElem?_eq_getElem hb]; rfl) ?_ (by rw [hM, List.getElem?_eq_getElem hb]; simp)
  rw [List.any_eq_false]
  intro y hy
  obtain ⟨j, hj, rfl⟩ := List.mem_take_iff_getElem.1 hy
  have hjb : j < bestN l d (n + 1) := by omega
  have hjl : j < l.length := by omega
  have := h3 j hjb
  rw [List.getElem?_eq_getElem hjl] at this
  simp only [List.getElem_map, hM, beq_iff_eq]
  simp only [Option.getD_some] at this
  omega

set_option maxRecDepth 100000 in
set_option maxHeartbeats 40000000 in
theorem pol_law (v : Value) (l : List (Int × Int)) (p0 p1 d0 d1 : Int) (w : World) (hw : Powers w) (hp : Pows w) (hv : Pairs w v l) :
    Calls Tryz.prog 4 #[v, .agg #[.int .i64 p0, .int .i64 p1], .agg #[.int .i64 d0, .int .i64 d1]] w fun e w' => e = .returned (.bool true) ∧ Below w.heap.size w w' := by
  have T0 := Lib.hid (ShortPolygonR_any v l w hv)
  obtain ⟨a, cp, rfl, _, _⟩ := id hv
  have HV := Lib.hid hv
  by_cases hlen : (l.length : Int) ≤ 9
  · have hl : l.length ≤ 1000000 := by omega
    have TI := Lib.hid (fun u W hP => Inside_any u l (p0, p1) W hP hl)
    have TX := Lib.hid (fun u W hP => Extreme_any u l (d0, d1) W hP hl)
    have TP := Lib.hid (fun W hP => points_any (.slice a l.length cp) l W hP hl)
    have TC := Lib.hid (fun u W hP => CheckPolygon_any u l W hP hl)
    have R0 := Lib.hid (fun W hP => CheckPolygonR_any (.slice a l.length cp) l W hP hl)
    have R1 := Lib.hid (fun W => CheckPointR_any (p0, p1) W)
    have R2 := Lib.hid (fun W => CheckDirectionR_any (d0, d1) W)
    have R3 := Lib.hid (fun (he : insE l (p0, p1) = 0) W hP => by
      have := InsideR_any (.slice a l.length cp) l (p0, p1) W hP hl
      rw [← inside_same l (p0, p1) he] at this
      exact this)
    have R4 := Lib.hid (fun (he : extE l (d0, d1) = 0) W hP => by
      have h3 : 3 ≤ l.length := by
        unfold extE at he
        exact (polE_zero (firstE_head he)).1
      have := ExtremeR_any (.slice a l.length cp) l (d0, d1) W hP hl (by omega)
      rw [← extreme_same l (d0, d1) (by omega)] at this
      exact this)
    have F1 := Lib.hid (fun (u : Value) (W : World) (h : Ints W u [polE l, pointE (p0, p1)]) => firstL_any u _ W (by simp) h)
    have F2 := Lib.hid (fun (u : Value) (W : World) (h : Ints W u [polE l, dirE (d0, d1)]) => firstL_any u _ W (by simp) h)
    rw [show firstE [polE l, pointE (p0, p1)] = insE l (p0, p1) from rfl] at F1
    rw [show firstE [polE l, dirE (d0, d1)] = extE l (d0, d1) by rw [dirE, firstE_nest]; rfl] at F2
    generalize negB (outL l (p0, p1) 1) = bb at TI R3
    generalize extL l (d0, d1) = xx at TX R4
    generalize insE l (p0, p1) = one at TI R3 F1
    generalize extE l (d0, d1) = two at TX R4 F2
    generalize polE l = bad at TC R0 F1 F2
    generalize pointE (p0, p1) = ep at R1 F1
    generalize dirE (d0, d1) = ed at R2 F2
    obtain ⟨bv, hbv⟩ : ∃ b, b = bOr one bb := ⟨_, rfl⟩
    obtain ⟨xv, hxv⟩ : ∃ x, x = iOr two xx := ⟨_, rfl⟩
    rw [← hbv] at TI
    rw [← hxv] at TX
    have HBV := Lib.hid hbv
    have HXV := Lib.hid hxv
    simp only at TI TX R1 R2 R3 R4
    clear hv hbv hxv
    go_enter Tryz.func4, Tryz.ntmps4
    go_upto_region 1 with fail
    obtain ⟨W1, hW1⟩ : ∃ v, v = World.alloc w (Obj.cells #[.int .i64 p0, .int .i64 p1] 48) := ⟨_, rfl⟩
    have kW1 : Below w.heap.size w W1 := by rw [hW1]; exact below_new _ _
    have iW1 : Blk W1 (w.heap.size) 48 [.int .i64 p0, .int .i64 p1] := by rw [hW1]; exact Blk.new _ _ _
    have sW1 : W1.heap.size = w.heap.size + 1 := by rw [hW1]; simp
    rw [← hW1]
    clear hW1
    obtain ⟨W2, hW2⟩ : ∃ v, v = World.alloc W1 (Obj.cells #[.int .i64 d0, .int .i64 d1] 48) := ⟨_, rfl⟩
    have kW2 : Below W1.heap.size W1 W2 := by rw [hW2]; exact below_new _ _
    have iW2 : Blk W2 (w.heap.size + 1) 48 [.int .i64 d0, .int .i64 d1] := by rw [hW2, ← sW1]; exact Blk.new _ _ _
    have sW2 : W2.heap.size = w.heap.size + 1 + 1 := by rw [hW2]; simp [sW1]
    rw [← hW2]
    clear hW2
    have hB := bthen kW1 kW2
    have ip : BlkI W2 w.heap.size 48 [p0, p1] := iW1.carry kW2
    have iq : BlkI W2 (w.heap.size + 1) 48 [d0, d1] := iW2
    have T1 := Lib.hid (ShortPolygonR_any _ l W2 (HV.out.carry hB))
    clear iW1 iW2 kW1 kW2 sW1 sW2 T0
    go_wp2_with fail
    refine T1.out.mono ?_
    rintro e w' ⟨rfl, rfl⟩
    clear T1
    have hdl : decide ((l.length : Int) ≤ 9) = true := decide_eq_true hlen
    rw [hdl]
    have hP := HV.out.carry hB
    go_upto_region 3 with fail
    refine wp_region_held_drew (S := (fun W => W.cell? ⟨w.heap.size, 0, none⟩ = some (.int .i64 p0) ∧ W.cell? ⟨w.heap.size, 1, none⟩ = some (.int .i64 p1))) (by kernel_rfl) ⟨BlkI.cell ip (j := 0) (by simp), BlkI.cell ip (j := 1) (by simp)⟩ (fun hHeld0 => ?_)
    obtain ⟨wzd, hwz⟩ : ∃ v, v = W2.drew := ⟨_, rfl⟩
    rw [← hwz] at hHeld0 ⊢
    have hbzd : Below w.heap.size w wzd := by rw [hwz]; exact hB.drew
    have hlzd : Below W2.heap.size W2 wzd := by rw [hwz]; exact (Below.refl _ _).drew
    have ip := ip.carry hlzd
    have iq := iq.carry hlzd
    have hP := hP.carry hlzd
    clear hwz hlzd
    refine wpAnyH_take (i := 0) (oi := { dst := some 21, op := Op.move (Operand.tmp 0), type := 46, pos := "law.go:237", after := #[], guard := none }) (v := ?_) rfl (by kernel_rfl) (by kernel_rfl) (by kernel_rfl) (fun _ _ _ h => h) (Or.inl ⟨by rfl, ?_⟩) (by assumption) ?_
    rotate_left
    · (intro w hSw; (try dsimp only at hSw); go_simp); (try with_reducible rfl)
    try simp only [Act.put, List.setIfInBounds_toArray, List.set_cons_zero, List.set_cons_succ]
    refine wpAnyH_take (i := 2) (oi := { dst := some 23, op := Op.load 48 (Operand.tmp 4), type := 48, pos := "law.go:237", after := #[], guard := none }) (v := ?_) rfl (by kernel_rfl) (by kernel_rfl) (by kernel_rfl) (fun _ _ _ h => h) (Or.inl ⟨by rfl, ?_⟩) (by assumption) ?_
    rotate_left
    · (intro w hSw; (try dsimp only at hSw); go_simp); (try with_reducible rfl)
    try simp only [Act.put, List.setIfInBounds_toArray, List.set_cons_zero, List.set_cons_succ]
    refine wpAnyH_ready (rs := [1]) (by kernel_rfl) (by simp) ?_
    refine (AllReadyH.cons (o := { dst := some 22, op := Op.call { callee := Callee.value (Operand.func 22), args := #[Operand.tmp 21], argTypes := #[46] }, type := 46, pos := "law.go:237", after := #[{ on := 0, ground := Ground.data }], guard := none }) rfl (fun K hK => ?_) AllReadyH.nil)
    go_simp
    refine (TP.out wzd hP).mono ?_
    rintro e wz1 ⟨⟨u, rfl, hu⟩, hl2⟩
    have hl := hl2
    clear hl2
    (try go_wp2_with fail)
    have hbz1 := bthen hbzd hl
    have ip := ip.carry hl
    have iq := iq.carry hl
    have hP := hP.carry hl
    clear hl
    refine hK.out _ _ ⟨BlkI.cell ip (j := 0) (by simp), BlkI.cell ip (j := 1) (by simp)⟩ (fun hHeld1 => ?_)
    clear hK K hHeld0
    try simp only [Act.put, List.setIfInBounds_toArray, List.set_cons_zero, List.set_cons_succ]
    refine wpAnyH_ready (rs := [3]) (by kernel_rfl) (by simp) ?_
    refine (AllReadyH.cons (o := { dst := some 24, op := Op.call { callee := Callee.value (Operand.func 21), args := #[Operand.tmp 22, Operand.tmp 23], argTypes := #[46, 48] }, type := 50, pos := "law.go:237", after := #[{ on := 1, ground := Ground.data }, { on := 2, ground := Ground.data }, { on := 1, ground := Ground.chain }], guard := none }) rfl (fun K hK => ?_) AllReadyH.nil)
    go_simp
    refine (TI.out u wz1 hu).mono ?_
    rintro e wz3 ⟨rfl, hl⟩
    (try go_wp2_with fail)
    have hbz3 := bthen hbz1 hl
    have ip := ip.carry hl
    have iq := iq.carry hl
    have hP := hP.carry hl
    have hu := hu.carry hl
    clear hl
    refine hK.out _ _ ⟨BlkI.cell ip (j := 0) (by simp), BlkI.cell ip (j := 1) (by simp)⟩ (fun hHeld2 => ?_)
    clear hK K hHeld1
    try simp only [Act.put, List.setIfInBounds_toArray, List.set_cons_zero, List.set_cons_succ]
    refine wpAnyH_take (i := 4) (oi := { dst := some 20, op := Op.move (Operand.tmp 24), type := 50, pos := "law.go:237", after := #[{ on := 3, ground := Ground.data }], guard := none }) (v := ?_) rfl (by kernel_rfl) (by kernel_rfl) (by kernel_rfl) (fun _ _ _ h => h) (Or.inl ⟨by rfl, ?_⟩) (by assumption) ?_
    rotate_left
    · (intro w hSw; (try dsimp only at hSw); go_simp); (try with_reducible rfl)
    try simp only [Act.put, List.setIfInBounds_toArray, List.set_cons_zero, List.set_cons_succ]
    refine wpAnyH_take (i := 5) (oi := { dst := some 25, op := Op.extract (Operand.tmp 20) 0, type := 4, pos := "law.go:237", after := #[{ on := 4, ground := Ground.data }], guard := none }) (v := ?_) rfl (by kernel_rfl) (by kernel_rfl) (by kernel_rfl) (fun _ _ _ h => h) (Or.inl ⟨by rfl, ?_⟩) (by assumption) ?_
    rotate_left
    · (intro w hSw; (try dsimp only at hSw); go_simp); (try with_reducible rfl)
    try simp only [Act.put, List.setIfInBounds_toArray, List.set_cons_zero, List.set_cons_succ]
    refine wpAnyH_take (i := 6) (oi := { dst := some 26, op := Op.extract (Operand.tmp 20) 1, type := 27, pos := "law.go:237", after := #[{ on := 4, ground := Ground.data }, { on := 7, ground := Ground.gcOnly Departure.lateStores }], guard := none }) (v := ?_) rfl (by kernel_rfl) (by kernel_rfl) (by kernel_rfl) (fun _ _ _ h => h) (Or.inl ⟨by rfl, ?_⟩) (by assumption) ?_
    rotate_left
    · (intro w hSw; (try dsimp only at hSw); go_simp); (try with_reducible rfl)
    try simp only [Act.put, List.setIfInBounds_toArray, List.set_cons_zero, List.set_cons_succ]
    refine wpAnyH_take (i := 7) (oi := { dst := some 7, op := Op.assign (Operand.tmp 25), type := 4, pos := "law.go:237", after := #[{ on := 5, ground := Ground.data }, { on := 3, ground := Ground.chain }, { on := 0, ground := Ground.phase }, { on := 1, ground := Ground.phase }, { on := 2, ground := Ground.phase }, { on := 3, ground := Ground.phase }, { on := 4, ground := Ground.phase }, { on := 5, ground := Ground.phase }, { on := 6, ground := Ground.textOnly Departure.lateStores }], guard := none }) (v := ?_) rfl (by kernel_rfl) (by kernel_rfl) (by kernel_rfl) (fun _ _ _ h => h) (Or.inl ⟨by rfl, ?_⟩) (by assumption) ?_
    rotate_left
    · (intro w hSw; (try dsimp only at hSw); go_simp); (try with_reducible rfl)
    try simp only [Act.put, List.setIfInBounds_toArray, List.set_cons_zero, List.set_cons_succ]
    refine wpAnyH_take (i := 8) (oi := { dst := some 8, op := Op.assign (Operand.tmp 26), type := 27, pos := "law.go:237", after := #[{ on := 6, ground := Ground.data }, { on := 7, ground := Ground.chain }, { on := 0, ground := Ground.phase }, { on := 1, ground := Ground.phase }, { on := 2, ground := Ground.phase }, { on := 3, ground := Ground.phase }, { on := 4, ground := Ground.phase }, { on := 5, ground := Ground.phase }, { on := 6, ground := Ground.phase }, { on := 7, ground := Ground.phase }], guard := none }) (v := ?_) rfl (by kernel_rfl) (by kernel_rfl) (by kernel_rfl) (fun _ _ _ h => h) (Or.inl ⟨by rfl, ?_⟩) (by assumption) ?_
    rotate_left
    · (intro w hSw; (try dsimp only at hSw); go_simp); (try with_reducible rfl)
    try simp only [Act.put, List.setIfInBounds_toArray, List.set_cons_zero, List.set_cons_succ]
    refine wpAnyH_done (by kernel_rfl) ?_ _
    clear hHeld2
    have hB := hbz3
    obtain ⟨W3, hW3⟩ : ∃ v, v = wz3 := ⟨_, rfl⟩
    rw [← hW3] at hB ip iq hP ⊢
    clear hW3 hu
    go_upto_region 4 with fail
    refine wp_region_held_drew (S := (fun W => W.cell? ⟨w.heap.size + 1, 0, none⟩ = some (.int .i64 d0) ∧ W.cell? ⟨w.heap.size + 1, 1, none⟩ = some (.int .i64 d1))) (by kernel_rfl) ⟨BlkI.cell iq (j := 0) (by simp), BlkI.cell iq (j := 1) (by simp)⟩ (fun hHeld0 => ?_)
    obtain ⟨wzd, hwz⟩ : ∃ v, v = W3.drew := ⟨_, rfl⟩
    rw [← hwz] at hHeld0 ⊢
    have hbzd : Below w.heap.size w wzd := by rw [hwz]; exact hB.drew
    have hlzd : Below W3.heap.size W3 wzd := by rw [hwz]; exact (Below.refl _ _).drew
    have ip := ip.carry hlzd
    have iq := iq.carry hlzd
    have hP := hP.carry hlzd
    clear hwz hlzd
    refine wpAnyH_take (i := 0) (oi := { dst := some 28, op := Op.move (Operand.tmp 0), type := 46, pos := "law.go:238", after := #[], guard := none }) (v := ?_) rfl (by kernel_rfl) (by kernel_rfl) (by kernel_rfl) (fun _ _ _ h => h) (Or.inl ⟨by rfl, ?_⟩) (by assumption) ?_
    rotate_left
    · (intro w hSw; (try dsimp only at hSw); go_simp); (try with_reducible rfl)
    try simp only [Act.put, List.setIfInBounds_toArray, List.set_cons_zero, List.set_cons_succ]
    refine wpAnyH_take (i := 2) (oi := { dst := some 30, op := Op.load 48 (Operand.tmp 5), type := 48, pos := "law.go:238", after := #[], guard := none }) (v := ?_) rfl (by kernel_rfl) (by kernel_rfl) (by kernel_rfl) (fun _ _ _ h => h) (Or.inl ⟨by rfl, ?_⟩) (by assumption) ?_
    rotate_left
    · (intro w hSw; (try dsimp only at hSw); go_simp); (try with_reducible rfl)
    try simp only [Act.put, List.setIfInBounds_toArray, List.set_cons_zero, List.set_cons_succ]
    refine wpAnyH_ready (rs := [1]) (by kernel_rfl) (by simp) ?_
    refine (AllReadyH.cons (o := { dst := some 29, op := Op.call { callee := Callee.value (Operand.func 22), args := #[Operand.tmp 28], argTypes := #[46] }, type := 46, pos := "law.go:238", after := #[{ on := 0, ground := Ground.data }], guard := none }) rfl (fun K hK => ?_) AllReadyH.nil)
    go_simp
    refine (TP.out wzd hP).mono ?_
    rintro e wz1 ⟨⟨u2, rfl, hu⟩, hl2⟩
    have hl := hl2
    clear hl2
    (try go_wp2_with fail)
    have hbz1 := bthen hbzd hl
    have ip := ip.carry hl
    have iq := iq.carry hl
    have hP := hP.carry hl
    clear hl
    refine hK.out _ _ ⟨BlkI.cell iq (j := 0) (by simp), BlkI.cell iq (j := 1) (by simp)⟩ (fun hHeld1 => ?_)
    clear hK K hHeld0
    try simp only [Act.put, List.setIfInBounds_toArray, List.set_cons_zero, List.set_cons_succ]
    refine wpAnyH_ready (rs := [3]) (by kernel_rfl) (by simp) ?_
    refine (AllReadyH.cons (o := { dst := some 31, op := Op.call { callee := Callee.value (Operand.func 23), args := #[Operand.tmp 29, Operand.tmp 30], argTypes := #[46, 48] }, type := 35, pos := "law.go:238", after := #[{ on := 1, ground := Ground.data }, { on := 2, ground := Ground.data }, { on := 1, ground := Ground.chain }], guard := none }) rfl (fun K hK => ?_) AllReadyH.nil)
    go_simp
    refine (TX.out u2 wz1 hu).mono ?_
    rintro e wz3 ⟨rfl, hl⟩
    (try go_wp2_with fail)
    have hbz3 := bthen hbz1 hl
    have ip := ip.carry hl
    have iq := iq.carry hl
    have hP := hP.carry hl
    have hu := hu.carry hl
    clear hl
    refine hK.out _ _ ⟨BlkI.cell iq (j := 0) (by simp), BlkI.cell iq (j := 1) (by simp)⟩ (fun hHeld2 => ?_)
    clear hK K hHeld1
    try simp only [Act.put, List.setIfInBounds_toArray, List.set_cons_zero, List.set_cons_succ]
    refine wpAnyH_take (i := 4) (oi := { dst := some 27, op := Op.move (Operand.tmp 31), type := 35, pos := "law.go:238", after := #[{ on := 3, ground := Ground.data }], guard := none }) (v := ?_) rfl (by kernel_rfl) (by kernel_rfl) (by kernel_rfl) (fun _ _ _ h => h) (Or.inl ⟨by rfl, ?_⟩) (by assumption) ?_
    rotate_left
    · (intro w hSw; (try dsimp only at hSw); go_simp); (try with_reducible rfl)
    try simp only [Act.put, List.setIfInBounds_toArray, List.set_cons_zero, List.set_cons_succ]
    refine wpAnyH_take (i := 5) (oi := { dst := some 32, op := Op.extract (Operand.tmp 27) 0, type := 3, pos := "law.go:238", after := #[{ on := 4, ground := Ground.data }], guard := none }) (v := ?_) rfl (by kernel_rfl) (by kernel_rfl) (by kernel_rfl) (fun _ _ _ h => h) (Or.inl ⟨by rfl, ?_⟩) (by assumption) ?_
    rotate_left
    · (intro w hSw; (try dsimp only at hSw); go_simp); (try with_reducible rfl)
    try simp only [Act.put, List.setIfInBounds_toArray, List.set_cons_zero, List.set_cons_succ]
    refine wpAnyH_take (i := 6) (oi := { dst := some 33, op := Op.extract (Operand.tmp 27) 1, type := 27, pos := "law.go:238", after := #[{ on := 4, ground := Ground.data }, { on := 7, ground := Ground.gcOnly Departure.lateStores }], guard := none }) (v := ?_) rfl (by kernel_rfl) (by kernel_rfl) (by kernel_rfl) (fun _ _ _ h => h) (Or.inl ⟨by rfl, ?_⟩) (by assumption) ?_
    rotate_left
    · (intro w hSw; (try dsimp only at hSw); go_simp); (try with_reducible rfl)
    try simp only [Act.put, List.setIfInBounds_toArray, List.set_cons_zero, List.set_cons_succ]
    refine wpAnyH_take (i := 7) (oi := { dst := some 9, op := Op.assign (Operand.tmp 32), type := 3, pos := "law.go:238", after := #[{ on := 5, ground := Ground.data }, { on := 3, ground := Ground.chain }, { on := 0, ground := Ground.phase }, { on := 1, ground := Ground.phase }, { on := 2, ground := Ground.phase }, { on := 3, ground := Ground.phase }, { on := 4, ground := Ground.phase }, { on := 5, ground := Ground.phase }, { on := 6, ground := Ground.textOnly Departure.lateStores }], guard := none }) (v := ?_) rfl (by kernel_rfl) (by kernel_rfl) (by kernel_rfl) (fun _ _ _ h => h) (Or.inl ⟨by rfl, ?_⟩) (by assumption) ?_
    rotate_left
    · (intro w hSw; (try dsimp only at hSw); go_simp); (try with_reducible rfl)
    try simp only [Act.put, List.setIfInBounds_toArray, List.set_cons_zero, List.set_cons_succ]
    refine wpAnyH_take (i := 8) (oi := { dst := some 10, op := Op.assign (Operand.tmp 33), type := 27, pos := "law.go:238", after := #[{ on := 6, ground := Ground.data }, { on := 7, ground := Ground.chain }, { on := 0, ground := Ground.phase }, { on := 1, ground := Ground.phase }, { on := 2, ground := Ground.phase }, { on := 3, ground := Ground.phase }, { on := 4, ground := Ground.phase }, { on := 5, ground := Ground.phase }, { on := 6, ground := Ground.phase }, { on := 7, ground := Ground.phase }], guard := none }) (v := ?_) rfl (by kernel_rfl) (by kernel_rfl) (by kernel_rfl) (fun _ _ _ h => h) (Or.inl ⟨by rfl, ?_⟩) (by assumption) ?_
    rotate_left
    · (intro w hSw; (try dsimp only at hSw); go_simp); (try with_reducible rfl)
    try simp only [Act.put, List.setIfInBounds_toArray, List.set_cons_zero, List.set_cons_succ]
    refine wpAnyH_done (by kernel_rfl) ?_ _
    clear hHeld2
    have hB := hbz3
    obtain ⟨W4, hW4⟩ : ∃ v, v = wz3 := ⟨_, rfl⟩
    rw [← hW4] at hB ip iq hP ⊢
    clear hW4 hu
    go_wp2_with fail
    refine (R0.out W4 hP).mono ?_
    rintro e W5 ⟨rfl, hb⟩
    replace ip := ip.carry hb
    replace iq := iq.carry hb
    replace hP := hP.carry hb
    replace hB := bthen hB hb
    clear hb
    have q0 : W5.cell? ⟨w.heap.size, 0, none⟩ = some (.int .i64 p0) := BlkI.cell ip (j := 0) (by simp)
    have q1 : W5.cell? ⟨w.heap.size, 1, none⟩ = some (.int .i64 p1) := BlkI.cell ip (j := 1) (by simp)
    have r0 : W5.cell? ⟨w.heap.size + 1, 0, none⟩ = some (.int .i64 d0) := BlkI.cell iq (j := 0) (by simp)
    have r1 : W5.cell? ⟨w.heap.size + 1, 1, none⟩ = some (.int .i64 d1) := BlkI.cell iq (j := 1) (by simp)
    go_upto_region 6 with fail
    refine wp_region_E 99 (by kernel_rfl) ?_
    obtain ⟨wz, hwz⟩ : ∃ v, v = W5.drew := ⟨_, rfl⟩
    rw [← hwz]
    have hlz : Below W5.heap.size W5 wz := by rw [hwz]; exact (Below.refl _ _).drew
    have hbz := bthen hB hlz
    have q0 := cellb q0 hlz
    have q1 := cellb q1 hlz
    have r0 := cellb r0 hlz
    have r1 := cellb r1 hlz
    have hP := hP.carry hlz
    clear hwz hlz
    refine wpAnyE_take (i := 0) (oi := { dst := some 36, op := Op.move (Operand.tmp 11), type := 3, pos := "law.go:240", after := #[], guard := none }) (v := ?_) rfl (by kernel_rfl) (by kernel_rfl) (by kernel_rfl) (by kernel_rfl) (fun _ _ _ h => h) (Or.inl ⟨by rfl, ?_⟩) ?_
    rotate_left
    · (intro w hE; have q0 := cellb q0 hE; have q1 := cellb q1 hE; have r0 := cellb r0 hE; have r1 := cellb r1 hE; (try dsimp only); go_simp); (try with_reducible rfl)
    try simp only [Act.put, List.setIfInBounds_toArray, List.set_cons_zero, List.set_cons_succ]
    refine wpAnyE_take (i := 1) (oi := { dst := some 37, op := Op.load 48 (Operand.tmp 4), type := 48, pos := "law.go:240", after := #[], guard := none }) (v := ?_) rfl (by kernel_rfl) (by kernel_rfl) (by kernel_rfl) (by kernel_rfl) (fun _ _ _ h => h) (Or.inl ⟨by rfl, ?_⟩) ?_
    rotate_left
    · (intro w hE; have q0 := cellb q0 hE; have q1 := cellb q1 hE; have r0 := cellb r0 hE; have r1 := cellb r1 hE; (try dsimp only); go_simp); (try with_reducible rfl)
    try simp only [Act.put, List.setIfInBounds_toArray, List.set_cons_zero, List.set_cons_succ]
    refine wpAnyE_take (i := 5) (oi := { dst := some 41, op := Op.move (Operand.tmp 11), type := 3, pos := "law.go:240", after := #[], guard := none }) (v := ?_) rfl (by kernel_rfl) (by kernel_rfl) (by kernel_rfl) (by kernel_rfl) (fun _ _ _ h => h) (Or.inl ⟨by rfl, ?_⟩) ?_
    rotate_left
    · (intro w hE; have q0 := cellb q0 hE; have q1 := cellb q1 hE; have r0 := cellb r0 hE; have r1 := cellb r1 hE; (try dsimp only); go_simp); (try with_reducible rfl)
    try simp only [Act.put, List.setIfInBounds_toArray, List.set_cons_zero, List.set_cons_succ]
    refine wpAnyE_take (i := 6) (oi := { dst := some 42, op := Op.load 48 (Operand.tmp 5), type := 48, pos := "law.go:240", after := #[], guard := none }) (v := ?_) rfl (by kernel_rfl) (by kernel_rfl) (by kernel_rfl) (by kernel_rfl) (fun _ _ _ h => h) (Or.inl ⟨by rfl, ?_⟩) ?_
    rotate_left
    · (intro w hE; have q0 := cellb q0 hE; have q1 := cellb q1 hE; have r0 := cellb r0 hE; have r1 := cellb r1 hE; (try dsimp only); go_simp); (try with_reducible rfl)
    try simp only [Act.put, List.setIfInBounds_toArray, List.set_cons_zero, List.set_cons_succ]
    refine wpAnyE_call (i := 2) (oi := { dst := some 38, op := Op.call { callee := Callee.value (Operand.func 25), args := #[Operand.tmp 37], argTypes := #[48] }, type := 3, pos := "law.go:240", after := #[{ on := 1, ground := Ground.data }], guard := none }) (fun w hE => R1.out w) rfl (by kernel_rfl) (by kernel_rfl) (by kernel_rfl) (by kernel_rfl) (fun _ _ _ h => h) (by rfl) (fun w hE => by (try dsimp only); go_simp) ?_
    try simp only [Act.put, List.setIfInBounds_toArray, List.set_cons_zero, List.set_cons_succ]
    refine wpAnyE_one (i := 3) (o := { dst := some 39, op := Op.buildSlice 72 2 #[(0, Operand.tmp 36), (1, Operand.tmp 38)], type := 72, pos := "law.go:240", after := #[{ on := 0, ground := Ground.data }, { on := 2, ground := Ground.data }], guard := none }) (by kernel_rfl) rfl (fun wy1 hE K hK => ?_)
    have q0 := cellb q0 hE
    have q1 := cellb q1 hE
    have r0 := cellb r0 hE
    have r1 := cellb r1 hE
    have hP := hP.carry hE
    have hbz1 := bthen hbz hE
    clear hE
    go_simp
    obtain ⟨wx1, hwz⟩ : ∃ v, v = wy1.alloc (Obj.cells #[.int .i64 bad, .int .i64 ep] 3) := ⟨_, rfl⟩
    rw [← hwz]
    have hl : Below wy1.heap.size wy1 wx1 := by rw [hwz]; exact below_new _ _
    have hcz1 := bthen hbz1 hl
    have iN : BlkI wx1 wy1.heap.size 3 [bad, ep] := by rw [hwz]; exact Blk.new _ _ _
    generalize wy1.heap.size = G1 at iN ⊢
    have q0 := cellb q0 hl
    have q1 := cellb q1 hl
    have r0 := cellb r0 hl
    have r1 := cellb r1 hl
    have hP := hP.carry hl
    clear hwz
    refine hK _ _ (fun _ => hl) ?_
    clear hK K hl
    try simp only [Act.put, List.setIfInBounds_toArray, List.set_cons_zero, List.set_cons_succ]
    refine wpAnyE_call (i := 4) (oi := { dst := some 40, op := Op.call { callee := Callee.value (Operand.func 12), args := #[Operand.tmp 39], argTypes := #[72] }, type := 3, pos := "law.go:240", after := #[{ on := 3, ground := Ground.data }, { on := 2, ground := Ground.chain }], guard := none }) (fun w hE => ofPure (F1.out _ w (BlkI.ints (l := [bad, ep]) (iN.carry hE) rfl))) rfl (by kernel_rfl) (by kernel_rfl) (by kernel_rfl) (by kernel_rfl) (fun _ _ _ h => h) (by rfl) (fun w hE => by (try dsimp only); go_simp) ?_
    try simp only [Act.put, List.setIfInBounds_toArray, List.set_cons_zero, List.set_cons_succ]
    refine wpAnyE_call (i := 7) (oi := { dst := some 43, op := Op.call { callee := Callee.value (Operand.func 26), args := #[Operand.tmp 42], argTypes := #[48] }, type := 3, pos := "law.go:240", after := #[{ on := 6, ground := Ground.data }, { on := 4, ground := Ground.chain }], guard := none }) (fun w hE => R2.out w) rfl (by kernel_rfl) (by kernel_rfl) (by kernel_rfl) (by kernel_rfl) (fun _ _ _ h => h) (by rfl) (fun w hE => by (try dsimp only); go_simp) ?_
    try simp only [Act.put, List.setIfInBounds_toArray, List.set_cons_zero, List.set_cons_succ]
    refine wpAnyE_one (i := 8) (o := { dst := some 44, op := Op.buildSlice 72 2 #[(0, Operand.tmp 41), (1, Operand.tmp 43)], type := 72, pos := "law.go:240", after := #[{ on := 5, ground := Ground.data }, { on := 7, ground := Ground.data }], guard := none }) (by kernel_rfl) rfl (fun wy2 hE K hK => ?_)
    have q0 := cellb q0 hE
    have q1 := cellb q1 hE
    have r0 := cellb r0 hE
    have r1 := cellb r1 hE
    have hP := hP.carry hE
    have iN := iN.carry hE
    have hbz2 := bthen hcz1 hE
    clear hE
    go_simp
    obtain ⟨wx2, hwz⟩ : ∃ v, v = wy2.alloc (Obj.cells #[.int .i64 bad, .int .i64 ed] 3) := ⟨_, rfl⟩
    rw [← hwz]
    have hl : Below wy2.heap.size wy2 wx2 := by rw [hwz]; exact below_new _ _
    have hcz2 := bthen hbz2 hl
    have iM : BlkI wx2 wy2.heap.size 3 [bad, ed] := by rw [hwz]; exact Blk.new _ _ _
    generalize wy2.heap.size = G2 at iM ⊢
    have q0 := cellb q0 hl
    have q1 := cellb q1 hl
    have r0 := cellb r0 hl
    have r1 := cellb r1 hl
    have hP := hP.carry hl
    have iN := iN.carry hl
    clear hwz
    refine hK _ _ (fun _ => hl) ?_
    clear hK K hl
    try simp only [Act.put, List.setIfInBounds_toArray, List.set_cons_zero, List.set_cons_succ]
    refine wpAnyE_call (i := 9) (oi := { dst := some 45, op := Op.call { callee := Callee.value (Operand.func 12), args := #[Operand.tmp 44], argTypes := #[72] }, type := 3, pos := "law.go:240", after := #[{ on := 8, ground := Ground.data }, { on := 7, ground := Ground.chain }], guard := none }) (fun w hE => ofPure (F2.out _ w (BlkI.ints (l := [bad, ed]) (iM.carry hE) rfl))) rfl (by kernel_rfl) (by kernel_rfl) (by kernel_rfl) (by kernel_rfl) (fun _ _ _ h => h) (by rfl) (fun w hE => by (try dsimp only); go_simp) ?_
    try simp only [Act.put, List.setIfInBounds_toArray, List.set_cons_zero, List.set_cons_succ]
    refine wpAnyE_take (i := 10) (oi := { dst := some 12, op := Op.assign (Operand.tmp 40), type := 3, pos := "law.go:240", after := #[{ on := 4, ground := Ground.data }, { on := 9, ground := Ground.chain }, { on := 0, ground := Ground.phase }, { on := 1, ground := Ground.phase }, { on := 2, ground := Ground.phase }, { on := 3, ground := Ground.phase }, { on := 4, ground := Ground.phase }, { on := 5, ground := Ground.textOnly Departure.lateStores }, { on := 6, ground := Ground.textOnly Departure.lateStores }, { on := 7, ground := Ground.textOnly Departure.lateStoresUnsure }, { on := 8, ground := Ground.textOnly Departure.lateStores }, { on := 9, ground := Ground.textOnly Departure.lateStoresUnsure }], guard := none }) (v := ?_) rfl (by kernel_rfl) (by kernel_rfl) (by kernel_rfl) (by kernel_rfl) (fun _ _ _ h => h) (Or.inl ⟨by rfl, ?_⟩) ?_
    rotate_left
    · (intro w hE; have q0 := cellb q0 hE; have q1 := cellb q1 hE; have r0 := cellb r0 hE; have r1 := cellb r1 hE; (try dsimp only); go_simp); (try with_reducible rfl)
    try simp only [Act.put, List.setIfInBounds_toArray, List.set_cons_zero, List.set_cons_succ]
    refine wpAnyE_take (i := 11) (oi := { dst := some 13, op := Op.assign (Operand.tmp 45), type := 3, pos := "law.go:240", after := #[{ on := 9, ground := Ground.data }, { on := 10, ground := Ground.chain }, { on := 0, ground := Ground.phase }, { on := 1, ground := Ground.phase }, { on := 2, ground := Ground.phase }, { on := 3, ground := Ground.phase }, { on := 4, ground := Ground.phase }, { on := 5, ground := Ground.phase }, { on := 6, ground := Ground.phase }, { on := 7, ground := Ground.phase }, { on := 8, ground := Ground.phase }, { on := 9, ground := Ground.phase }, { on := 10, ground := Ground.phase }], guard := none }) (v := ?_) rfl (by kernel_rfl) (by kernel_rfl) (by kernel_rfl) (by kernel_rfl) (fun _ _ _ h => h) (Or.inl ⟨by rfl, ?_⟩) ?_
    rotate_left
    · (intro w hE; have q0 := cellb q0 hE; have q1 := cellb q1 hE; have r0 := cellb r0 hE; have r1 := cellb r1 hE; (try dsimp only); go_simp); (try with_reducible rfl)
    try simp only [Act.put, List.setIfInBounds_toArray, List.set_cons_zero, List.set_cons_succ]
    refine wpAnyE_done (by kernel_rfl) (fun wy3 hE => ?_) _
    have hbz3 := bthen hcz2 hE
    have q0 := cellb q0 hE
    have q1 := cellb q1 hE
    have r0 := cellb r0 hE
    have r1 := cellb r1 hE
    have hP := hP.carry hE
    have iN := iN.carry hE
    have iM := iM.carry hE
    clear hE
    have hB := hbz3
    obtain ⟨W6, hW6⟩ : ∃ v, v = wy3 := ⟨_, rfl⟩
    rw [← hW6] at hB hP q0 q1 r0 r1 ⊢
    clear hW6
    clear F1 F2 TI TX R0 R1 R2
    by_cases h1 : one = 0
    · subst h1
      obtain rfl : bv = bb := HBV.out
      have R3b := Lib.hid (R3.out (by trivial) W6 hP)
      clear R3
      go_wp2_with fail
      refine R3b.out.mono ?_
      rintro e Y1 ⟨rfl, hb⟩
      replace hB := bthen hB hb
      replace hP := hP.carry hb
      have r0 := cellb r0 hb
      have r1 := cellb r1 hb
      clear hb q0 q1
      by_cases h2 : two = 0
      · subst h2
        obtain rfl : xv = xx := HXV.out
        have R4b := Lib.hid (R4.out (by trivial) Y1 hP)
        clear R4
        go_wp2_with fail
        refine R4b.out.mono ?_
        rintro e Y2 ⟨rfl, hb⟩
        replace hB := bthen hB hb
        replace hP := hP.carry hb
        clear hb
        go_wp2_with fail
        refine (TP.out Y2 hP).mono ?_
        rintro e X1 ⟨⟨u3, rfl, hu3⟩, hb⟩
        replace hB := bthen hB hb
        clear hb
        go_wp2_with fail
        refine (TC.out u3 X1 hu3).mono ?_
        rintro e X2 ⟨rfl, hb⟩
        replace hB := bthen hB hb
        clear hb hu3
        go_wp2_with fail
        refine (awake_any X2 (hw.carry hB) (hp.carry hB)).mono ?_
        rintro e X3 ⟨rfl, hb⟩
        go_wp2_with fail
        go_ret
        exact ⟨rfl, bthen hB hb⟩
      · have z2 : (two == 0) = false := by rw [beq_eq_false_iff_ne]; exact h2
        obtain rfl : xv = 0 := by have := HXV.out; rw [iOr, if_neg h2] at this; exact this
        clear R4
        go_wp2_with fail
        refine (TP.out Y1 hP).mono ?_
        rintro e X1 ⟨⟨u3, rfl, hu3⟩, hb⟩
        replace hB := bthen hB hb
        clear hb
        go_wp2_with fail
        refine (TC.out u3 X1 hu3).mono ?_
        rintro e X2 ⟨rfl, hb⟩
        replace hB := bthen hB hb
        clear hb hu3
        go_wp2_with fail
        refine (awake_any X2 (hw.carry hB) (hp.carry hB)).mono ?_
        rintro e X3 ⟨rfl, hb⟩
        go_wp2_with fail
        go_ret
        exact ⟨rfl, bthen hB hb⟩
    · have z1 : (one == 0) = false := by rw [beq_eq_false_iff_ne]; exact h1
      obtain rfl : bv = false := by have := HBV.out; rw [bOr, z1] at this; exact this
      clear R3
      by_cases h2 : two = 0
      · subst h2
        obtain rfl : xv = xx := HXV.out
        have R4b := Lib.hid (R4.out (by trivial) W6 hP)
        clear R4
        go_wp2_with fail
        refine R4b.out.mono ?_
        rintro e Y2 ⟨rfl, hb⟩
        replace hB := bthen hB hb
        replace hP := hP.carry hb
        clear hb
        go_wp2_with fail
        refine (TP.out Y2 hP).mono ?_
        rintro e X1 ⟨⟨u3, rfl, hu3⟩, hb⟩
        replace hB := bthen hB hb
        clear hb
        go_wp2_with fail
        refine (TC.out u3 X1 hu3).mono ?_
        rintro e X2 ⟨rfl, hb⟩
        replace hB := bthen hB hb
        clear hb hu3
        go_wp2_with fail
        refine (awake_any X2 (hw.carry hB) (hp.carry hB)).mono ?_
        rintro e X3 ⟨rfl, hb⟩
        go_wp2_with fail
        go_ret
        exact ⟨rfl, bthen hB hb⟩
      · have z2 : (two == 0) = false := by rw [beq_eq_false_iff_ne]; exact h2
        obtain rfl : xv = 0 := by have := HXV.out; rw [iOr, if_neg h2] at this; exact this
        clear R4
        go_wp2_with fail
        refine (TP.out W6 hP).mono ?_
        rintro e X1 ⟨⟨u3, rfl, hu3⟩, hb⟩
        replace hB := bthen hB hb
        clear hb
        go_wp2_with fail
        refine (TC.out u3 X1 hu3).mono ?_
        rintro e X2 ⟨rfl, hb⟩
        replace hB := bthen hB hb
        clear hb hu3
        go_wp2_with fail
        refine (awake_any X2 (hw.carry hB) (hp.carry hB)).mono ?_
        rintro e X3 ⟨rfl, hb⟩
        go_wp2_with fail
        go_ret
        exact ⟨rfl, bthen hB hb⟩
  · have hdl : decide ((l.length : Int) ≤ 9) = false := decide_eq_false hlen
    rw [hdl] at T0
    clear hv
    go_enter Tryz.func4, Tryz.ntmps4
    go_upto_region 1 with fail
    obtain ⟨W1, hW1⟩ : ∃ v, v = World.alloc w (Obj.cells #[.int .i64 p0, .int .i64 p1] 48) := ⟨_, rfl⟩
    have kW1 : Below w.heap.size w W1 := by rw [hW1]; exact below_new _ _
    have iW1 : Blk W1 (w.heap.size) 48 [.int .i64 p0, .int .i64 p1] := by rw [hW1]; exact Blk.new _ _ _
    have sW1 : W1.heap.size = w.heap.size + 1 := by rw [hW1]; simp
    rw [← hW1]
    clear hW1
    obtain ⟨W2, hW2⟩ : ∃ v, v = World.alloc W1 (Obj.cells #[.int .i64 d0, .int .i64 d1] 48) := ⟨_, rfl⟩
    have kW2 : Below W1.heap.size W1 W2 := by rw [hW2]; exact below_new _ _
    have iW2 : Blk W2 (w.heap.size + 1) 48 [.int .i64 d0, .int .i64 d1] := by rw [hW2, ← sW1]; exact Blk.new _ _ _
    have sW2 : W2.heap.size = w.heap.size + 1 + 1 := by rw [hW2]; simp [sW1]
    rw [← hW2]
    clear hW2
    have hB := bthen kW1 kW2
    have T1 := Lib.hid (ShortPolygonR_any _ l W2 (HV.out.carry hB))
    rw [hdl] at T1
    clear iW1 iW2 kW1 kW2 sW1 sW2 T0 hdl
    go_wp2_with fail
    refine T1.out.mono ?_
    rintro e w' ⟨rfl, rfl⟩
    clear T1
    go_wp2_with fail
    refine (awake_any W2 (hw.carry hB) (hp.carry hB)).mono ?_
    rintro e X3 ⟨rfl, hb⟩
    go_wp2_with fail
    go_ret
    exact ⟨rfl, bthen hB hb⟩
end Go.Proofs.YtfkemdapmoponaaGreatDoor

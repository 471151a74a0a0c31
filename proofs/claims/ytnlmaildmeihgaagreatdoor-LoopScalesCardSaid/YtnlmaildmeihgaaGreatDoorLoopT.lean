/- scaled, checkRatio, Scaled, Within. -/
import Derived.Test.YtnlmaildmeihgaaGreatDoorLoopS
namespace Go.Proofs.YtnlmaildmeihgaaGreatDoor
open Go.RowKit

/-- what the first loop has laid behind k rounds. -/
def scaleRow (p : List Int) (num den : Int) (k : Nat) : List Int := upto (scaleK p num den) k ++ List.replicate (p.length - k) 0
def divRow (p : List Int) (num den g : Int) (k : Nat) : List Int := upto (fun j => wrap64 ((scaleK p num den j).tdiv g)) k ++ (upto (scaleK p num den) p.length).drop k
theorem scaleRow_set (p : List Int) (num den : Int) (k : Nat) (h : k < p.length) : (scaleRow p num den k).set k (scaleK p num den k) = scaleRow p num den (k + 1) := by
  unfold scaleRow
  rw [List.set_append_right _ _ (by rw [upto_length]; exact Nat.le_refl _), upto_length, Nat.sub_self, show p.length - k = (p.length - (k + 1)) + 1 from by omega, List.replicate_succ, List.set_cons_zero, upto_succ]
  simp
theorem upto_get {α : Type} (f : Nat → α) (n j : Nat) (h : j < n) : (upto f n)[j]? = some (f j) := by simp [upto, h]
theorem scaleRow_get (p : List Int) (num den : Int) (k : Nat) : (scaleRow p num den (k + 1))[k]?.getD 0 = scaleK p num den k := by
  unfold scaleRow
  rw [List.getElem?_append_left (by rw [upto_length]; omega), upto_get _ _ _ (by omega)]; rfl
theorem divRow_set (p : List Int) (num den g : Int) (k : Nat) (h : k < p.length) : (divRow p num den g k).set k (wrap64 ((scaleK p num den k).tdiv g)) = divRow p num den g (k + 1) := by
  unfold divRow
  rw [List.set_append_right _ _ (by rw [upto_length]; exact Nat.le_refl _), upto_length, Nat.sub_self, upto_succ]
  have hd : (upto (scaleK p num den) p.length).drop k = scaleK p num den k :: (upto (scaleK p num den) p.length).drop (k + 1) := by
    rw [List.drop_eq_getElem_cons (by rw [upto_length]; exact h)]
    congr 1
    have := upto_get (scaleK p num den) p.length k h
    rw [List.getElem?_eq_getElem (by rw [upto_length]; exact h)] at this
    exact Option.some.inj this
  rw [hd, List.set_cons_zero]
  simp
theorem divRow_get (p : List Int) (num den g : Int) (k : Nat) (h : k < p.length) : (divRow p num den g k)[k]?.getD 0 = scaleK p num den k := by
  unfold divRow
  rw [List.getElem?_append_right (by rw [upto_length]; exact Nat.le_refl _), upto_length, Nat.sub_self, List.getElem?_drop, Nat.add_zero, upto_get _ _ _ h]; rfl
theorem scaleRow_length (p : List Int) (num den : Int) (k : Nat) (h : k ≤ p.length) : (scaleRow p num den k).length = p.length := by simp [scaleRow, upto_length]; omega
theorem divRow_length (p : List Int) (num den g : Int) (k : Nat) (h : k ≤ p.length) : (divRow p num den g k).length = p.length := by simp [divRow, upto_length]; omega

set_option maxRecDepth 100000 in
set_option maxHeartbeats 2000000 in
theorem scaled_any (v : Value) (p : List Int) (num den : Int) (w : World) (hv : Ints w v p) (hS : ScaleP p num den) :
    Calls Tryz.prog 92 #[v, .int .i64 num, .int .i64 den] w (GivesInts w (scaledW p num den)) := by
  have hl := checkPolyE_ok hS.hp
  obtain ⟨b, o, cap, rfl, hc⟩ := (id hv).head (by omega)
  have dp := degree_i hv (by omega)
  have hmk := run_make_row' (P := Tryz.prog) 26 3 (.int .i64 0) 8 Tryz.underlying26 Tryz.infoInt rfl .i64 .i64 p.length (by omega) (by omega)
  rw [ia_made] at hmk
  have HS := Lib.hid hS
  have DP := Lib.hid dp
  have hC := Lib.hid hc
  clear hS dp hc
  go_enter Tryz.func92, Tryz.ntmps92
  go_wp2_with fail
  refine (DP.out _).mono ?_
  rintro e w' ⟨rfl, rfl⟩
  go_wp2_with fail
  clear hmk
  have hB0 := below_new w (.cells (ia (List.replicate p.length 0)) 3)
  have hC0 := BlkI.new w 3 (List.replicate p.length 0)
  obtain ⟨W, hW⟩ : ∃ W, W = w.alloc (.cells (ia (List.replicate p.length 0)) 3) := ⟨_, rfl⟩
  rw [← hW] at hB0 hC0 ⊢
  clear hW
  have hl1 : 1 ≤ p.length := hl.1
  have hl5 : p.length ≤ 5 := hl.2
  go_loopw [9, 20] (fun va vk wr => ∃ k : Nat, k ≤ p.length ∧ vk = .int .i64 k ∧ va = .int .i64 (allK p num den k) ∧ Below w.heap.size w wr ∧ BlkI wr w.heap.size 3 (scaleRow p num den k)) (fun _ vk _ => p.length - (intOf vk).toNat)
  case atStart => exact ⟨0, by omega, rfl, rfl, hB0, by simpa [scaleRow, upto] using hC0⟩
  case round =>
    obtain ⟨k, hk, rfl, rfl, hbr, hcr⟩ := hrel
    by_cases hlt : k < p.length
    · have cA := cellb (hC.out k hlt) hbr
      have hsl := scaleRow_length p num den k (by omega)
      have hset := scaleRow_set p num den k hlt
      have hget := scaleRow_get p num den k
      have hlen1 := scaleRow_length p num den (k + 1) (by omega)
      have hfo := Blk.frozen hcr k
      have hco := BlkI.cell hcr (j := k) (by omega)
      have hK : scaleK p num den k = wrap64 (wrap64 (p[k]?.getD 0 * powW num (p.length - 1 - k)) * powW den k) := rfl
      have hcm := common_any (allK p num den k) (scaleK p num den k)
      have hb1 := allK_bd HS.out k (by omega)
      have hb2 := (scaleK_bd HS.out k hlt).2
      have hA : commonW (allK p num den k) (scaleK p num den k) = allK p num den (k + 1) := rfl
      rw [hA] at hcm
      have hp1 := power_any num (p.length - 1 - k)
      have hp2 := power_any den k
      generalize allK p num den k = al at hcm hb1 ⊢
      generalize hal : allK p num den (k + 1) = al1 at hcm
      have HAL := Lib.hid hal
      clear hal
      have HX := Lib.hid hK
      generalize scaleK p num den k = X at hset hget hcm hb2 HX
      generalize p[k]?.getD 0 = x at cA HX
      generalize powW num (p.length - 1 - k) = u at HX hp1
      generalize powW den k = u2 at HX hp2
      have HSet := Lib.hid hset
      have HGet := Lib.hid hget
      have HCM := Lib.hid hcm
      have HP1 := Lib.hid hp1
      have HP2 := Lib.hid hp2
      have HL1 := Lib.hid hlen1
      have HSL := Lib.hid hsl
      have HB1 := Lib.hid hb1
      have HB2 := Lib.hid hb2
      clear hK hA hset hget hcm hp1 hp2 hlen1 hsl hb1 hb2
      have e3 : (p.length : Int) - 1 - (k : Int) = ((p.length - 1 - k : Nat) : Int) := by omega
      go_wp2_with fail
      refine (HP1.out _ (by omega)).mono ?_
      rintro e w1 ⟨rfl, rfl⟩
      go_wp2_with fail
      refine (HP2.out _ (by omega)).mono ?_
      rintro e w2 ⟨rfl, rfl⟩
      go_wp2_with fail
      rw [← HX.out]
      have hcr2 := BlkI.set hcr k X
      rw [HSet.out] at hcr2
      have hbr2 := hbr.setCell (p := ⟨w.heap.size, k, none⟩) (by exact Nat.le_refl _) (.int .i64 X)
      obtain ⟨V, hV⟩ : ∃ V, V = wr.setCell ⟨w.heap.size, k, none⟩ (.int .i64 X) := ⟨_, rfl⟩
      rw [← hV] at hcr2 hbr2 ⊢
      clear hV hcr hco hfo hbr
      have q1 := HB1.out
      have q2 := HB2.out
      refine (HCM.out _ (by omega) (by omega)).mono ?_
      clear q1 q2
      rintro e w3 ⟨rfl, hb3⟩
      go_wp2
      go_roundw
      case rel => exact ⟨k + 1, by omega, by go_num, by rw [HAL.out], hbr2.trans (hb3.mono hbr2.size), Blk.carry hcr2 hb3⟩
      case measure => simp [intOf]; omega
    · obtain rfl : k = p.length := by omega
      have hcr0 : BlkI wr w.heap.size 3 (divRow p num den (allK p num den p.length) 0) := by simpa [scaleRow, divRow, upto] using hcr
      have hg1 := allK_pos HS.out
      have hg2 := (allK_bd HS.out p.length (Nat.le_refl _)).2
      clear hcr
      go_wp2_with fail
      obtain ⟨g, hgd⟩ : ∃ g, g = allK p num den p.length := ⟨_, rfl⟩
      rw [← hgd] at hcr0 hg1 hg2 ⊢
      obtain ⟨wo, rfl⟩ : ∃ wo, wo = wr := ⟨_, rfl⟩
      have HGD := Lib.hid hgd
      clear hgd
      go_loopw [48] (fun vk wr => ∃ k : Nat, k ≤ p.length ∧ vk = .int .i64 k ∧ Below w.heap.size w wr ∧ BlkI wr w.heap.size 3 (divRow p num den g k)) (fun vk _ => p.length - (intOf vk).toNat)
      case atStart => exact ⟨0, by omega, rfl, hbr, hcr0⟩
      case round =>
        obtain ⟨k, hk, rfl, hb2, hcr⟩ := hrel
        by_cases hlt : k < p.length
        · have hdl := divRow_length p num den g k (by omega)
          have hfo := Blk.frozen hcr k
          have hco := BlkI.cell hcr (j := k) (by omega)
          rw [divRow_get p num den g k hlt] at hco
          have hset := divRow_set p num den g k hlt
          have hb3 := (scaleK_bd HS.out k hlt).2
          generalize scaleK p num den k = X at hco hset hb3
          have hq : (X.tdiv g).natAbs ≤ X.natAbs := by rw [Int.natAbs_tdiv]; exact Nat.div_le_self _ _
          rw [IntWalk.wrap64_in (X.tdiv g) (by omega)] at hset
          have HSet := Lib.hid hset
          have HDL := Lib.hid hdl
          clear hq
          have x1 : -6553600 ≤ X := by omega
          have x2 : X ≤ 6553600 := by omega
          clear hset hdl hcr0 hb3
          go_wp2
          go_roundw
          case rel =>
            have h := BlkI.set hcr k (X.tdiv g)
            rw [HSet.out] at h
            exact ⟨k + 1, by omega, by go_num, hb2.setCell (p := ⟨w.heap.size, k, none⟩) (by exact Nat.le_refl _) _, h⟩
          case measure => simp [intOf]; omega
        · obtain rfl : k = p.length := by omega
          have hfin : divRow p num den g p.length = scaledW p num den := by rw [HGD.out]; simp [divRow, scaledW, upto_length]
          rw [hfin] at hcr
          have hsl : (scaledW p num den).length = p.length := upto_length _ _
          have HI := Lib.hid (BlkI.ints hcr hsl.symm)
          clear hfin hsl hcr hcr0
          go_wp2
          go_ret
          exact ⟨⟨_, rfl, HI.out⟩, hb2⟩

def ratioE (num den : Int) : Int := firstE [withinE num 1 4, withinE den 1 4, whenE (commonW num den != 1) 1]

set_option maxHeartbeats 1000000 in
theorem checkRatio_any (num den : Int) (w : World) (h1 : -9223372036854775808 ≤ num ∧ num ≤ 9223372036854775807) (h2 : -9223372036854775808 ≤ den ∧ den ≤ 9223372036854775807) :
    Calls Tryz.prog 91 #[.agg #[.int .i64 num, .int .i64 den]] w fun e w' => e = .returned (.int .i64 (ratioE num den)) ∧ Below w.heap.size w w' := by
  have H1 := Lib.hid h1
  have H2 := Lib.hid h2
  clear h1 h2
  go_enter Tryz.func91, Tryz.ntmps91
  go_wp2_with fail
  have hB := below_new w (.cells #[.int .i64 num, .int .i64 den] 24)
  have hx := Box2.new w 24 (.int .i64 num) (.int .i64 den)
  obtain ⟨W, hW⟩ : ∃ W, W = w.alloc (.cells #[.int .i64 num, .int .i64 den] 24) := ⟨_, rfl⟩
  rw [← hW] at hB hx ⊢
  clear hW
  have HX := Lib.hid hx
  obtain ⟨c0, c1, _, _⟩ := hx
  refine wp_region_held_drew (S := (fun w' => w'.cell? ⟨w.heap.size, 0, none⟩ = some (.int .i64 num) ∧ w'.cell? ⟨w.heap.size, 1, none⟩ = some (.int .i64 den))) (by kernel_rfl) ?_ (fun hHeld0 => ?_)
  · (try dsimp only); (first | go_keep | exact ⟨(HX.out.below h2 HX.out.lt).c0, (HX.out.below h2 HX.out.lt).c1⟩)
  refine wpAnyH_take (i := 0) (oi := { dst := some 3, op := Op.fieldAddr 24 (Operand.tmp 1) 0, type := 0, pos := "loop.go:309", after := #[], guard := none }) (v := ?_) rfl (by kernel_rfl) (by kernel_rfl) (by kernel_rfl) (fun _ _ _ h => h) (Or.inl ⟨by rfl, ?_⟩) (by assumption) ?_
  rotate_left
  · (intro w hSw; (try dsimp only at hSw); go_simp); (try with_reducible rfl)
  try simp only [Act.put, List.setIfInBounds_toArray, List.set_cons_zero, List.set_cons_succ]
  refine wpAnyH_take (i := 1) (oi := { dst := some 4, op := Op.load 3 (Operand.tmp 3), type := 3, pos := "loop.go:309", after := #[{ on := 0, ground := Ground.data }], guard := none }) (v := ?_) rfl (by kernel_rfl) (by kernel_rfl) (by kernel_rfl) (fun _ _ _ h => h) (Or.inl ⟨by rfl, ?_⟩) (by assumption) ?_
  rotate_left
  · (intro w hSw; (try dsimp only at hSw); go_simp); (try with_reducible rfl)
  try simp only [Act.put, List.setIfInBounds_toArray, List.set_cons_zero, List.set_cons_succ]
  refine wpAnyH_take (i := 3) (oi := { dst := some 6, op := Op.fieldAddr 24 (Operand.tmp 1) 1, type := 0, pos := "loop.go:309", after := #[], guard := none }) (v := ?_) rfl (by kernel_rfl) (by kernel_rfl) (by kernel_rfl) (fun _ _ _ h => h) (Or.inl ⟨by rfl, ?_⟩) (by assumption) ?_
  rotate_left
  · (intro w hSw; (try dsimp only at hSw); go_simp); (try with_reducible rfl)
  try simp only [Act.put, List.setIfInBounds_toArray, List.set_cons_zero, List.set_cons_succ]
  refine wpAnyH_take (i := 4) (oi := { dst := some 7, op := Op.load 3 (Operand.tmp 6), type := 3, pos := "loop.go:309", after := #[{ on := 3, ground := Ground.data }], guard := none }) (v := ?_) rfl (by kernel_rfl) (by kernel_rfl) (by kernel_rfl) (fun _ _ _ h => h) (Or.inl ⟨by rfl, ?_⟩) (by assumption) ?_
  rotate_left
  · (intro w hSw; (try dsimp only at hSw); go_simp); (try with_reducible rfl)
  try simp only [Act.put, List.setIfInBounds_toArray, List.set_cons_zero, List.set_cons_succ]
  refine wpAnyH_take (i := 6) (oi := { dst := some 9, op := Op.fieldAddr 24 (Operand.tmp 1) 0, type := 0, pos := "loop.go:309", after := #[], guard := none }) (v := ?_) rfl (by kernel_rfl) (by kernel_rfl) (by kernel_rfl) (fun _ _ _ h => h) (Or.inl ⟨by rfl, ?_⟩) (by assumption) ?_
  rotate_left
  · (intro w hSw; (try dsimp only at hSw); go_simp); (try with_reducible rfl)
  try simp only [Act.put, List.setIfInBounds_toArray, List.set_cons_zero, List.set_cons_succ]
  refine wpAnyH_take (i := 7) (oi := { dst := some 10, op := Op.load 3 (Operand.tmp 9), type := 3, pos := "loop.go:309", after := #[{ on := 6, ground := Ground.data }], guard := none }) (v := ?_) rfl (by kernel_rfl) (by kernel_rfl) (by kernel_rfl) (fun _ _ _ h => h) (Or.inl ⟨by rfl, ?_⟩) (by assumption) ?_
  rotate_left
  · (intro w hSw; (try dsimp only at hSw); go_simp); (try with_reducible rfl)
  try simp only [Act.put, List.setIfInBounds_toArray, List.set_cons_zero, List.set_cons_succ]
  refine wpAnyH_take (i := 8) (oi := { dst := some 11, op := Op.fieldAddr 24 (Operand.tmp 1) 1, type := 0, pos := "loop.go:309", after := #[], guard := none }) (v := ?_) rfl (by kernel_rfl) (by kernel_rfl) (by kernel_rfl) (fun _ _ _ h => h) (Or.inl ⟨by rfl, ?_⟩) (by assumption) ?_
  rotate_left
  · (intro w hSw; (try dsimp only at hSw); go_simp); (try with_reducible rfl)
  try simp only [Act.put, List.setIfInBounds_toArray, List.set_cons_zero, List.set_cons_succ]
  refine wpAnyH_take (i := 9) (oi := { dst := some 12, op := Op.load 3 (Operand.tmp 11), type := 3, pos := "loop.go:309", after := #[{ on := 8, ground := Ground.data }], guard := none }) (v := ?_) rfl (by kernel_rfl) (by kernel_rfl) (by kernel_rfl) (fun _ _ _ h => h) (Or.inl ⟨by rfl, ?_⟩) (by assumption) ?_
  rotate_left
  · (intro w hSw; (try dsimp only at hSw); go_simp); (try with_reducible rfl)
  try simp only [Act.put, List.setIfInBounds_toArray, List.set_cons_zero, List.set_cons_succ]
  refine wpAnyH_ready (rs := [2]) (by kernel_rfl) (by simp) ?_
  refine (AllReadyH.cons (o := { dst := some 5, op := Op.call { callee := Callee.value (Operand.func 99), args := #[Operand.tmp 4, Operand.const (Value.int IntKind.i64 1), Operand.const (Value.int IntKind.i64 4)], argTypes := #[3, 3, 3] }, type := 27, pos := "loop.go:309", after := #[{ on := 1, ground := Ground.data }], guard := none }) rfl (fun K hK => ?_) AllReadyH.nil)
  go_simp
  (first | (go_at_call 99; (with_reducible refine (within_any _ _ _ _).mono ?_); rintro e w' ⟨rfl, rfl⟩) | (go_at_call 141; (with_reducible refine (common_any num den _ H1.out H2.out).mono ?_); rintro e w2 ⟨rfl, h2'⟩; have h2 := below_drew h2'; clear h2') | (go_at_call 107; (with_reducible refine (when_any _ _ _).mono ?_); rintro e w' ⟨rfl, rfl⟩) | (go_at_call 90; (with_reducible refine (first3 _ _ _ _ _).mono ?_); rintro e w' ⟨rfl, rfl⟩))
  (try go_wp2_with fail)
  refine hK.out _ _ ?_ (fun hHeld1 => ?_)
  · (try dsimp only); (first | go_keep | exact ⟨(HX.out.below h2 HX.out.lt).c0, (HX.out.below h2 HX.out.lt).c1⟩)
  clear hK K hHeld0
  try simp only [Act.put, List.setIfInBounds_toArray, List.set_cons_zero, List.set_cons_succ]
  refine wpAnyH_ready (rs := [5]) (by kernel_rfl) (by simp) ?_
  refine (AllReadyH.cons (o := { dst := some 8, op := Op.call { callee := Callee.value (Operand.func 99), args := #[Operand.tmp 7, Operand.const (Value.int IntKind.i64 1), Operand.const (Value.int IntKind.i64 4)], argTypes := #[3, 3, 3] }, type := 27, pos := "loop.go:309", after := #[{ on := 4, ground := Ground.data }, { on := 2, ground := Ground.chain }], guard := none }) rfl (fun K hK => ?_) AllReadyH.nil)
  go_simp
  (first | (go_at_call 99; (with_reducible refine (within_any _ _ _ _).mono ?_); rintro e w' ⟨rfl, rfl⟩) | (go_at_call 141; (with_reducible refine (common_any num den _ H1.out H2.out).mono ?_); rintro e w2 ⟨rfl, h2'⟩; have h2 := below_drew h2'; clear h2') | (go_at_call 107; (with_reducible refine (when_any _ _ _).mono ?_); rintro e w' ⟨rfl, rfl⟩) | (go_at_call 90; (with_reducible refine (first3 _ _ _ _ _).mono ?_); rintro e w' ⟨rfl, rfl⟩))
  (try go_wp2_with fail)
  refine hK.out _ _ ?_ (fun hHeld2 => ?_)
  · (try dsimp only); (first | go_keep | exact ⟨(HX.out.below h2 HX.out.lt).c0, (HX.out.below h2 HX.out.lt).c1⟩)
  clear hK K hHeld1
  try simp only [Act.put, List.setIfInBounds_toArray, List.set_cons_zero, List.set_cons_succ]
  refine wpAnyH_ready (rs := [10]) (by kernel_rfl) (by simp) ?_
  refine (AllReadyH.cons (o := { dst := some 13, op := Op.call { callee := Callee.value (Operand.func 141), args := #[Operand.tmp 10, Operand.tmp 12], argTypes := #[3, 3] }, type := 3, pos := "loop.go:309", after := #[{ on := 7, ground := Ground.data }, { on := 9, ground := Ground.data }, { on := 5, ground := Ground.chain }], guard := none }) rfl (fun K hK => ?_) AllReadyH.nil)
  go_simp
  (first | (go_at_call 99; (with_reducible refine (within_any _ _ _ _).mono ?_); rintro e w' ⟨rfl, rfl⟩) | (go_at_call 141; (with_reducible refine (common_any num den _ H1.out H2.out).mono ?_); rintro e w2 ⟨rfl, h2'⟩; have h2 := below_drew h2'; clear h2') | (go_at_call 107; (with_reducible refine (when_any _ _ _).mono ?_); rintro e w' ⟨rfl, rfl⟩) | (go_at_call 90; (with_reducible refine (first3 _ _ _ _ _).mono ?_); rintro e w' ⟨rfl, rfl⟩))
  (try go_wp2_with fail)
  refine hK.out _ _ ?_ (fun hHeld3 => ?_)
  · (try dsimp only); (first | go_keep | exact ⟨(HX.out.below h2 HX.out.lt).c0, (HX.out.below h2 HX.out.lt).c1⟩)
  clear hK K hHeld2
  try simp only [Act.put, List.setIfInBounds_toArray, List.set_cons_zero, List.set_cons_succ]
  refine wpAnyH_take (i := 11) (oi := { dst := some 14, op := Op.binOp BinOp.neq 3 (Operand.tmp 13) (Operand.const (Value.int IntKind.i64 1)) 3, type := 4, pos := "loop.go:309", after := #[{ on := 10, ground := Ground.data }], guard := none }) (v := ?_) rfl (by kernel_rfl) (by kernel_rfl) (by kernel_rfl) (fun _ _ _ h => h) (Or.inl ⟨by rfl, ?_⟩) (by assumption) ?_
  rotate_left
  · (intro w hSw; (try dsimp only at hSw); go_simp); (try with_reducible rfl)
  try simp only [Act.put, List.setIfInBounds_toArray, List.set_cons_zero, List.set_cons_succ]
  refine wpAnyH_ready (rs := [12]) (by kernel_rfl) (by simp) ?_
  refine (AllReadyH.cons (o := { dst := some 15, op := Op.call { callee := Callee.value (Operand.func 107), args := #[Operand.tmp 14, Operand.const (Value.int IntKind.i64 1)], argTypes := #[4, 27] }, type := 27, pos := "loop.go:309", after := #[{ on := 11, ground := Ground.data }, { on := 10, ground := Ground.chain }], guard := none }) rfl (fun K hK => ?_) AllReadyH.nil)
  go_simp
  (first | (go_at_call 99; (with_reducible refine (within_any _ _ _ _).mono ?_); rintro e w' ⟨rfl, rfl⟩) | (go_at_call 141; (with_reducible refine (common_any num den _ H1.out H2.out).mono ?_); rintro e w2 ⟨rfl, h2'⟩; have h2 := below_drew h2'; clear h2') | (go_at_call 107; (with_reducible refine (when_any _ _ _).mono ?_); rintro e w' ⟨rfl, rfl⟩) | (go_at_call 90; (with_reducible refine (first3 _ _ _ _ _).mono ?_); rintro e w' ⟨rfl, rfl⟩))
  (try go_wp2_with fail)
  refine hK.out _ _ ?_ (fun hHeld4 => ?_)
  · (try dsimp only); (first | go_keep | exact ⟨(HX.out.below h2 HX.out.lt).c0, (HX.out.below h2 HX.out.lt).c1⟩)
  clear hK K hHeld3
  try simp only [Act.put, List.setIfInBounds_toArray, List.set_cons_zero, List.set_cons_succ]
  refine wpAnyH_ready (rs := [13]) (by kernel_rfl) (by simp) ?_
  refine (AllReadyH.cons (o := { dst := some 16, op := Op.buildSlice 174 3 #[(0, Operand.tmp 5), (1, Operand.tmp 8), (2, Operand.tmp 15)], type := 174, pos := "loop.go:309", after := #[{ on := 2, ground := Ground.data }, { on := 5, ground := Ground.data }, { on := 12, ground := Ground.data }], guard := none }) rfl (fun K hK => ?_) AllReadyH.nil)
  go_simp
  refine hK.out _ _ ?_ (fun hHeld5 => ?_)
  · (try dsimp only); (first | go_keep | exact ⟨(HX.out.below h2 HX.out.lt).c0, (HX.out.below h2 HX.out.lt).c1⟩)
  clear hK K hHeld4
  try simp only [Act.put, List.setIfInBounds_toArray, List.set_cons_zero, List.set_cons_succ]
  refine wpAnyH_ready (rs := [14]) (by kernel_rfl) (by simp) ?_
  refine (AllReadyH.cons (o := { dst := some 17, op := Op.call { callee := Callee.value (Operand.func 90), args := #[Operand.tmp 16], argTypes := #[174] }, type := 27, pos := "loop.go:309", after := #[{ on := 13, ground := Ground.data }, { on := 12, ground := Ground.chain }], guard := none }) rfl (fun K hK => ?_) AllReadyH.nil)
  go_simp
  (first | (go_at_call 99; (with_reducible refine (within_any _ _ _ _).mono ?_); rintro e w' ⟨rfl, rfl⟩) | (go_at_call 141; (with_reducible refine (common_any num den _ H1.out H2.out).mono ?_); rintro e w2 ⟨rfl, h2'⟩; have h2 := below_drew h2'; clear h2') | (go_at_call 107; (with_reducible refine (when_any _ _ _).mono ?_); rintro e w' ⟨rfl, rfl⟩) | (go_at_call 90; (with_reducible refine (first3 _ _ _ _ _).mono ?_); rintro e w' ⟨rfl, rfl⟩))
  (try go_wp2_with fail)
  refine hK.out _ _ ?_ (fun hHeld6 => ?_)
  · (try dsimp only); (first | go_keep | exact ⟨(HX.out.below h2 HX.out.lt).c0, (HX.out.below h2 HX.out.lt).c1⟩)
  clear hK K hHeld5
  try simp only [Act.put, List.setIfInBounds_toArray, List.set_cons_zero, List.set_cons_succ]
  refine wpAnyH_take (i := 15) (oi := { dst := some 2, op := Op.assign (Operand.tmp 17), type := 27, pos := "loop.go:309", after := #[{ on := 14, ground := Ground.data }, { on := 14, ground := Ground.chain }, { on := 0, ground := Ground.phase }, { on := 1, ground := Ground.phase }, { on := 2, ground := Ground.phase }, { on := 3, ground := Ground.phase }, { on := 4, ground := Ground.phase }, { on := 5, ground := Ground.phase }, { on := 6, ground := Ground.phase }, { on := 7, ground := Ground.phase }, { on := 8, ground := Ground.phase }, { on := 9, ground := Ground.phase }, { on := 10, ground := Ground.phase }, { on := 11, ground := Ground.phase }, { on := 12, ground := Ground.phase }, { on := 13, ground := Ground.phase }, { on := 14, ground := Ground.phase }], guard := none }) (v := ?_) rfl (by kernel_rfl) (by kernel_rfl) (by kernel_rfl) (fun _ _ _ h => h) (Or.inl ⟨by rfl, ?_⟩) (by assumption) ?_
  rotate_left
  · (intro w hSw; (try dsimp only at hSw); go_simp); (try with_reducible rfl)
  try simp only [Act.put, List.setIfInBounds_toArray, List.set_cons_zero, List.set_cons_succ]
  refine wpAnyH_done (by kernel_rfl) ?_ _
  clear hHeld6
  go_wp2
  go_ret
  exact ⟨rfl, bthen hB (h2.alloc h2.size _)⟩

end Go.Proofs.YtnlmaildmeihgaaGreatDoor

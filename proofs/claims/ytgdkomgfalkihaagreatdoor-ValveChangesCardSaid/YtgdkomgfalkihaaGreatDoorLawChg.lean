/- The law ValveChanges. -/
import Derived.Test.YtgdkomgfalkihaaGreatDoorVeE
namespace Go.Proofs.YtgdkomgfalkihaaGreatDoor
set_option linter.unusedSimpArgs false
set_option linter.unusedVariables false
open Go.RowKit

theorem same_train (va vb : Value) (l : List P2) (W : World) (ha : Prs W va l) (hb : Prs W vb l) (hl : l.length ≤ 1000000000) :
    Calls Tryz.prog 20 #[va, vb] W fun e w' => e = .returned (.bool true) ∧ Below W.heap.size W w' := by
  have := SameTrain_any va vb l l W ha hb hl
  rw [decide_eq_true rfl] at this
  exact this
theorem short_le {n : Nat} (h : shortB n = true) : n ≤ 257 := by
  unfold shortB at h
  simp at h; omega
theorem firstE_two (x y : Int) (l : List Int) : firstE (firstE [x, y] :: l) = firstE (x :: y :: l) := by
  by_cases h : x = 0
  · by_cases h2 : y = 0
    · simp [firstE, h, h2]
    · simp [firstE, h, h2]
  · simp [firstE, h]
/-- what the law's three parts say, the program's side. -/
theorem dif_is {ca cb : Int} {la lb : List P2} (hd : difE ca cb la lb = 0) : TrOk la ∧ TrOk lb := by
  have h := firstE_cons0.1 hd
  have h2 := (firstE_cons0.1 h.2).1
  have k1 := (firstE_cons0.1 (firstE_cons0.1 (show firstE [withinE ca 0 255, trainE la] = 0 from h.1)).2).1
  have k2 := (firstE_cons0.1 (firstE_cons0.1 (show firstE [withinE cb 0 255, trainE lb] = 0 from h2)).2).1
  exact ⟨trainE_ok k1, trainE_ok k2⟩
theorem dif_some {ca cb : Int} {la lb : List P2} (hd : difE ca cb la lb = 0) : difT (difO ca cb la lb) = ((difR la lb).map (·.1)).getD 0 ∧ (difO ca cb la lb).isSome = (difR la lb).isSome := by
  obtain ⟨ha, hb⟩ := dif_is hd
  have h := difF_eq la lb hb.sorted
  unfold difO
  rw [if_pos hd, ← h]
  cases difF (bothL la lb) <;> simp [difT]
theorem dif_none {ca cb : Int} {la lb : List P2} (hd : difE ca cb la lb ≠ 0) : difT (difO ca cb la lb) = 0 ∧ (difO ca cb la lb).isSome = false := by
  unfold difO
  rw [if_neg hd]
  exact ⟨rfl, rfl⟩
theorem ch_is {ca cb fr hd : Int} {la lb : List P2} (h : chE1 ca cb la lb fr hd = 0) : difE ca cb la lb = 0 ∧ (1 ≤ hd ∧ hd ≤ 16) := by
  unfold chE1 at h
  rw [← firstE_two] at h
  have h1 := firstE_cons0.1 h
  have h2 := firstE_cons0.1 h1.2
  have h3 := firstE_cons0.1 h2.2
  exact ⟨h1.1, withinE_zero.1 h3.1⟩
theorem ch_some {ca cb fr hd : Int} {la lb : List P2} (h : chE1 ca cb la lb fr hd = 0) :
    chT ca cb la lb fr hd = ((overR la lb fr hd.toNat).map (·.1)).getD 0 ∧ chE ca cb la lb fr hd = chN ((overR la lb fr hd.toNat).map (·.1)) := by
  obtain ⟨h0, h1⟩ := ch_is h
  obtain ⟨ha, hb⟩ := dif_is h0
  have e := chO_eq ha hb fr hd h1.1
  unfold chT chE
  rw [if_pos h, if_pos h, e]
  exact ⟨rfl, rfl⟩
theorem ch_none {ca cb fr hd : Int} {la lb : List P2} (h : chE1 ca cb la lb fr hd ≠ 0) : chT ca cb la lb fr hd = 0 ∧ chE ca cb la lb fr hd = chE1 ca cb la lb fr hd := by
  unfold chT chE
  rw [if_neg h, if_neg h]
  exact ⟨rfl, rfl⟩
theorem sw_is {ca cb t : Int} {la lb : List P2} (h : swtE1 ca cb la lb t = 0) : difE ca cb la lb = 0 := by
  unfold swtE1 at h
  rw [← firstE_two] at h
  exact (firstE_cons0.1 h).1
theorem sw_some {ca cb t : Int} {la lb : List P2} (h : swtE1 ca cb la lb t = 0) :
    swtE ca cb la lb t = swtC (swtF la lb t).length ∧ swtR ca cb la lb t = swtO (swtF la lb t) := by
  obtain ⟨ha, hb⟩ := dif_is (sw_is h)
  have e := swtL_eq ha hb t
  have e1 : swtE ca cb la lb t = swtC (swtF la lb t).length := by
    unfold swtE swtC
    rw [if_pos h, ← e]
    unfold swtL
    rw [List.length_append]
  refine ⟨e1, ?_⟩
  unfold swtR
  rw [e1, e]
  unfold swtC swtO
  by_cases h9 : 256 < (swtF la lb t).length
  · simp [h9]
  · simp [h9]
theorem sw_none {ca cb t : Int} {la lb : List P2} (h : swtE1 ca cb la lb t ≠ 0) : swtE ca cb la lb t = swtE1 ca cb la lb t ∧ swtR ca cb la lb t = [] := by
  have e : swtE ca cb la lb t = swtE1 ca cb la lb t := by unfold swtE; rw [if_neg h]
  refine ⟨e, ?_⟩
  unfold swtR
  rw [e, if_neg h]
set_option maxRecDepth 100000 in
set_option maxHeartbeats 16000000 in
theorem chg_law (TA : ∀ W, Pows W → Heads W → Calls Tryz.prog 7 #[] W fun e w' => e = .returned (.bool true) ∧ Below W.heap.size W w')
    (va vb : Value) (ca cb fr hd : Int) (la lb : List P2) (w : World) (hp : Pows w) (hh : Heads w) (hva : Prs w va la) (hvb : Prs w vb lb) :
    Calls Tryz.prog 3 #[.agg #[.int .i64 ca, va], .agg #[.int .i64 cb, vb], .agg #[.int .i64 fr, .int .i64 hd]] w fun e w' => e = .returned (.bool true) ∧ Below w.heap.size w w' := by
  have TA := Lib.hid TA
  obtain ⟨a1, p1, hve, -⟩ := hva.slice
  obtain ⟨N, hN⟩ : ∃ N, N = la.length := ⟨_, rfl⟩
  rw [← hN] at hve
  subst hve
  obtain ⟨a2, p2, hve, -⟩ := hvb.slice
  obtain ⟨M, hM⟩ : ∃ M, M = lb.length := ⟨_, rfl⟩
  rw [← hM] at hve
  subst hve
  have T1 := Lib.hid (fun W => Short_any a1 N p1 W)
  have T2 := Lib.hid (fun W => Short_any a2 M p2 W)
  have HP := Lib.hid hp
  have HH := Lib.hid hh
  have HA := Lib.hid hva
  have HB := Lib.hid hvb
  have HN := Lib.hid hN
  have HM := Lib.hid hM
  have HS1 := Lib.hid (fun h : shortB N = true => short_le h)
  have HS2 := Lib.hid (fun h : shortB M = true => short_le h)
  obtain ⟨s1, hs1⟩ : ∃ b, b = shortB N := ⟨_, rfl⟩
  obtain ⟨s2, hs2⟩ : ∃ b, b = shortB M := ⟨_, rfl⟩
  rw [← hs1] at T1 HS1
  rw [← hs2] at T2 HS2
  clear hp hh hva hvb hN hM hs1 hs2
  go_enter Tryz.func3, Tryz.ntmps3
  go_upto_region 1 with fail
  obtain ⟨W1, hW1⟩ : ∃ v, v = World.alloc w (Obj.cells #[.int .i64 ca, .slice a1 N p1] 24) := ⟨_, rfl⟩
  have kW1 : Below w.heap.size w W1 := by rw [hW1]; exact below_new _ _
  have iW1 : Blk W1 (w.heap.size) 24 [.int .i64 ca, .slice a1 N p1] := by rw [hW1]; exact Blk.new _ _ _
  have sW1 : W1.heap.size = w.heap.size + 1 := by rw [hW1]; simp
  rw [← hW1]
  clear hW1
  obtain ⟨W2, hW2⟩ : ∃ v, v = World.alloc W1 (Obj.cells #[.int .i64 cb, .slice a2 M p2] 24) := ⟨_, rfl⟩
  have kW2 : Below W1.heap.size W1 W2 := by rw [hW2]; exact below_new _ _
  have iW2 : Blk W2 (w.heap.size + 1) 24 [.int .i64 cb, .slice a2 M p2] := by rw [hW2, ← sW1]; exact Blk.new _ _ _
  have sW2 : W2.heap.size = w.heap.size + 1 + 1 := by rw [hW2]; simp [sW1]
  rw [← hW2]
  clear hW2
  obtain ⟨W3, hW3⟩ : ∃ v, v = World.alloc W2 (Obj.cells #[.int .i64 fr, .int .i64 hd] 25) := ⟨_, rfl⟩
  have kW3 : Below W2.heap.size W2 W3 := by rw [hW3]; exact below_new _ _
  have iW3 : Blk W3 (w.heap.size + 2) 25 [.int .i64 fr, .int .i64 hd] := by rw [hW3, ← sW2]; exact Blk.new _ _ _
  have sW3 : W3.heap.size = w.heap.size + 2 + 1 := by rw [hW3]; simp [sW2]
  rw [← hW3]
  clear hW3
  have i3 := (iW1.carry kW2).carry kW3
  have i4 := iW2.carry kW3
  have i5 := iW3
  have k3 := bthen (bthen kW1 kW2) kW3
  clear iW1 iW2 iW3 kW1 kW2 kW3 sW1 sW2 sW3
  generalize w.heap.size + 2 = B5 at i5 ⊢
  generalize w.heap.size + 1 = B4 at i4 ⊢
  have I3 := Lib.hid i3
  have I4 := Lib.hid i4
  have I5 := Lib.hid i5
  have K3 := Lib.hid k3
  clear i3 i4 i5 k3
  go_wp2_with fail
  refine (TA.out W3 (HP.out.carry K3.out) (HH.out.carry K3.out)).mono ?_
  rintro e w1 ⟨rfl, hb⟩
  have c31 := (I3.out.carry hb).cell (j := 1) (v := .slice a1 N p1) rfl
  have c41 := (I4.out.carry hb).cell (j := 1) (v := .slice a2 M p2) rfl
  go_wp2_with fail
  refine (T1.out w1).mono ?_
  rintro e w2 ⟨rfl, rfl⟩
  cases s1 with
  | false =>
    go_wp2_with fail
    refine (TA.out w1 (HP.out.carry (bthen K3.out hb)) (HH.out.carry (bthen K3.out hb))).mono ?_
    rintro e w2 ⟨rfl, hb2⟩
    clear c31 c41
    go_wp2
    go_ret
    exact ⟨rfl, bthen K3.out (bthen hb hb2)⟩
  | true =>
    go_wp2_with fail
    refine (T2.out w1).mono ?_
    rintro e w2 ⟨rfl, rfl⟩
    clear T1 T2 c31 c41
    cases s2 with
    | false =>
      go_wp2_with fail
      refine (TA.out w1 (HP.out.carry (bthen K3.out hb)) (HH.out.carry (bthen K3.out hb))).mono ?_
      rintro e w2 ⟨rfl, hb2⟩
      go_wp2
      go_ret
      exact ⟨rfl, bthen K3.out (bthen hb hb2)⟩
    | true =>
      have h1 := HS1.out (by trivial)
      have h2 := HS2.out (by trivial)
      clear HS1 HS2 TA HP HH
      have L1 := Lib.hid (fun W (h : Prs W (.slice a1 N p1) la) => logL_any ca a1 N p1 la W (by rw [← HN.out]; omega) h)
      have L2 := Lib.hid (fun W (h : Prs W (.slice a2 M p2) lb) => logL_any cb a2 M p2 lb W (by rw [← HM.out]; omega) h)
      have TD := Lib.hid (fun x1 m1 q1 x2 m2 q2 W h h' => Differ_any ca cb x1 x2 m1 q1 m2 q2 la lb W (by rw [← HN.out]; omega) (by rw [← HM.out]; omega) h h')
      have TO := Lib.hid (fun x1 m1 q1 x2 m2 q2 W h h' => ChangeOver_any ca cb fr hd x1 x2 m1 q1 m2 q2 la lb W (by rw [← HN.out]; omega) (by rw [← HM.out]; omega) h h')
      have TW := Lib.hid (fun x1 m1 q1 x2 m2 q2 W h h' => Switched_any ca cb fr x1 x2 m1 q1 m2 q2 la lb W (by rw [← HN.out]; omega) (by rw [← HM.out]; omega) h h')
      have TC1 := Lib.hid (fun W (h : Prs W (.slice a1 N p1) la) => CheckLogR_any ca a1 N p1 la W (by rw [← HN.out]; omega) h)
      have TC2 := Lib.hid (fun W (h : Prs W (.slice a2 M p2) lb) => CheckLogR_any cb a2 M p2 lb W (by rw [← HM.out]; omega) h)
      have TT := Lib.hid (fun W => CheckTickR_any fr W)
      have TH := Lib.hid (fun W => CheckRange_any hd 1 16 W)
      have RD := Lib.hid (fun W h h' => DifferR_any (.slice a1 N p1) (.slice a2 M p2) la lb W (by rw [← HN.out]; omega) (by rw [← HM.out]; omega) h h')
      have RO := Lib.hid (fun W (hd0 : 1 ≤ hd ∧ hd ≤ 16) (hr : ∀ x ∈ la, 0 ≤ x.1 ∧ x.1 ≤ 1000000) h h' => by
        have := ChangeOverR_any (.slice a1 N p1) (.slice a2 M p2) la lb fr hd.toNat W (by omega) (by rw [← HN.out]; omega) (by rw [← HM.out]; omega) hr h h'
        rw [show ((hd.toNat : Nat) : Int) = hd by omega] at this
        exact this)
      have RW := Lib.hid (fun W h h' => SwitchedR_any (.slice a1 N p1) (.slice a2 M p2) la lb fr W (by rw [← HN.out]; omega) (by rw [← HM.out]; omega) h h')
      have hE0 : difE ca cb la lb = firstE [logE ca la, logE cb lb] := rfl
      have hE1 : chE1 ca cb la lb fr hd = firstE [difE ca cb la lb, withinE fr 0 100000, withinE hd 1 16] := (firstE_two _ _ _).symm
      have hE2 : swtE1 ca cb la lb fr = firstE [difE ca cb la lb, withinE fr 0 100000] := (firstE_two _ _ _).symm
      have hd0 := fun h : difE ca cb la lb = 0 => dif_some h
      have hd1 := fun h : difE ca cb la lb ≠ 0 => dif_none h
      have hc0 := fun h : chE1 ca cb la lb fr hd = 0 => ch_some h
      have hc1 := fun h : chE1 ca cb la lb fr hd ≠ 0 => ch_none h
      have hc2 := fun h : chE1 ca cb la lb fr hd = 0 => (ch_is h).2
      have hc3 := fun (h : chE1 ca cb la lb fr hd = 0) (x : P2) (hx : x ∈ la) => (show 0 ≤ x.1 ∧ x.1 ≤ 1000000 by have := ((dif_is (ch_is h).1).1.mem hx).1; omega)
      have hs0 := fun h : swtE1 ca cb la lb fr = 0 => sw_some h
      have hs1 := fun h : swtE1 ca cb la lb fr ≠ 0 => sw_none h
      have hsl : (swtR ca cb la lb fr).length ≤ 1000000 := by
        unfold swtR swtL
        split
        · rw [List.length_append, List.length_take, List.length_drop]
          have := HN.out
          have := HM.out
          omega
        · simp
      obtain ⟨E0, hE0'⟩ : ∃ e, e = difE ca cb la lb := ⟨_, rfl⟩
      obtain ⟨E1, hE1'⟩ : ∃ e, e = chE1 ca cb la lb fr hd := ⟨_, rfl⟩
      obtain ⟨E2, hE2'⟩ : ∃ e, e = swtE1 ca cb la lb fr := ⟨_, rfl⟩
      obtain ⟨DT, hDT⟩ : ∃ e, e = difT (difO ca cb la lb) := ⟨_, rfl⟩
      obtain ⟨DS, hDS⟩ : ∃ e, e = (difO ca cb la lb).isSome := ⟨_, rfl⟩
      obtain ⟨CT, hCT⟩ : ∃ e, e = chT ca cb la lb fr hd := ⟨_, rfl⟩
      obtain ⟨CE, hCE⟩ : ∃ e, e = chE ca cb la lb fr hd := ⟨_, rfl⟩
      obtain ⟨SE, hSE⟩ : ∃ e, e = swtE ca cb la lb fr := ⟨_, rfl⟩
      obtain ⟨SR, hSR⟩ : ∃ e, e = swtR ca cb la lb fr := ⟨_, rfl⟩
      obtain ⟨e1, he1⟩ : ∃ e, e = logE ca la := ⟨_, rfl⟩
      obtain ⟨e2, he2⟩ : ∃ e, e = logE cb lb := ⟨_, rfl⟩
      obtain ⟨e3, he3⟩ : ∃ e, e = withinE fr 0 100000 := ⟨_, rfl⟩
      obtain ⟨e4, he4⟩ : ∃ e, e = withinE hd 1 16 := ⟨_, rfl⟩
      rw [← hE0', ← he1, ← he2] at hE0
      rw [← hE1', ← hE0', ← he3, ← he4] at hE1
      rw [← hE2', ← hE0', ← he3] at hE2
      rw [← hE0', ← hDT, ← hDS] at hd0 hd1
      rw [← hE1', ← hCT, ← hCE] at hc0 hc1
      rw [← hE1'] at hc2 hc3
      rw [← hE2', ← hSE, ← hSR] at hs0 hs1
      rw [← hSR] at hsl
      rw [← hDT, ← hDS, ← hE0'] at TD
      rw [← hCT, ← hCE] at TO
      rw [← hSE, ← hSR] at TW
      rw [← he1] at TC1
      rw [← he2] at TC2
      rw [← he3] at TT
      rw [← he4] at TH
      have F1 := Lib.hid (fun u W (h : Ints W u [e1, e2]) => firstL7_any u [e1, e2] W (by simp) h)
      have F2 := Lib.hid (fun u W (h : Ints W u [E0, e3, e4]) => firstL7_any u [E0, e3, e4] W (by simp) h)
      have F3 := Lib.hid (fun u W (h : Ints W u [E0, e3]) => firstL7_any u [E0, e3] W (by simp) h)
      rw [← hE0] at F1
      rw [← hE1] at F2
      rw [← hE2] at F3
      have HD0 := Lib.hid hd0
      have HD1 := Lib.hid hd1
      have HC0 := Lib.hid hc0
      have HC1 := Lib.hid hc1
      have HC2 := Lib.hid hc2
      have HC3 := Lib.hid hc3
      have HX0 := Lib.hid hs0
      have HX1 := Lib.hid hs1
      have HSL := Lib.hid hsl
      clear h1 h2 hE0 hE1 hE2 hE0' hE1' hE2' hDT hDS hCT hCE hSE hSR he1 he2 he3 he4 hd0 hd1 hc0 hc1 hc2 hc3 hs0 hs1 hsl
      go_upto_region 3 with fail
      have c50 := (I5.out.carry hb).cell (j := 0) (v := .int .i64 fr) rfl
      have c51 := (I5.out.carry hb).cell (j := 1) (v := .int .i64 hd) rfl
      refine wp_region_E 5 (by kernel_rfl) ?_
      obtain ⟨wz, hwz⟩ : ∃ v, v = w1.drew := ⟨_, rfl⟩
      rw [← hwz]
      have hlz : Below w1.heap.size w1 wz := by rw [hwz]; exact (Below.refl _ _).drew
      have hbz := bthen hb hlz
      have c50 := cellb c50 hlz
      have c51 := cellb c51 hlz
      clear hwz hlz
      refine zT 0 { dst := some 38, op := Op.indexAddr 25 (Operand.tmp 5) (Operand.const (Value.int IntKind.i64 0)), type := 0, pos := "law.go:203", after := #[], guard := none } (v := ?_) rfl (Or.inl ⟨by rfl, ?_⟩) ?_
      rotate_left
      · (intro w hE; have c50 := cellb c50 hE; have c51 := cellb c51 hE; (try dsimp only); go_simp); (try with_reducible rfl)
      try simp only [Act.put, zS]
      refine zT 1 { dst := some 39, op := Op.load 3 (Operand.tmp 38), type := 3, pos := "law.go:203", after := #[{ on := 0, ground := Ground.data }], guard := none } (v := ?_) rfl (Or.inl ⟨by rfl, ?_⟩) ?_
      rotate_left
      · (intro w hE; have c50 := cellb c50 hE; have c51 := cellb c51 hE; (try dsimp only); go_simp); (try with_reducible rfl)
      try simp only [Act.put, zS]
      refine zT 2 { dst := some 40, op := Op.indexAddr 25 (Operand.tmp 5) (Operand.const (Value.int IntKind.i64 1)), type := 0, pos := "law.go:203", after := #[{ on := 4, ground := Ground.gcOnly Departure.lateStores }], guard := none } (v := ?_) rfl (Or.inl ⟨by rfl, ?_⟩) ?_
      rotate_left
      · (intro w hE; have c50 := cellb c50 hE; have c51 := cellb c51 hE; (try dsimp only); go_simp); (try with_reducible rfl)
      try simp only [Act.put, zS]
      refine zT 3 { dst := some 41, op := Op.load 3 (Operand.tmp 40), type := 3, pos := "law.go:203", after := #[{ on := 2, ground := Ground.data }, { on := 4, ground := Ground.gcOnly Departure.lateStores }], guard := none } (v := ?_) rfl (Or.inl ⟨by rfl, ?_⟩) ?_
      rotate_left
      · (intro w hE; have c50 := cellb c50 hE; have c51 := cellb c51 hE; (try dsimp only); go_simp); (try with_reducible rfl)
      try simp only [Act.put, zS]
      refine zT 4 { dst := some 7, op := Op.assign (Operand.tmp 39), type := 3, pos := "law.go:203", after := #[{ on := 1, ground := Ground.data }, { on := 0, ground := Ground.phase }, { on := 1, ground := Ground.phase }, { on := 2, ground := Ground.textOnly Departure.lateStores }, { on := 3, ground := Ground.textOnly Departure.lateStores }], guard := none } (v := ?_) rfl (Or.inl ⟨by rfl, ?_⟩) ?_
      rotate_left
      · (intro w hE; have c50 := cellb c50 hE; have c51 := cellb c51 hE; (try dsimp only); go_simp); (try with_reducible rfl)
      try simp only [Act.put, zS]
      refine wpAnyE_one (i := 5) (o := { dst := some 8, op := Op.assign (Operand.tmp 41), type := 3, pos := "law.go:203", after := #[{ on := 3, ground := Ground.data }, { on := 4, ground := Ground.chain }, { on := 0, ground := Ground.phase }, { on := 1, ground := Ground.phase }, { on := 2, ground := Ground.phase }, { on := 3, ground := Ground.phase }, { on := 4, ground := Ground.phase }], guard := none }) (by kernel_rfl) rfl (fun wy1 hE K hK => ?_)
      have c50 := cellb c50 hE
      have c51 := cellb c51 hE
      have hbz1 := bthen hbz hE
      go_simp
      refine hK _ _ (fun _ => Below.refl _ _) ?_
      clear hK K hE
      try simp only [Act.put, zS]
      refine wpAnyE_done (by kernel_rfl) (fun wy2 hE => ?_) _
      have hbz2 := bthen hbz1 hE
      have c50 := cellb c50 hE
      have c51 := cellb c51 hE
      clear hE
      have hb := hbz2
      obtain ⟨W4, hW9⟩ : ∃ v, v = wy2 := ⟨_, rfl⟩
      rw [← hW9] at hb ⊢
      clear hW9
      clear c50 c51
      have c30 := I3.out.cell (j := 0) (v := .int .i64 ca) rfl
      have c31 := I3.out.cell (j := 1) (v := .slice a1 N p1) rfl
      have c40 := I4.out.cell (j := 0) (v := .int .i64 cb) rfl
      have c41 := I4.out.cell (j := 1) (v := .slice a2 M p2) rfl
      go_upto_region 4 with fail
      refine wp_region_held_drew (S := (fun W => W.cell? ⟨w.heap.size, 0, none⟩ = some (.int .i64 ca) ∧ W.cell? ⟨w.heap.size, 1, none⟩ = some (.slice a1 N p1) ∧ W.cell? ⟨B4, 0, none⟩ = some (.int .i64 cb) ∧ W.cell? ⟨B4, 1, none⟩ = some (.slice a2 M p2))) (by kernel_rfl) ⟨cellb c30 hb.drew, cellb c31 hb.drew, cellb c40 hb.drew, cellb c41 hb.drew⟩ (fun hHeld0 => ?_)
      obtain ⟨wzd, hwz⟩ : ∃ v, v = W4.drew := ⟨_, rfl⟩
      rw [← hwz] at hHeld0 ⊢
      have hbzd : Below W3.heap.size W3 wzd := by rw [hwz]; exact hb.drew
      have hlzd : Below W4.heap.size W4 wzd := by rw [hwz]; exact (Below.refl _ _).drew
      clear hwz hlzd
      refine wpAnyH_take (i := 0) (oi := { dst := some 43, op := Op.load 24 (Operand.tmp 3), type := 24, pos := "law.go:204", after := #[], guard := none }) (v := ?_) rfl (by kernel_rfl) (by kernel_rfl) (by kernel_rfl) (fun _ _ _ h => h) (Or.inl ⟨by rfl, ?_⟩) (by assumption) ?_
      rotate_left
      · (intro w hSw; (try dsimp only at hSw); go_simp); (try with_reducible rfl)
      try simp only [Act.put, zS]
      refine wpAnyH_take (i := 2) (oi := { dst := some 45, op := Op.load 24 (Operand.tmp 4), type := 24, pos := "law.go:204", after := #[], guard := none }) (v := ?_) rfl (by kernel_rfl) (by kernel_rfl) (by kernel_rfl) (fun _ _ _ h => h) (Or.inl ⟨by rfl, ?_⟩) (by assumption) ?_
      rotate_left
      · (intro w hSw; (try dsimp only at hSw); go_simp); (try with_reducible rfl)
      try simp only [Act.put, zS]
      refine wpAnyH_ready (rs := [1]) (by kernel_rfl) (by simp) ?_
      refine (AllReadyH.cons (o := { dst := some 44, op := Op.call { callee := Callee.value (Operand.func 10), args := #[Operand.tmp 43], argTypes := #[24] }, type := 33, pos := "law.go:204", after := #[{ on := 0, ground := Ground.data }], guard := none }) rfl (fun K hK => ?_) AllReadyH.nil)
      go_simp
      refine (L1.out wzd (HA.out.carry (bthen K3.out hbzd))).mono ?_
      rintro e wz1 ⟨⟨x1, m1, q1, rfl, h1⟩, hl⟩
      (try go_wp2_with fail)
      have hbz1 := bthen hbzd hl
      clear hl
      refine hK.out _ _ ⟨cellb c30 hbz1, cellb c31 hbz1, cellb c40 hbz1, cellb c41 hbz1⟩ (fun hHeld1 => ?_)
      clear hK K hHeld0
      try simp only [Act.put, zS]
      refine wpAnyH_ready (rs := [3]) (by kernel_rfl) (by simp) ?_
      refine (AllReadyH.cons (o := { dst := some 46, op := Op.call { callee := Callee.value (Operand.func 10), args := #[Operand.tmp 45], argTypes := #[24] }, type := 33, pos := "law.go:204", after := #[{ on := 2, ground := Ground.data }, { on := 1, ground := Ground.chain }], guard := none }) rfl (fun K hK => ?_) AllReadyH.nil)
      go_simp
      refine (L2.out wz1 (HB.out.carry (bthen K3.out hbz1))).mono ?_
      rintro e wz3 ⟨⟨x2, m2, q2, rfl, h2⟩, hl⟩
      (try go_wp2_with fail)
      have hbz3 := bthen hbz1 hl
      have h1 := h1.carry hl
      clear hl
      refine hK.out _ _ ⟨cellb c30 hbz3, cellb c31 hbz3, cellb c40 hbz3, cellb c41 hbz3⟩ (fun hHeld2 => ?_)
      clear hK K hHeld1
      try simp only [Act.put, zS]
      refine wpAnyH_ready (rs := [4]) (by kernel_rfl) (by simp) ?_
      refine (AllReadyH.cons (o := { dst := some 47, op := Op.call { callee := Callee.value (Operand.func 9), args := #[Operand.tmp 44, Operand.tmp 46], argTypes := #[33, 33] }, type := 29, pos := "law.go:204", after := #[{ on := 1, ground := Ground.data }, { on := 3, ground := Ground.data }, { on := 3, ground := Ground.chain }], guard := none }) rfl (fun K hK => ?_) AllReadyH.nil)
      go_simp
      refine (TD.out x1 m1 q1 x2 m2 q2 wz3 h1 h2).mono ?_
      rintro e wz4 ⟨rfl, hl⟩
      (try go_wp2_with fail)
      have hbz4 := bthen hbz3 hl
      have h1 := h1.carry hl
      have h2 := h2.carry hl
      clear hl
      refine hK.out _ _ ⟨cellb c30 hbz4, cellb c31 hbz4, cellb c40 hbz4, cellb c41 hbz4⟩ (fun hHeld3 => ?_)
      clear hK K hHeld2
      try simp only [Act.put, zS]
      refine wpAnyH_take (i := 5) (oi := { dst := some 42, op := Op.move (Operand.tmp 47), type := 29, pos := "law.go:204", after := #[{ on := 4, ground := Ground.data }], guard := none }) (v := ?_) rfl (by kernel_rfl) (by kernel_rfl) (by kernel_rfl) (fun _ _ _ h => h) (Or.inl ⟨by rfl, ?_⟩) (by assumption) ?_
      rotate_left
      · (intro w hSw; (try dsimp only at hSw); go_simp); (try with_reducible rfl)
      try simp only [Act.put, zS]
      refine wpAnyH_take (i := 6) (oi := { dst := some 48, op := Op.extract (Operand.tmp 42) 0, type := 3, pos := "law.go:204", after := #[{ on := 5, ground := Ground.data }], guard := none }) (v := ?_) rfl (by kernel_rfl) (by kernel_rfl) (by kernel_rfl) (fun _ _ _ h => h) (Or.inl ⟨by rfl, ?_⟩) (by assumption) ?_
      rotate_left
      · (intro w hSw; (try dsimp only at hSw); go_simp); (try with_reducible rfl)
      try simp only [Act.put, zS]
      refine wpAnyH_take (i := 7) (oi := { dst := some 49, op := Op.extract (Operand.tmp 42) 1, type := 4, pos := "law.go:204", after := #[{ on := 5, ground := Ground.data }, { on := 9, ground := Ground.gcOnly Departure.lateStores }], guard := none }) (v := ?_) rfl (by kernel_rfl) (by kernel_rfl) (by kernel_rfl) (fun _ _ _ h => h) (Or.inl ⟨by rfl, ?_⟩) (by assumption) ?_
      rotate_left
      · (intro w hSw; (try dsimp only at hSw); go_simp); (try with_reducible rfl)
      try simp only [Act.put, zS]
      refine wpAnyH_take (i := 8) (oi := { dst := some 50, op := Op.extract (Operand.tmp 42) 2, type := 28, pos := "law.go:204", after := #[{ on := 5, ground := Ground.data }, { on := 10, ground := Ground.gcOnly Departure.lateStores }], guard := none }) (v := ?_) rfl (by kernel_rfl) (by kernel_rfl) (by kernel_rfl) (fun _ _ _ h => h) (Or.inl ⟨by rfl, ?_⟩) (by assumption) ?_
      rotate_left
      · (intro w hSw; (try dsimp only at hSw); go_simp); (try with_reducible rfl)
      try simp only [Act.put, zS]
      refine wpAnyH_take (i := 9) (oi := { dst := some 9, op := Op.assign (Operand.tmp 48), type := 3, pos := "law.go:204", after := #[{ on := 6, ground := Ground.data }, { on := 4, ground := Ground.chain }, { on := 0, ground := Ground.phase }, { on := 1, ground := Ground.phase }, { on := 2, ground := Ground.phase }, { on := 3, ground := Ground.phase }, { on := 4, ground := Ground.phase }, { on := 5, ground := Ground.phase }, { on := 6, ground := Ground.phase }, { on := 7, ground := Ground.textOnly Departure.lateStores }, { on := 8, ground := Ground.textOnly Departure.lateStores }], guard := none }) (v := ?_) rfl (by kernel_rfl) (by kernel_rfl) (by kernel_rfl) (fun _ _ _ h => h) (Or.inl ⟨by rfl, ?_⟩) (by assumption) ?_
      rotate_left
      · (intro w hSw; (try dsimp only at hSw); go_simp); (try with_reducible rfl)
      try simp only [Act.put, zS]
      refine wpAnyH_take (i := 10) (oi := { dst := some 10, op := Op.assign (Operand.tmp 49), type := 4, pos := "law.go:204", after := #[{ on := 7, ground := Ground.data }, { on := 9, ground := Ground.chain }, { on := 0, ground := Ground.phase }, { on := 1, ground := Ground.phase }, { on := 2, ground := Ground.phase }, { on := 3, ground := Ground.phase }, { on := 4, ground := Ground.phase }, { on := 5, ground := Ground.phase }, { on := 6, ground := Ground.phase }, { on := 7, ground := Ground.phase }, { on := 8, ground := Ground.textOnly Departure.lateStores }, { on := 9, ground := Ground.phase }], guard := none }) (v := ?_) rfl (by kernel_rfl) (by kernel_rfl) (by kernel_rfl) (fun _ _ _ h => h) (Or.inl ⟨by rfl, ?_⟩) (by assumption) ?_
      rotate_left
      · (intro w hSw; (try dsimp only at hSw); go_simp); (try with_reducible rfl)
      try simp only [Act.put, zS]
      refine wpAnyH_take (i := 11) (oi := { dst := some 11, op := Op.assign (Operand.tmp 50), type := 28, pos := "law.go:204", after := #[{ on := 8, ground := Ground.data }, { on := 10, ground := Ground.chain }, { on := 0, ground := Ground.phase }, { on := 1, ground := Ground.phase }, { on := 2, ground := Ground.phase }, { on := 3, ground := Ground.phase }, { on := 4, ground := Ground.phase }, { on := 5, ground := Ground.phase }, { on := 6, ground := Ground.phase }, { on := 7, ground := Ground.phase }, { on := 8, ground := Ground.phase }, { on := 9, ground := Ground.phase }, { on := 10, ground := Ground.phase }], guard := none }) (v := ?_) rfl (by kernel_rfl) (by kernel_rfl) (by kernel_rfl) (fun _ _ _ h => h) (Or.inl ⟨by rfl, ?_⟩) (by assumption) ?_
      rotate_left
      · (intro w hSw; (try dsimp only at hSw); go_simp); (try with_reducible rfl)
      try simp only [Act.put, zS]
      refine wpAnyH_done (by kernel_rfl) ?_ _
      clear hHeld3
      replace hb := hbz4
      obtain ⟨W5, hW9⟩ : ∃ v, v = wz4 := ⟨_, rfl⟩
      rw [← hW9] at hb ⊢
      clear hW9
      go_upto_region 5 with fail
      refine wp_region_held_drew (S := (fun W => W.cell? ⟨w.heap.size, 0, none⟩ = some (.int .i64 ca) ∧ W.cell? ⟨w.heap.size, 1, none⟩ = some (.slice a1 N p1) ∧ W.cell? ⟨B4, 0, none⟩ = some (.int .i64 cb) ∧ W.cell? ⟨B4, 1, none⟩ = some (.slice a2 M p2))) (by kernel_rfl) ⟨cellb c30 hb.drew, cellb c31 hb.drew, cellb c40 hb.drew, cellb c41 hb.drew⟩ (fun hHeld0 => ?_)
      obtain ⟨wzd, hwz⟩ : ∃ v, v = W5.drew := ⟨_, rfl⟩
      rw [← hwz] at hHeld0 ⊢
      have hbzd : Below W3.heap.size W3 wzd := by rw [hwz]; exact hb.drew
      have hlzd : Below W5.heap.size W5 wzd := by rw [hwz]; exact (Below.refl _ _).drew
      clear hwz hlzd
      refine wpAnyH_take (i := 0) (oi := { dst := some 52, op := Op.load 24 (Operand.tmp 3), type := 24, pos := "law.go:205", after := #[], guard := none }) (v := ?_) rfl (by kernel_rfl) (by kernel_rfl) (by kernel_rfl) (fun _ _ _ h => h) (Or.inl ⟨by rfl, ?_⟩) (by assumption) ?_
      rotate_left
      · (intro w hSw; (try dsimp only at hSw); go_simp); (try with_reducible rfl)
      try simp only [Act.put, zS]
      refine wpAnyH_take (i := 2) (oi := { dst := some 54, op := Op.load 24 (Operand.tmp 4), type := 24, pos := "law.go:205", after := #[], guard := none }) (v := ?_) rfl (by kernel_rfl) (by kernel_rfl) (by kernel_rfl) (fun _ _ _ h => h) (Or.inl ⟨by rfl, ?_⟩) (by assumption) ?_
      rotate_left
      · (intro w hSw; (try dsimp only at hSw); go_simp); (try with_reducible rfl)
      try simp only [Act.put, zS]
      refine wpAnyH_take (i := 4) (oi := { dst := some 56, op := Op.move (Operand.tmp 7), type := 3, pos := "law.go:205", after := #[], guard := none }) (v := ?_) rfl (by kernel_rfl) (by kernel_rfl) (by kernel_rfl) (fun _ _ _ h => h) (Or.inl ⟨by rfl, ?_⟩) (by assumption) ?_
      rotate_left
      · (intro w hSw; (try dsimp only at hSw); go_simp); (try with_reducible rfl)
      try simp only [Act.put, zS]
      refine wpAnyH_take (i := 5) (oi := { dst := some 57, op := Op.move (Operand.tmp 8), type := 3, pos := "law.go:205", after := #[], guard := none }) (v := ?_) rfl (by kernel_rfl) (by kernel_rfl) (by kernel_rfl) (fun _ _ _ h => h) (Or.inl ⟨by rfl, ?_⟩) (by assumption) ?_
      rotate_left
      · (intro w hSw; (try dsimp only at hSw); go_simp); (try with_reducible rfl)
      try simp only [Act.put, zS]
      refine wpAnyH_ready (rs := [1]) (by kernel_rfl) (by simp) ?_
      refine (AllReadyH.cons (o := { dst := some 53, op := Op.call { callee := Callee.value (Operand.func 10), args := #[Operand.tmp 52], argTypes := #[24] }, type := 33, pos := "law.go:205", after := #[{ on := 0, ground := Ground.data }], guard := none }) rfl (fun K hK => ?_) AllReadyH.nil)
      go_simp
      refine (L1.out wzd (HA.out.carry (bthen K3.out hbzd))).mono ?_
      rintro e wz1 ⟨⟨x1, m1, q1, rfl, h1⟩, hl⟩
      (try go_wp2_with fail)
      have hbz1 := bthen hbzd hl
      clear hl
      refine hK.out _ _ ⟨cellb c30 hbz1, cellb c31 hbz1, cellb c40 hbz1, cellb c41 hbz1⟩ (fun hHeld1 => ?_)
      clear hK K hHeld0
      try simp only [Act.put, zS]
      refine wpAnyH_ready (rs := [3]) (by kernel_rfl) (by simp) ?_
      refine (AllReadyH.cons (o := { dst := some 55, op := Op.call { callee := Callee.value (Operand.func 10), args := #[Operand.tmp 54], argTypes := #[24] }, type := 33, pos := "law.go:205", after := #[{ on := 2, ground := Ground.data }, { on := 1, ground := Ground.chain }], guard := none }) rfl (fun K hK => ?_) AllReadyH.nil)
      go_simp
      refine (L2.out wz1 (HB.out.carry (bthen K3.out hbz1))).mono ?_
      rintro e wz3 ⟨⟨x2, m2, q2, rfl, h2⟩, hl⟩
      (try go_wp2_with fail)
      have hbz3 := bthen hbz1 hl
      have h1 := h1.carry hl
      clear hl
      refine hK.out _ _ ⟨cellb c30 hbz3, cellb c31 hbz3, cellb c40 hbz3, cellb c41 hbz3⟩ (fun hHeld2 => ?_)
      clear hK K hHeld1
      try simp only [Act.put, zS]
      refine wpAnyH_ready (rs := [6]) (by kernel_rfl) (by simp) ?_
      refine (AllReadyH.cons (o := { dst := some 58, op := Op.call { callee := Callee.value (Operand.func 11), args := #[Operand.tmp 53, Operand.tmp 55, Operand.tmp 56, Operand.tmp 57], argTypes := #[33, 33, 3, 3] }, type := 35, pos := "law.go:205", after := #[{ on := 1, ground := Ground.data }, { on := 3, ground := Ground.data }, { on := 4, ground := Ground.data }, { on := 5, ground := Ground.data }, { on := 3, ground := Ground.chain }], guard := none }) rfl (fun K hK => ?_) AllReadyH.nil)
      go_simp
      refine (TO.out x1 m1 q1 x2 m2 q2 wz3 h1 h2).mono ?_
      rintro e wz6 ⟨rfl, hl⟩
      (try go_wp2_with fail)
      have hbz6 := bthen hbz3 hl
      have h1 := h1.carry hl
      have h2 := h2.carry hl
      clear hl
      refine hK.out _ _ ⟨cellb c30 hbz6, cellb c31 hbz6, cellb c40 hbz6, cellb c41 hbz6⟩ (fun hHeld3 => ?_)
      clear hK K hHeld2
      try simp only [Act.put, zS]
      refine wpAnyH_take (i := 7) (oi := { dst := some 51, op := Op.move (Operand.tmp 58), type := 35, pos := "law.go:205", after := #[{ on := 6, ground := Ground.data }], guard := none }) (v := ?_) rfl (by kernel_rfl) (by kernel_rfl) (by kernel_rfl) (fun _ _ _ h => h) (Or.inl ⟨by rfl, ?_⟩) (by assumption) ?_
      rotate_left
      · (intro w hSw; (try dsimp only at hSw); go_simp); (try with_reducible rfl)
      try simp only [Act.put, zS]
      refine wpAnyH_take (i := 8) (oi := { dst := some 59, op := Op.extract (Operand.tmp 51) 0, type := 3, pos := "law.go:205", after := #[{ on := 7, ground := Ground.data }], guard := none }) (v := ?_) rfl (by kernel_rfl) (by kernel_rfl) (by kernel_rfl) (fun _ _ _ h => h) (Or.inl ⟨by rfl, ?_⟩) (by assumption) ?_
      rotate_left
      · (intro w hSw; (try dsimp only at hSw); go_simp); (try with_reducible rfl)
      try simp only [Act.put, zS]
      refine wpAnyH_take (i := 9) (oi := { dst := some 60, op := Op.extract (Operand.tmp 51) 1, type := 28, pos := "law.go:205", after := #[{ on := 7, ground := Ground.data }, { on := 10, ground := Ground.gcOnly Departure.lateStores }], guard := none }) (v := ?_) rfl (by kernel_rfl) (by kernel_rfl) (by kernel_rfl) (fun _ _ _ h => h) (Or.inl ⟨by rfl, ?_⟩) (by assumption) ?_
      rotate_left
      · (intro w hSw; (try dsimp only at hSw); go_simp); (try with_reducible rfl)
      try simp only [Act.put, zS]
      refine wpAnyH_take (i := 10) (oi := { dst := some 12, op := Op.assign (Operand.tmp 59), type := 3, pos := "law.go:205", after := #[{ on := 8, ground := Ground.data }, { on := 6, ground := Ground.chain }, { on := 0, ground := Ground.phase }, { on := 1, ground := Ground.phase }, { on := 2, ground := Ground.phase }, { on := 3, ground := Ground.phase }, { on := 4, ground := Ground.phase }, { on := 5, ground := Ground.phase }, { on := 6, ground := Ground.phase }, { on := 7, ground := Ground.phase }, { on := 8, ground := Ground.phase }, { on := 9, ground := Ground.textOnly Departure.lateStores }], guard := none }) (v := ?_) rfl (by kernel_rfl) (by kernel_rfl) (by kernel_rfl) (fun _ _ _ h => h) (Or.inl ⟨by rfl, ?_⟩) (by assumption) ?_
      rotate_left
      · (intro w hSw; (try dsimp only at hSw); go_simp); (try with_reducible rfl)
      try simp only [Act.put, zS]
      refine wpAnyH_take (i := 11) (oi := { dst := some 13, op := Op.assign (Operand.tmp 60), type := 28, pos := "law.go:205", after := #[{ on := 9, ground := Ground.data }, { on := 10, ground := Ground.chain }, { on := 0, ground := Ground.phase }, { on := 1, ground := Ground.phase }, { on := 2, ground := Ground.phase }, { on := 3, ground := Ground.phase }, { on := 4, ground := Ground.phase }, { on := 5, ground := Ground.phase }, { on := 6, ground := Ground.phase }, { on := 7, ground := Ground.phase }, { on := 8, ground := Ground.phase }, { on := 9, ground := Ground.phase }, { on := 10, ground := Ground.phase }], guard := none }) (v := ?_) rfl (by kernel_rfl) (by kernel_rfl) (by kernel_rfl) (fun _ _ _ h => h) (Or.inl ⟨by rfl, ?_⟩) (by assumption) ?_
      rotate_left
      · (intro w hSw; (try dsimp only at hSw); go_simp); (try with_reducible rfl)
      try simp only [Act.put, zS]
      refine wpAnyH_done (by kernel_rfl) ?_ _
      clear hHeld3
      replace hb := hbz6
      obtain ⟨W6, hW9⟩ : ∃ v, v = wz6 := ⟨_, rfl⟩
      rw [← hW9] at hb ⊢
      clear hW9
      go_upto_region 6 with fail
      refine wp_region_held_drew (S := (fun W => W.cell? ⟨w.heap.size, 0, none⟩ = some (.int .i64 ca) ∧ W.cell? ⟨w.heap.size, 1, none⟩ = some (.slice a1 N p1) ∧ W.cell? ⟨B4, 0, none⟩ = some (.int .i64 cb) ∧ W.cell? ⟨B4, 1, none⟩ = some (.slice a2 M p2))) (by kernel_rfl) ⟨cellb c30 hb.drew, cellb c31 hb.drew, cellb c40 hb.drew, cellb c41 hb.drew⟩ (fun hHeld0 => ?_)
      obtain ⟨wzd, hwz⟩ : ∃ v, v = W6.drew := ⟨_, rfl⟩
      rw [← hwz] at hHeld0 ⊢
      have hbzd : Below W3.heap.size W3 wzd := by rw [hwz]; exact hb.drew
      have hlzd : Below W6.heap.size W6 wzd := by rw [hwz]; exact (Below.refl _ _).drew
      clear hwz hlzd
      refine wpAnyH_take (i := 0) (oi := { dst := some 62, op := Op.load 24 (Operand.tmp 3), type := 24, pos := "law.go:206", after := #[], guard := none }) (v := ?_) rfl (by kernel_rfl) (by kernel_rfl) (by kernel_rfl) (fun _ _ _ h => h) (Or.inl ⟨by rfl, ?_⟩) (by assumption) ?_
      rotate_left
      · (intro w hSw; (try dsimp only at hSw); go_simp); (try with_reducible rfl)
      try simp only [Act.put, zS]
      refine wpAnyH_take (i := 2) (oi := { dst := some 64, op := Op.load 24 (Operand.tmp 4), type := 24, pos := "law.go:206", after := #[], guard := none }) (v := ?_) rfl (by kernel_rfl) (by kernel_rfl) (by kernel_rfl) (fun _ _ _ h => h) (Or.inl ⟨by rfl, ?_⟩) (by assumption) ?_
      rotate_left
      · (intro w hSw; (try dsimp only at hSw); go_simp); (try with_reducible rfl)
      try simp only [Act.put, zS]
      refine wpAnyH_take (i := 4) (oi := { dst := some 66, op := Op.move (Operand.tmp 7), type := 3, pos := "law.go:206", after := #[], guard := none }) (v := ?_) rfl (by kernel_rfl) (by kernel_rfl) (by kernel_rfl) (fun _ _ _ h => h) (Or.inl ⟨by rfl, ?_⟩) (by assumption) ?_
      rotate_left
      · (intro w hSw; (try dsimp only at hSw); go_simp); (try with_reducible rfl)
      try simp only [Act.put, zS]
      refine wpAnyH_ready (rs := [1]) (by kernel_rfl) (by simp) ?_
      refine (AllReadyH.cons (o := { dst := some 63, op := Op.call { callee := Callee.value (Operand.func 10), args := #[Operand.tmp 62], argTypes := #[24] }, type := 33, pos := "law.go:206", after := #[{ on := 0, ground := Ground.data }], guard := none }) rfl (fun K hK => ?_) AllReadyH.nil)
      go_simp
      refine (L1.out wzd (HA.out.carry (bthen K3.out hbzd))).mono ?_
      rintro e wz1 ⟨⟨x1, m1, q1, rfl, h1⟩, hl⟩
      (try go_wp2_with fail)
      have hbz1 := bthen hbzd hl
      clear hl
      refine hK.out _ _ ⟨cellb c30 hbz1, cellb c31 hbz1, cellb c40 hbz1, cellb c41 hbz1⟩ (fun hHeld1 => ?_)
      clear hK K hHeld0
      try simp only [Act.put, zS]
      refine wpAnyH_ready (rs := [3]) (by kernel_rfl) (by simp) ?_
      refine (AllReadyH.cons (o := { dst := some 65, op := Op.call { callee := Callee.value (Operand.func 10), args := #[Operand.tmp 64], argTypes := #[24] }, type := 33, pos := "law.go:206", after := #[{ on := 2, ground := Ground.data }, { on := 1, ground := Ground.chain }], guard := none }) rfl (fun K hK => ?_) AllReadyH.nil)
      go_simp
      refine (L2.out wz1 (HB.out.carry (bthen K3.out hbz1))).mono ?_
      rintro e wz3 ⟨⟨x2, m2, q2, rfl, h2⟩, hl⟩
      (try go_wp2_with fail)
      have hbz3 := bthen hbz1 hl
      have h1 := h1.carry hl
      clear hl
      refine hK.out _ _ ⟨cellb c30 hbz3, cellb c31 hbz3, cellb c40 hbz3, cellb c41 hbz3⟩ (fun hHeld2 => ?_)
      clear hK K hHeld1
      try simp only [Act.put, zS]
      refine wpAnyH_ready (rs := [5]) (by kernel_rfl) (by simp) ?_
      refine (AllReadyH.cons (o := { dst := some 67, op := Op.call { callee := Callee.value (Operand.func 12), args := #[Operand.tmp 63, Operand.tmp 65, Operand.tmp 66], argTypes := #[33, 33, 3] }, type := 37, pos := "law.go:206", after := #[{ on := 1, ground := Ground.data }, { on := 3, ground := Ground.data }, { on := 4, ground := Ground.data }, { on := 3, ground := Ground.chain }], guard := none }) rfl (fun K hK => ?_) AllReadyH.nil)
      go_simp
      refine (TW.out x1 m1 q1 x2 m2 q2 wz3 h1 h2).mono ?_
      rintro e wz5 ⟨⟨u14, rfl, h14⟩, hl⟩
      (try go_wp2_with fail)
      have hbz5 := bthen hbz3 hl
      have h1 := h1.carry hl
      have h2 := h2.carry hl
      clear hl
      refine hK.out _ _ ⟨cellb c30 hbz5, cellb c31 hbz5, cellb c40 hbz5, cellb c41 hbz5⟩ (fun hHeld3 => ?_)
      clear hK K hHeld2
      try simp only [Act.put, zS]
      refine wpAnyH_take (i := 6) (oi := { dst := some 61, op := Op.move (Operand.tmp 67), type := 37, pos := "law.go:206", after := #[{ on := 5, ground := Ground.data }], guard := none }) (v := ?_) rfl (by kernel_rfl) (by kernel_rfl) (by kernel_rfl) (fun _ _ _ h => h) (Or.inl ⟨by rfl, ?_⟩) (by assumption) ?_
      rotate_left
      · (intro w hSw; (try dsimp only at hSw); go_simp); (try with_reducible rfl)
      try simp only [Act.put, zS]
      refine wpAnyH_take (i := 7) (oi := { dst := some 68, op := Op.extract (Operand.tmp 61) 0, type := 31, pos := "law.go:206", after := #[{ on := 6, ground := Ground.data }], guard := none }) (v := ?_) rfl (by kernel_rfl) (by kernel_rfl) (by kernel_rfl) (fun _ _ _ h => h) (Or.inl ⟨by rfl, ?_⟩) (by assumption) ?_
      rotate_left
      · (intro w hSw; (try dsimp only at hSw); go_simp); (try with_reducible rfl)
      try simp only [Act.put, zS]
      refine wpAnyH_take (i := 8) (oi := { dst := some 69, op := Op.extract (Operand.tmp 61) 1, type := 28, pos := "law.go:206", after := #[{ on := 6, ground := Ground.data }, { on := 9, ground := Ground.gcOnly Departure.lateStores }], guard := none }) (v := ?_) rfl (by kernel_rfl) (by kernel_rfl) (by kernel_rfl) (fun _ _ _ h => h) (Or.inl ⟨by rfl, ?_⟩) (by assumption) ?_
      rotate_left
      · (intro w hSw; (try dsimp only at hSw); go_simp); (try with_reducible rfl)
      try simp only [Act.put, zS]
      refine wpAnyH_take (i := 9) (oi := { dst := some 14, op := Op.assign (Operand.tmp 68), type := 31, pos := "law.go:206", after := #[{ on := 7, ground := Ground.data }, { on := 5, ground := Ground.chain }, { on := 0, ground := Ground.phase }, { on := 1, ground := Ground.phase }, { on := 2, ground := Ground.phase }, { on := 3, ground := Ground.phase }, { on := 4, ground := Ground.phase }, { on := 5, ground := Ground.phase }, { on := 6, ground := Ground.phase }, { on := 7, ground := Ground.phase }, { on := 8, ground := Ground.textOnly Departure.lateStores }], guard := none }) (v := ?_) rfl (by kernel_rfl) (by kernel_rfl) (by kernel_rfl) (fun _ _ _ h => h) (Or.inl ⟨by rfl, ?_⟩) (by assumption) ?_
      rotate_left
      · (intro w hSw; (try dsimp only at hSw); go_simp); (try with_reducible rfl)
      try simp only [Act.put, zS]
      refine wpAnyH_take (i := 10) (oi := { dst := some 15, op := Op.assign (Operand.tmp 69), type := 28, pos := "law.go:206", after := #[{ on := 8, ground := Ground.data }, { on := 9, ground := Ground.chain }, { on := 0, ground := Ground.phase }, { on := 1, ground := Ground.phase }, { on := 2, ground := Ground.phase }, { on := 3, ground := Ground.phase }, { on := 4, ground := Ground.phase }, { on := 5, ground := Ground.phase }, { on := 6, ground := Ground.phase }, { on := 7, ground := Ground.phase }, { on := 8, ground := Ground.phase }, { on := 9, ground := Ground.phase }], guard := none }) (v := ?_) rfl (by kernel_rfl) (by kernel_rfl) (by kernel_rfl) (fun _ _ _ h => h) (Or.inl ⟨by rfl, ?_⟩) (by assumption) ?_
      rotate_left
      · (intro w hSw; (try dsimp only at hSw); go_simp); (try with_reducible rfl)
      try simp only [Act.put, zS]
      refine wpAnyH_done (by kernel_rfl) ?_ _
      clear hHeld3
      replace hb := hbz5
      obtain ⟨W7, hW9⟩ : ∃ v, v = wz5 := ⟨_, rfl⟩
      rw [← hW9] at hb h14 ⊢
      clear hW9
      clear TD TO TW L1 L2
      replace c30 := cellb c30 hb
      replace c31 := cellb c31 hb
      replace c40 := cellb c40 hb
      replace c41 := cellb c41 hb
      have hA := HA.out.carry (bthen K3.out hb)
      have hB := HB.out.carry (bthen K3.out hb)
      go_upto_region 7 with fail
      refine wp_region_E 99 (by kernel_rfl) ?_
      obtain ⟨wz, hwz⟩ : ∃ v, v = W7.drew := ⟨_, rfl⟩
      rw [← hwz]
      have hlz : Below W7.heap.size W7 wz := by rw [hwz]; exact (Below.refl _ _).drew
      have hbz := bthen hb hlz
      have c30 := cellb c30 hlz
      have c31 := cellb c31 hlz
      have c40 := cellb c40 hlz
      have c41 := cellb c41 hlz
      have h14 := h14.carry hlz
      have hA := hA.carry hlz
      have hB := hB.carry hlz
      clear hwz hlz
      refine zT 0 { dst := some 70, op := Op.load 24 (Operand.tmp 3), type := 24, pos := "law.go:207", after := #[], guard := none } (v := ?_) rfl (Or.inl ⟨by rfl, ?_⟩) ?_
      rotate_left
      · (intro w hE; have c30 := cellb c30 hE; have c31 := cellb c31 hE; have c40 := cellb c40 hE; have c41 := cellb c41 hE; (try dsimp only); go_simp); (try with_reducible rfl)
      try simp only [Act.put, zS]
      refine zT 2 { dst := some 72, op := Op.load 24 (Operand.tmp 4), type := 24, pos := "law.go:207", after := #[], guard := none } (v := ?_) rfl (Or.inl ⟨by rfl, ?_⟩) ?_
      rotate_left
      · (intro w hE; have c30 := cellb c30 hE; have c31 := cellb c31 hE; have c40 := cellb c40 hE; have c41 := cellb c41 hE; (try dsimp only); go_simp); (try with_reducible rfl)
      try simp only [Act.put, zS]
      refine zC 1 { dst := some 71, op := Op.call { callee := Callee.value (Operand.func 14), args := #[Operand.tmp 70], argTypes := #[24] }, type := 3, pos := "law.go:207", after := #[{ on := 0, ground := Ground.data }], guard := none } (fun w hE => TC1.out w (hA.carry hE)) rfl (by rfl) (fun w hE => by (try dsimp only); go_simp) ?_
      try simp only [Act.put, zS]
      refine zC 3 { dst := some 73, op := Op.call { callee := Callee.value (Operand.func 14), args := #[Operand.tmp 72], argTypes := #[24] }, type := 3, pos := "law.go:207", after := #[{ on := 2, ground := Ground.data }, { on := 1, ground := Ground.chain }], guard := none } (fun w hE => TC2.out w (hB.carry hE)) rfl (by rfl) (fun w hE => by (try dsimp only); go_simp) ?_
      try simp only [Act.put, zS]
      refine wpAnyE_one (i := 4) (o := { dst := some 74, op := Op.buildSlice 70 2 #[(0, Operand.tmp 71), (1, Operand.tmp 73)], type := 70, pos := "law.go:207", after := #[{ on := 1, ground := Ground.data }, { on := 3, ground := Ground.data }], guard := none }) (by kernel_rfl) rfl (fun wy1 hE K hK => ?_)
      have c30 := cellb c30 hE
      have c31 := cellb c31 hE
      have c40 := cellb c40 hE
      have c41 := cellb c41 hE
      have h14 := h14.carry hE
      have hA := hA.carry hE
      have hB := hB.carry hE
      have hbz1 := bthen hbz hE
      clear hE
      go_simp
      obtain ⟨wx1, hwz⟩ : ∃ v, v = wy1.alloc (Obj.cells #[.int .i64 e1, .int .i64 e2] 3) := ⟨_, rfl⟩
      rw [← hwz]
      have hl : Below wy1.heap.size wy1 wx1 := by rw [hwz]; exact below_new _ _
      have hcz1 := bthen hbz1 hl
      have iN : BlkI wx1 wy1.heap.size 3 [e1, e2] := by rw [hwz]; exact Blk.new _ _ _
      generalize wy1.heap.size = G at iN ⊢
      have c30 := cellb c30 hl
      have c31 := cellb c31 hl
      have c40 := cellb c40 hl
      have c41 := cellb c41 hl
      have h14 := h14.carry hl
      have hA := hA.carry hl
      have hB := hB.carry hl
      clear hwz
      refine hK _ _ (fun _ => hl) ?_
      clear hK K hl
      try simp only [Act.put, zS]
      refine zC 5 { dst := some 75, op := Op.call { callee := Callee.value (Operand.func 13), args := #[Operand.tmp 74], argTypes := #[70] }, type := 3, pos := "law.go:207", after := #[{ on := 4, ground := Ground.data }, { on := 3, ground := Ground.chain }], guard := none } (fun w hE => ofPure (F1.out _ w (BlkI.ints (l := [e1, e2]) (Blk.carry iN hE) rfl))) rfl (by rfl) (fun w hE => by (try dsimp only); go_simp) ?_
      try simp only [Act.put, zS]
      refine zT 6 { dst := some 16, op := Op.assign (Operand.tmp 75), type := 3, pos := "law.go:207", after := #[{ on := 5, ground := Ground.data }, { on := 5, ground := Ground.chain }, { on := 0, ground := Ground.phase }, { on := 1, ground := Ground.phase }, { on := 2, ground := Ground.phase }, { on := 3, ground := Ground.phase }, { on := 4, ground := Ground.phase }, { on := 5, ground := Ground.phase }], guard := none } (v := ?_) rfl (Or.inl ⟨by rfl, ?_⟩) ?_
      rotate_left
      · (intro w hE; have c30 := cellb c30 hE; have c31 := cellb c31 hE; have c40 := cellb c40 hE; have c41 := cellb c41 hE; (try dsimp only); go_simp); (try with_reducible rfl)
      try simp only [Act.put, zS]
      refine wpAnyE_done (by kernel_rfl) (fun wy2 hE => ?_) _
      have hbz2 := bthen hcz1 hE
      have c30 := cellb c30 hE
      have c31 := cellb c31 hE
      have c40 := cellb c40 hE
      have c41 := cellb c41 hE
      have h14 := h14.carry hE
      have hA := hA.carry hE
      have hB := hB.carry hE
      have iN := iN.carry hE
      clear hE
      replace hb := hbz2
      obtain ⟨W8, hW8⟩ : ∃ v, v = wy2 := ⟨_, rfl⟩
      rw [← hW8] at hb h14 ⊢
      clear hW8 iN
      clear c30 c31 c40 c41 hA hB TC1 TC2 F1
      go_wp2_with fail
      refine (TT.out W8).mono ?_
      rintro e w9 ⟨rfl, rfl⟩
      go_wp2_with fail
      refine (TH.out W8).mono ?_
      rintro e w9 ⟨rfl, rfl⟩
      go_wp2_with fail
      obtain ⟨W9, hW9⟩ : ∃ v, v = World.alloc W8 (Obj.cells #[.int .i64 E0, .int .i64 e3, .int .i64 e4] 3) := ⟨_, rfl⟩
      have kW9 : Below W8.heap.size W8 W9 := by rw [hW9]; exact below_new _ _
      have iW9 : Blk W9 (W8.heap.size) 3 [.int .i64 E0, .int .i64 e3, .int .i64 e4] := by rw [hW9]; exact Blk.new _ _ _
      have sW9 : W9.heap.size = W8.heap.size + 1 := by rw [hW9]; simp
      rw [← hW9]
      clear hW9
      refine (F2.out _ W9 (BlkI.ints (l := [E0, e3, e4]) iW9 rfl)).mono ?_
      rintro e w10 ⟨rfl, rfl⟩
      replace hb := bthen hb kW9
      replace h14 := h14.carry kW9
      clear kW9 iW9 sW9 F2 TH
      go_wp2_with fail
      refine (TT.out W9).mono ?_
      rintro e w10 ⟨rfl, rfl⟩
      go_wp2_with fail
      obtain ⟨W10, hW10⟩ : ∃ v, v = World.alloc W9 (Obj.cells #[.int .i64 E0, .int .i64 e3] 3) := ⟨_, rfl⟩
      have kW10 : Below W9.heap.size W9 W10 := by rw [hW10]; exact below_new _ _
      have iW10 : Blk W10 (W9.heap.size) 3 [.int .i64 E0, .int .i64 e3] := by rw [hW10]; exact Blk.new _ _ _
      have sW10 : W10.heap.size = W9.heap.size + 1 := by rw [hW10]; simp
      rw [← hW10]
      clear hW10
      refine (F3.out _ W10 (BlkI.ints (l := [E0, e3]) iW10 rfl)).mono ?_
      rintro e w11 ⟨rfl, rfl⟩
      replace hb := bthen hb kW10
      replace h14 := h14.carry kW10
      clear kW10 iW10 sW10 F3 TT
      go_upto_if 89 with fail
      go_cut [19, 21] from 90 to 97 (fun u19 u21 wn => u19 = .int .i64 DT ∧ u21 = .bool DS ∧ Prs wn u14 SR ∧ Below W3.heap.size W3 wn)
      case first =>
        by_cases h1 : E0 = 0
        · subst h1
          obtain ⟨g1, g2⟩ := HD0.out rfl
          have RD2 := RD.out W10 (HA.out.carry (bthen K3.out hb)) (HB.out.carry (bthen K3.out hb))
          rw [← g1, ← g2] at RD2
          have RD3 := Lib.hid RD2
          have c31 := (I3.out.carry hb).cell (j := 1) (v := .slice a1 N p1) rfl
          have c41 := (I4.out.carry hb).cell (j := 1) (v := .slice a2 M p2) rfl
          clear g1 g2 RD2 RD
          go_wp2_with fail
          refine RD3.out.mono ?_
          rintro e w11 ⟨rfl, rfl⟩
          clear c31 c41
          go_wp2_with fail
          go_meet
          exact ⟨rfl, rfl, h14, hb⟩
        · have z : (E0 == 0) = false := by rw [beq_eq_false_iff_ne]; exact h1
          have G := Lib.hid (HD1.out h1)
          clear h1
          go_wp2_with fail
          go_meet
          exact ⟨by rw [G.out.1], by rw [G.out.2], h14, hb⟩
      case rest =>
        clear h14 hb
        obtain ⟨rfl, rfl, h14, hb⟩ := hcut
        go_upto_if 99 with fail
        go_cut [17, 20] from 100 to 109 (fun u17 u20 wn => u20 = .int .i64 CT ∧ u17 = .int .i64 CE ∧ Prs wn u14 SR ∧ Below W3.heap.size W3 wn)
        case first =>
          by_cases h1 : E1 = 0
          · subst h1
            obtain ⟨g1, g2⟩ := HC0.out rfl
            have RO2 := RO.out wc (HC2.out rfl) (HC3.out rfl) (HA.out.carry (bthen K3.out hb)) (HB.out.carry (bthen K3.out hb))
            rw [← g1, ← g2] at RO2
            have RO3 := Lib.hid RO2
            have c31 := (I3.out.carry hb).cell (j := 1) (v := .slice a1 N p1) rfl
            have c41 := (I4.out.carry hb).cell (j := 1) (v := .slice a2 M p2) rfl
            clear g1 g2 RO2 RO
            go_wp2_with fail
            refine RO3.out.mono ?_
            rintro e w11 ⟨rfl, rfl⟩
            clear c31 c41
            go_wp2_with fail
            go_meet
            exact ⟨rfl, rfl, h14, hb⟩
          · have z : (E1 == 0) = false := by rw [beq_eq_false_iff_ne]; exact h1
            have G := Lib.hid (HC1.out h1)
            clear h1
            go_wp2_with fail
            go_meet
            exact ⟨by rw [G.out.1], by rw [G.out.2], h14, hb⟩
        case rest =>
          clear h14 hb
          obtain ⟨rfl, rfl, h14, hb⟩ := hcut
          go_upto_if 111 with fail
          go_cut [18, 22] from 112 to 120 (fun u18 u22 wn => Prs wn u22 SR ∧ u18 = .int .i64 SE ∧ Prs wn u14 SR ∧ Below W3.heap.size W3 wn)
          case first =>
            by_cases h1 : E2 = 0
            · subst h1
              obtain ⟨g1, g2⟩ := HX0.out rfl
              have RW2 := RW.out wc (HA.out.carry (bthen K3.out hb)) (HB.out.carry (bthen K3.out hb))
              rw [← g1, ← g2] at RW2
              have RW3 := Lib.hid RW2
              have c31 := (I3.out.carry hb).cell (j := 1) (v := .slice a1 N p1) rfl
              have c41 := (I4.out.carry hb).cell (j := 1) (v := .slice a2 M p2) rfl
              clear g1 g2 RW2 RW
              go_wp2_with fail
              refine RW3.out.mono ?_
              rintro e w11 ⟨⟨u22, rfl, h22⟩, hl⟩
              clear c31 c41
              go_wp2_with fail
              go_meet
              exact ⟨h22, rfl, h14.carry hl, bthen hb hl⟩
            · have z : (E2 == 0) = false := by rw [beq_eq_false_iff_ne]; exact h1
              have G := Lib.hid (HX1.out h1)
              clear h1
              go_wp2_with fail
              go_meet
              exact ⟨by rw [G.out.2]; exact Rw.nil 2 pV _ none 0, by rw [G.out.1], h14, hb⟩
          case rest =>
            clear h14 hb
            obtain ⟨h22, rfl, h14, hb⟩ := hcut
            go_wp2_with fail
            refine (told_any _ SR wc HSL.out h14).mono ?_
            rintro e w24 ⟨⟨u, rfl, hu⟩, hl⟩
            replace h22 := h22.carry hl
            replace hb := bthen hb hl
            clear hl h14
            replace hu : Prs _ _ _ := hu.rw pV_len
            go_wp2_with fail
            refine (same_train _ _ SR w24 hu h22 (by have := HSL.out; omega)).mono ?_
            rintro e w25 ⟨rfl, hl⟩
            replace hb := bthen hb hl
            clear hl hu h22
            go_wp2
            go_ret
            exact ⟨rfl, bthen K3.out hb⟩
end Go.Proofs.YtgdkomgfalkihaaGreatDoor


/- The law ValveTelegrams. -/
import Derived.Test.YtgdkomgfalkihaaGreatDoorVfH
namespace Go.Proofs.YtgdkomgfalkihaaGreatDoor
set_option linter.unusedSimpArgs false
set_option linter.unusedVariables false
open Go.RowKit
theorem short_le {n : Nat} (h : shortB n = true) : n ≤ 257 := by
 unfold shortB at h
 simp at h; omega
theorem shortT_le {n : Nat} (h : shortT n = true) : n ≤ 1025 := by
 unfold shortT at h
 simp at h; omega
theorem tel_some {c : Int} {l : List P2} (h : logE c l = 0) : telR c l = l.map (telG c) ∧ ∀ x ∈ l, 0 ≤ x.1 ∧ x.1 ≤ 1000000 := by
 refine ⟨by unfold telR; rw [if_pos h], fun x hx => ?_⟩
 have k := (firstE_cons0.1 (firstE_cons0.1 (show firstE [withinE c 0 255, trainE l] = 0 from h)).2).1
 have := ((trainE_ok k).mem hx).1
 omega
theorem tel_none {c : Int} {l : List P2} (h : logE c l ≠ 0) : telR c l = [] := by unfold telR; rw [if_neg h]
theorem rc_is {src start : Int} {l : List Tg} (h : rcE1 src start l = 0) : (0 ≤ start ∧ start ≤ 100000) ∧ l.length ≤ 1024 ∧ ∀ t ∈ l, (0 ≤ t.2.1 ∧ t.2.1 ≤ 65535) ∧ ∀ x ∈ tgL t, -32768 ≤ x ∧ x ≤ 32767 := by
 have hE1 : rcE1 src start l = firstE [ctE l, withinE src 0 255, withinE start 0 100000] := rfl
 rw [hE1, firstE_cons0, firstE_cons0, firstE_cons0, withinE_zero, withinE_zero] at h
 have h1 := ctE_ok h.1
 exact ⟨h.2.2.1, h1.1, fun t ht => ⟨(tgE_ok (h1.2 t ht)).2.1, (tgE_ok (h1.2 t ht)).2.2⟩⟩
theorem rcR_len (src start : Int) (l : List Tg) : (rcR src start l).2.length ≤ l.length := by
 unfold rcR
 split
 ·exact rcK_len _ _ _ _
 ·simp
theorem telR_len (c : Int) (l : List P2) : (telR c l).length ≤ l.length := by
 unfold telR
 split <;> simp
set_option maxRecDepth 100000 in
set_option maxHeartbeats 16000000 in
theorem tel_law (TA : ∀ W, Pows W → Heads W → Calls Tryz.prog 7 #[] W fun e w' => e = .returned (.bool true) ∧ Below W.heap.size W w')
 (va vb : Value) (ca src start : Int) (la : List P2) (lt : List Tg) (w : World) (hp : Pows w) (hh : Heads w) (hva : Prs w va la) (hvb : Rw 6 tV w vb lt) :
 Calls Tryz.prog 4 #[.agg #[.int .i64 ca, va], vb, .agg #[.int .i64 src, .int .i64 start]] w fun e w' => e = .returned (.bool true) ∧ Below w.heap.size w w' := by
 have TA := Lib.hid TA
 obtain ⟨a1, p1, hve, -⟩ := hva.slice
 obtain ⟨N, hN⟩ : ∃ N, N = la.length := ⟨_, rfl⟩
 rw [← hN] at hve
 subst hve
 obtain ⟨a2, p2, hve, -⟩ := hvb.slice
 obtain ⟨M, hM⟩ : ∃ M, M = lt.length := ⟨_, rfl⟩
 rw [← hM] at hve
 subst hve
 have T1 := Lib.hid (fun W => Short_any a1 N p1 W)
 have T2 := Lib.hid (fun W => ShortTelegrams_any a2 M p2 W)
 have HP := Lib.hid hp
 have HH := Lib.hid hh
 have HA := Lib.hid hva
 have HB := Lib.hid hvb
 have HN := Lib.hid hN
 have HM := Lib.hid hM
 have HS1 := Lib.hid (fun h : shortB N = true => short_le h)
 have HS2 := Lib.hid (fun h : shortT M = true => shortT_le h)
 obtain ⟨s1, hs1⟩ : ∃ b, b = shortB N := ⟨_, rfl⟩
 obtain ⟨s2, hs2⟩ : ∃ b, b = shortT M := ⟨_, rfl⟩
 rw [← hs1] at T1 HS1
 rw [← hs2] at T2 HS2
 clear hp hh hva hvb hN hM hs1 hs2
 go_enter Tryz.func4, Tryz.ntmps4
 go_upto_region 1 with fail
 obtain ⟨W1, hW1⟩ : ∃ v, v = World.alloc w (Obj.cells #[.int .i64 ca, .slice a1 N p1] 24) := ⟨_, rfl⟩
 have kW1 : Below w.heap.size w W1 := by rw [hW1]; exact below_new _ _
 have iW1 : Blk W1 (w.heap.size) 24 [.int .i64 ca, .slice a1 N p1] := by rw [hW1]; exact Blk.new _ _ _
 have sW1 : W1.heap.size = w.heap.size + 1 := by rw [hW1]; simp
 rw [← hW1]
 clear hW1
 obtain ⟨W3, hW3⟩ : ∃ v, v = World.alloc W1 (Obj.cells #[.int .i64 src, .int .i64 start] 25) := ⟨_, rfl⟩
 have kW3 : Below W1.heap.size W1 W3 := by rw [hW3]; exact below_new _ _
 have iW3 : Blk W3 (w.heap.size + 1) 25 [.int .i64 src, .int .i64 start] := by rw [hW3, ← sW1]; exact Blk.new _ _ _
 have sW3 : W3.heap.size = w.heap.size + 1 + 1 := by rw [hW3]; simp [sW1]
 rw [← hW3]
 clear hW3
 have i3 := iW1.carry kW3
 have i5 := iW3
 have k3 := bthen kW1 kW3
 clear iW1 iW3 kW1 kW3 sW1 sW3
 generalize w.heap.size + 1 = B5 at i5 ⊢
 have I3 := Lib.hid i3
 have I5 := Lib.hid i5
 have K3 := Lib.hid k3
 clear i3 i5 k3
 go_wp2_with fail
 refine (TA.out W3 (HP.out.carry K3.out) (HH.out.carry K3.out)).mono ?_
 rintro e w1 ⟨rfl, hb⟩
 have c31 := (I3.out.carry hb).cell (j := 1) (v := .slice a1 N p1) rfl
 go_wp2_with fail
 refine (T1.out w1).mono ?_
 rintro e w2 ⟨rfl, rfl⟩
 cases s1 with
 | false =>
   go_wp2_with fail
   refine (TA.out w1 (HP.out.carry (bthen K3.out hb)) (HH.out.carry (bthen K3.out hb))).mono ?_
   rintro e w2 ⟨rfl, hb2⟩
   clear c31
   go_wp2
   go_ret
   exact ⟨rfl, bthen K3.out (bthen hb hb2)⟩
 | true =>
   go_wp2_with fail
   refine (T2.out w1).mono ?_
   rintro e w2 ⟨rfl, rfl⟩
   clear T1 T2 c31
   cases s2 with
   | false =>
     go_wp2_with fail
     refine (TA.out w1 (HP.out.carry (bthen K3.out hb)) (HH.out.carry (bthen K3.out hb))).mono ?_
     rintro e w2 ⟨rfl, hb2⟩
     go_wp2
     go_ret
     exact ⟨rfl, bthen K3.out (bthen hb hb2)⟩
   | true =>
     have h1 := HS1.out (by trivial)
     have h2 := HS2.out (by trivial)
     have hPw := HP.out.carry (bthen K3.out hb)
     clear HS1 HS2 TA HH
     have L1 := Lib.hid (fun W (h : Prs W (.slice a1 N p1) la) => logL_any ca a1 N p1 la W (by rw [← HN.out]; omega) h)
     have TT := Lib.hid (fun x1 m1 q1 W h => Telegrams_any ca x1 m1 q1 la W (by rw [← HN.out]; omega) h)
     have TG := Lib.hid (fun W (h : Rw 6 tV W (.slice a2 M p2) lt) => telegramsL_any (.slice a2 M p2) lt W (by rw [← HM.out]; omega) h)
     have TR := Lib.hid (fun u W h hp => Received_any u src start lt W (by rw [← HM.out]; omega) h hp)
     have TC1 := Lib.hid (fun W (h : Prs W (.slice a1 N p1) la) => CheckLogR_any ca a1 N p1 la W (by rw [← HN.out]; omega) h)
     have TC2 := Lib.hid (fun W (h : Rw 6 tV W (.slice a2 M p2) lt) => CheckTelegramsR_any (.slice a2 M p2) lt W (by rw [← HM.out]; omega) h)
     have TK := Lib.hid (fun W => CheckTickR_any start W)
     have TS := Lib.hid (fun W => CheckRange_any src 0 255 W)
     have c30 := (I3.out.carry hb).cell (j := 0) (v := .int .i64 ca) rfl
     have c31 := (I3.out.carry hb).cell (j := 1) (v := .slice a1 N p1) rfl
     go_wp2_with fail
     refine (L1.out w1 (HA.out.carry (bthen K3.out hb))).mono ?_
     rintro e w4 ⟨⟨x1, m1, q1, rfl, hL⟩, hl⟩
     replace hb := bthen hb hl
     clear c30 c31 hl
     go_wp2_with fail
     refine (TT.out x1 m1 q1 w4 hL).mono ?_
     rintro e w5 ⟨⟨u7, rfl, h7⟩, hl⟩
     replace hb := bthen hb hl
     clear hl hL
     have hR : ∃ Rc Rl E, rcR src start lt = (Rc, Rl) ∧ rcE src start lt = E := ⟨_, _, _, rfl, rfl⟩
     obtain ⟨Rc, Rl, E2, hR1, hR2⟩ := hR
     rw [hR1, hR2] at TR
     have HR1 := Lib.hid hR1
     have HR2 := Lib.hid hR2
     clear hR1 hR2
     have c50 := I5.out.cell (j := 0) (v := .int .i64 src) rfl
     have c51 := I5.out.cell (j := 1) (v := .int .i64 start) rfl
     go_upto_region 4 with fail
     go_cut [9, 10] from 35 to 44 (fun u9 u10 wn => u10 = .int .i64 E2 ∧ ∃ G9 ra rn rcap, u9 = .pointer (some ⟨G9, 0, none⟩) ∧ Blk wn G9 33 [.int .i64 Rc, .slice ra rn rcap] ∧ Prs wn (.slice ra rn rcap) Rl ∧ Rw 6 tV wn u7 (telR ca la) ∧ Below W3.heap.size W3 wn)
     case first =>
      refine wp_region_held_drew (S := (fun W => W.cell? ⟨B5, 0, none⟩ = some (.int .i64 src) ∧ W.cell? ⟨B5, 1, none⟩ = some (.int .i64 start))) (by kernel_rfl) ⟨cellb c50 hb.drew, cellb c51 hb.drew⟩ (fun hHeld0 => ?_)
      obtain ⟨wzd, hwz⟩ : ∃ v, v = w5.drew := ⟨_, rfl⟩
      rw [← hwz] at hHeld0 ⊢
      have hbzd : Below W3.heap.size W3 wzd := by rw [hwz]; exact hb.drew
      have hlzd : Below w5.heap.size w5 wzd := by rw [hwz]; exact (Below.refl _ _).drew
      have h7 := h7.carry hlzd
      clear hwz hlzd
      refine wpAnyH_take (i := 0) (oi := { dst := some 36, op := Op.move (Operand.tmp 1), type := 52, pos := "law.go:230", after := #[], guard := none }) (v := ?_) rfl (by kernel_rfl) (by kernel_rfl) (by kernel_rfl) (fun _ _ _ h => h) (Or.inl ⟨by rfl, ?_⟩) (by assumption) ?_
      rotate_left
      ·(intro w hSw; (try dsimp only at hSw); go_simp); (try with_reducible rfl)
      try simp only [Act.put, zS]
      refine wpAnyH_take (i := 2) (oi := { dst := some 38, op := Op.indexAddr 25 (Operand.tmp 5) (Operand.const (Value.int IntKind.i64 0)), type := 0, pos := "law.go:230", after := #[], guard := none }) (v := ?_) rfl (by kernel_rfl) (by kernel_rfl) (by kernel_rfl) (fun _ _ _ h => h) (Or.inl ⟨by rfl, ?_⟩) (by assumption) ?_
      rotate_left
      ·(intro w hSw; (try dsimp only at hSw); go_simp); (try with_reducible rfl)
      try simp only [Act.put, zS]
      refine wpAnyH_take (i := 3) (oi := { dst := some 39, op := Op.load 3 (Operand.tmp 38), type := 3, pos := "law.go:230", after := #[{ on := 2, ground := Ground.data }], guard := none }) (v := ?_) rfl (by kernel_rfl) (by kernel_rfl) (by kernel_rfl) (fun _ _ _ h => h) (Or.inl ⟨by rfl, ?_⟩) (by assumption) ?_
      rotate_left
      ·(intro w hSw; (try dsimp only at hSw); go_simp); (try with_reducible rfl)
      try simp only [Act.put, zS]
      refine wpAnyH_take (i := 4) (oi := { dst := some 40, op := Op.indexAddr 25 (Operand.tmp 5) (Operand.const (Value.int IntKind.i64 1)), type := 0, pos := "law.go:230", after := #[], guard := none }) (v := ?_) rfl (by kernel_rfl) (by kernel_rfl) (by kernel_rfl) (fun _ _ _ h => h) (Or.inl ⟨by rfl, ?_⟩) (by assumption) ?_
      rotate_left
      ·(intro w hSw; (try dsimp only at hSw); go_simp); (try with_reducible rfl)
      try simp only [Act.put, zS]
      refine wpAnyH_take (i := 5) (oi := { dst := some 41, op := Op.load 3 (Operand.tmp 40), type := 3, pos := "law.go:230", after := #[{ on := 4, ground := Ground.data }], guard := none }) (v := ?_) rfl (by kernel_rfl) (by kernel_rfl) (by kernel_rfl) (fun _ _ _ h => h) (Or.inl ⟨by rfl, ?_⟩) (by assumption) ?_
      rotate_left
      ·(intro w hSw; (try dsimp only at hSw); go_simp); (try with_reducible rfl)
      try simp only [Act.put, zS]
      refine wpAnyH_ready (rs := [1, 10]) (by kernel_rfl) (by simp) ?_
      refine (AllReadyH.cons (o := { dst := some 37, op := Op.call { callee := Callee.value (Operand.func 25), args := #[Operand.tmp 36], argTypes := #[52] }, type := 54, pos := "law.go:230", after := #[{ on := 0, ground := Ground.data }], guard := none }) rfl (fun K hK => ?_) (AllReadyH.cons (o := { dst := some 9, op := Op.alloc 33, type := 0, pos := "law.go:230", after := #[], guard := none }) rfl (fun K hK => ?_) AllReadyH.nil))
      ·go_simp
       refine (TG.out wzd (HB.out.carry (bthen K3.out hbzd))).mono ?_
       rintro e wz1 ⟨⟨ut, rfl, ht⟩, hl⟩
       replace ht : Rw 6 tV _ _ lt := ht.rw tV_len
       (try go_wp2_with fail)
       have hbz1 := bthen hbzd hl
       have h7 := h7.carry hl
       clear hl
       refine hK.out _ _ ⟨cellb c50 hbz1, cellb c51 hbz1⟩ (fun hHeld1 => ?_)
       clear hK K hHeld0
       try simp only [Act.put, zS]
       refine wpAnyH_ready (rs := [6, 10]) (by kernel_rfl) (by simp) ?_
       refine (AllReadyH.cons (o := { dst := some 42, op := Op.call { callee := Callee.value (Operand.func 24), args := #[Operand.tmp 37, Operand.tmp 39, Operand.tmp 41], argTypes := #[54, 3, 3] }, type := 57, pos := "law.go:230", after := #[{ on := 1, ground := Ground.data }, { on := 3, ground := Ground.data }, { on := 5, ground := Ground.data }, { on := 1, ground := Ground.chain }], guard := none }) rfl (fun K hK => ?_) (AllReadyH.cons (o := { dst := some 9, op := Op.alloc 33, type := 0, pos := "law.go:230", after := #[], guard := none }) rfl (fun K hK => ?_) AllReadyH.nil))
       ·go_simp
        refine (TR.out ut wz1 ht (HP.out.carry (bthen K3.out hbz1))).mono ?_
        rintro e wz6 ⟨⟨ra, rn, rcap, rfl, h9⟩, hl⟩
        (try go_wp2_with fail)
        have hbz6 := bthen hbz1 hl
        have h7 := h7.carry hl
        have ht := ht.carry hl
        clear hl
        refine hK.out _ _ ⟨cellb c50 hbz6, cellb c51 hbz6⟩ (fun hHeld2 => ?_)
        clear hK K hHeld1
        try simp only [Act.put, zS]
        refine wpAnyH_take (i := 7) (oi := { dst := some 35, op := Op.move (Operand.tmp 42), type := 57, pos := "law.go:230", after := #[{ on := 6, ground := Ground.data }], guard := none }) (v := ?_) rfl (by kernel_rfl) (by kernel_rfl) (by kernel_rfl) (fun _ _ _ h => h) (Or.inl ⟨by rfl, ?_⟩) (by assumption) ?_
        rotate_left
        ·(intro w hSw; (try dsimp only at hSw); go_simp); (try with_reducible rfl)
        try simp only [Act.put, zS]
        refine wpAnyH_take (i := 8) (oi := { dst := some 43, op := Op.extract (Operand.tmp 35) 0, type := 33, pos := "law.go:230", after := #[{ on := 7, ground := Ground.data }], guard := none }) (v := ?_) rfl (by kernel_rfl) (by kernel_rfl) (by kernel_rfl) (fun _ _ _ h => h) (Or.inl ⟨by rfl, ?_⟩) (by assumption) ?_
        rotate_left
        ·(intro w hSw; (try dsimp only at hSw); go_simp); (try with_reducible rfl)
        try simp only [Act.put, zS]
        refine wpAnyH_take (i := 9) (oi := { dst := some 44, op := Op.extract (Operand.tmp 35) 1, type := 28, pos := "law.go:230", after := #[{ on := 7, ground := Ground.data }, { on := 11, ground := Ground.gcOnly Departure.lateStores }], guard := none }) (v := ?_) rfl (by kernel_rfl) (by kernel_rfl) (by kernel_rfl) (fun _ _ _ h => h) (Or.inl ⟨by rfl, ?_⟩) (by assumption) ?_
        rotate_left
        ·(intro w hSw; (try dsimp only at hSw); go_simp); (try with_reducible rfl)
        try simp only [Act.put, zS]
        refine wpAnyH_ready (rs := [10]) (by kernel_rfl) (by simp) ?_
        refine (AllReadyH.cons (o := { dst := some 9, op := Op.alloc 33, type := 0, pos := "law.go:230", after := #[], guard := none }) rfl (fun K hK => ?_) AllReadyH.nil)
        go_simp
        obtain ⟨wz10, hwz⟩ : ∃ v, v = wz6.alloc (Obj.cells #[.int .i64 0, .slice none 0 0] 33) := ⟨_, rfl⟩
        rw [← hwz]
        have hl : Below wz6.heap.size wz6 wz10 := by rw [hwz]; exact below_new _ _
        have hbz10 := bthen hbz6 hl
        have i9 : Blk wz10 wz6.heap.size 33 [.int .i64 0, .slice none 0 0] := by rw [hwz]; exact Blk.new _ _ _
        have hG9 : W3.heap.size ≤ wz6.heap.size := (hbz6).size
        generalize wz6.heap.size = G9 at i9 hG9 ⊢
        clear hwz
        have h7 := h7.carry hl
        have ht := ht.carry hl
        have h9 := h9.carry hl
        clear hl
        refine hK.out _ _ ⟨cellb c50 hbz10, cellb c51 hbz10⟩ (fun hHeld3 => ?_)
        clear hK K hHeld2
        try simp only [Act.put, zS]
        refine wpAnyH_ready (rs := [11]) (by kernel_rfl) (by simp) ?_
        refine (AllReadyH.cons (o := { dst := none, op := Op.store 33 (Operand.tmp 9) (Operand.tmp 43), type := 0, pos := "law.go:230", after := #[{ on := 10, ground := Ground.data }, { on := 8, ground := Ground.data }, { on := 6, ground := Ground.chain }, { on := 0, ground := Ground.phase }, { on := 1, ground := Ground.phase }, { on := 2, ground := Ground.phase }, { on := 3, ground := Ground.phase }, { on := 4, ground := Ground.phase }, { on := 5, ground := Ground.phase }, { on := 6, ground := Ground.phase }, { on := 7, ground := Ground.phase }, { on := 8, ground := Ground.phase }, { on := 9, ground := Ground.textOnly Departure.lateStores }, { on := 10, ground := Ground.phase }], guard := none }) rfl (fun K hK => ?_) AllReadyH.nil)
        have f0 := i9.frozen 0
        have f1 := i9.frozen 1
        have g0 := i9.cell (j := 0) (v := .int .i64 0) rfl
        have g1 := i9.cell (j := 1) (v := .slice none 0 0) rfl
        go_simp
        obtain ⟨wz11, hwz⟩ : ∃ v, v = ((wz10.setCell ⟨G9, 0, none⟩ (.int .i64 Rc)).setCell ⟨G9, 1, none⟩ (.slice ra rn rcap)) := ⟨_, rfl⟩
        rw [← hwz]
        have hbz11 : Below W3.heap.size W3 wz11 := by rw [hwz]; exact below_setC (below_setC hbz10 G9 0 hG9 (.int .i64 Rc)) G9 1 hG9 (.slice ra rn rcap)
        have j9 := (i9.set 0 (.int .i64 Rc)).set 1 (.slice ra rn rcap)
        rw [← hwz] at j9
        have i9b : Blk _ G9 33 [.int .i64 Rc, .slice none 0 0] := i9.set 0 (.int .i64 Rc)
        have k7 := Rw.setLog (fun y : Tg => ⟨_, _, rfl, rfl⟩) (Rw.setLog (fun y : Tg => ⟨_, _, rfl, rfl⟩) h7 i9 0 (.int .i64 Rc)) i9b 1 (.slice ra rn rcap)
        have k9 := Rw.setLog (fun y : P2 => ⟨_, _, rfl, rfl⟩) (Rw.setLog (fun y : P2 => ⟨_, _, rfl, rfl⟩) h9 i9 0 (.int .i64 Rc)) i9b 1 (.slice ra rn rcap)
        rw [← hwz] at k7 k9
        clear hwz
        refine hK.out _ _ ⟨cellb c50 hbz11, cellb c51 hbz11⟩ (fun hHeld4 => ?_)
        clear hK K hHeld3
        try simp only [Act.put, zS]
        refine wpAnyH_take (i := 12) (oi := { dst := some 10, op := Op.assign (Operand.tmp 44), type := 28, pos := "law.go:230", after := #[{ on := 9, ground := Ground.data }, { on := 11, ground := Ground.chain }, { on := 0, ground := Ground.phase }, { on := 1, ground := Ground.phase }, { on := 2, ground := Ground.phase }, { on := 3, ground := Ground.phase }, { on := 4, ground := Ground.phase }, { on := 5, ground := Ground.phase }, { on := 6, ground := Ground.phase }, { on := 7, ground := Ground.phase }, { on := 8, ground := Ground.phase }, { on := 9, ground := Ground.phase }, { on := 10, ground := Ground.phase }, { on := 11, ground := Ground.phase }], guard := none }) (v := ?_) rfl (by kernel_rfl) (by kernel_rfl) (by kernel_rfl) (fun _ _ _ h => h) (Or.inl ⟨by rfl, ?_⟩) (by assumption) ?_
        rotate_left
        ·(intro w hSw; (try dsimp only at hSw); go_simp); (try with_reducible rfl)
        try simp only [Act.put, zS]
        refine wpAnyH_done (by kernel_rfl) ?_ _
        clear hHeld4
        have hb2 := hbz11
        obtain ⟨W6, hW6⟩ : ∃ v, v = wz11 := ⟨_, rfl⟩
        rw [← hW6] at hb2 j9 k7 k9 ⊢
        clear hW6
        go_wp2_with fail
        go_meet
        exact ⟨rfl, _, _, _, _, rfl, j9, k9, k7, hb2⟩
       ·go_simp
        obtain ⟨wz10, hwz⟩ : ∃ v, v = wz1.alloc (Obj.cells #[.int .i64 0, .slice none 0 0] 33) := ⟨_, rfl⟩
        rw [← hwz]
        have hl : Below wz1.heap.size wz1 wz10 := by rw [hwz]; exact below_new _ _
        have hbz10 := bthen hbz1 hl
        have i9 : Blk wz10 wz1.heap.size 33 [.int .i64 0, .slice none 0 0] := by rw [hwz]; exact Blk.new _ _ _
        have hG9 : W3.heap.size ≤ wz1.heap.size := (hbz1).size
        generalize wz1.heap.size = G9 at i9 hG9 ⊢
        clear hwz
        have h7 := h7.carry hl
        have ht := ht.carry hl
        clear hl
        refine hK.out _ _ ⟨cellb c50 hbz10, cellb c51 hbz10⟩ (fun hHeld2 => ?_)
        clear hK K hHeld1
        try simp only [Act.put, zS]
        refine wpAnyH_ready (rs := [6]) (by kernel_rfl) (by simp) ?_
        refine (AllReadyH.cons (o := { dst := some 42, op := Op.call { callee := Callee.value (Operand.func 24), args := #[Operand.tmp 37, Operand.tmp 39, Operand.tmp 41], argTypes := #[54, 3, 3] }, type := 57, pos := "law.go:230", after := #[{ on := 1, ground := Ground.data }, { on := 3, ground := Ground.data }, { on := 5, ground := Ground.data }, { on := 1, ground := Ground.chain }], guard := none }) rfl (fun K hK => ?_) AllReadyH.nil)
        go_simp
        refine (TR.out ut wz10 ht (HP.out.carry (bthen K3.out hbz10))).mono ?_
        rintro e wz6 ⟨⟨ra, rn, rcap, rfl, h9⟩, hl⟩
        (try go_wp2_with fail)
        have hbz6 := bthen hbz10 hl
        have h7 := h7.carry hl
        have ht := ht.carry hl
        have i9 := i9.carry hl
        clear hl
        refine hK.out _ _ ⟨cellb c50 hbz6, cellb c51 hbz6⟩ (fun hHeld3 => ?_)
        clear hK K hHeld2
        try simp only [Act.put, zS]
        refine wpAnyH_take (i := 7) (oi := { dst := some 35, op := Op.move (Operand.tmp 42), type := 57, pos := "law.go:230", after := #[{ on := 6, ground := Ground.data }], guard := none }) (v := ?_) rfl (by kernel_rfl) (by kernel_rfl) (by kernel_rfl) (fun _ _ _ h => h) (Or.inl ⟨by rfl, ?_⟩) (by assumption) ?_
        rotate_left
        ·(intro w hSw; (try dsimp only at hSw); go_simp); (try with_reducible rfl)
        try simp only [Act.put, zS]
        refine wpAnyH_take (i := 8) (oi := { dst := some 43, op := Op.extract (Operand.tmp 35) 0, type := 33, pos := "law.go:230", after := #[{ on := 7, ground := Ground.data }], guard := none }) (v := ?_) rfl (by kernel_rfl) (by kernel_rfl) (by kernel_rfl) (fun _ _ _ h => h) (Or.inl ⟨by rfl, ?_⟩) (by assumption) ?_
        rotate_left
        ·(intro w hSw; (try dsimp only at hSw); go_simp); (try with_reducible rfl)
        try simp only [Act.put, zS]
        refine wpAnyH_take (i := 9) (oi := { dst := some 44, op := Op.extract (Operand.tmp 35) 1, type := 28, pos := "law.go:230", after := #[{ on := 7, ground := Ground.data }, { on := 11, ground := Ground.gcOnly Departure.lateStores }], guard := none }) (v := ?_) rfl (by kernel_rfl) (by kernel_rfl) (by kernel_rfl) (fun _ _ _ h => h) (Or.inl ⟨by rfl, ?_⟩) (by assumption) ?_
        rotate_left
        ·(intro w hSw; (try dsimp only at hSw); go_simp); (try with_reducible rfl)
        try simp only [Act.put, zS]
        refine wpAnyH_ready (rs := [11]) (by kernel_rfl) (by simp) ?_
        refine (AllReadyH.cons (o := { dst := none, op := Op.store 33 (Operand.tmp 9) (Operand.tmp 43), type := 0, pos := "law.go:230", after := #[{ on := 10, ground := Ground.data }, { on := 8, ground := Ground.data }, { on := 6, ground := Ground.chain }, { on := 0, ground := Ground.phase }, { on := 1, ground := Ground.phase }, { on := 2, ground := Ground.phase }, { on := 3, ground := Ground.phase }, { on := 4, ground := Ground.phase }, { on := 5, ground := Ground.phase }, { on := 6, ground := Ground.phase }, { on := 7, ground := Ground.phase }, { on := 8, ground := Ground.phase }, { on := 9, ground := Ground.textOnly Departure.lateStores }, { on := 10, ground := Ground.phase }], guard := none }) rfl (fun K hK => ?_) AllReadyH.nil)
        have f0 := i9.frozen 0
        have f1 := i9.frozen 1
        have g0 := i9.cell (j := 0) (v := .int .i64 0) rfl
        have g1 := i9.cell (j := 1) (v := .slice none 0 0) rfl
        go_simp
        obtain ⟨wz11, hwz⟩ : ∃ v, v = ((wz6.setCell ⟨G9, 0, none⟩ (.int .i64 Rc)).setCell ⟨G9, 1, none⟩ (.slice ra rn rcap)) := ⟨_, rfl⟩
        rw [← hwz]
        have hbz11 : Below W3.heap.size W3 wz11 := by rw [hwz]; exact below_setC (below_setC hbz6 G9 0 hG9 (.int .i64 Rc)) G9 1 hG9 (.slice ra rn rcap)
        have j9 := (i9.set 0 (.int .i64 Rc)).set 1 (.slice ra rn rcap)
        rw [← hwz] at j9
        have i9b : Blk _ G9 33 [.int .i64 Rc, .slice none 0 0] := i9.set 0 (.int .i64 Rc)
        have k7 := Rw.setLog (fun y : Tg => ⟨_, _, rfl, rfl⟩) (Rw.setLog (fun y : Tg => ⟨_, _, rfl, rfl⟩) h7 i9 0 (.int .i64 Rc)) i9b 1 (.slice ra rn rcap)
        have k9 := Rw.setLog (fun y : P2 => ⟨_, _, rfl, rfl⟩) (Rw.setLog (fun y : P2 => ⟨_, _, rfl, rfl⟩) h9 i9 0 (.int .i64 Rc)) i9b 1 (.slice ra rn rcap)
        rw [← hwz] at k7 k9
        clear hwz
        refine hK.out _ _ ⟨cellb c50 hbz11, cellb c51 hbz11⟩ (fun hHeld4 => ?_)
        clear hK K hHeld3
        try simp only [Act.put, zS]
        refine wpAnyH_take (i := 12) (oi := { dst := some 10, op := Op.assign (Operand.tmp 44), type := 28, pos := "law.go:230", after := #[{ on := 9, ground := Ground.data }, { on := 11, ground := Ground.chain }, { on := 0, ground := Ground.phase }, { on := 1, ground := Ground.phase }, { on := 2, ground := Ground.phase }, { on := 3, ground := Ground.phase }, { on := 4, ground := Ground.phase }, { on := 5, ground := Ground.phase }, { on := 6, ground := Ground.phase }, { on := 7, ground := Ground.phase }, { on := 8, ground := Ground.phase }, { on := 9, ground := Ground.phase }, { on := 10, ground := Ground.phase }, { on := 11, ground := Ground.phase }], guard := none }) (v := ?_) rfl (by kernel_rfl) (by kernel_rfl) (by kernel_rfl) (fun _ _ _ h => h) (Or.inl ⟨by rfl, ?_⟩) (by assumption) ?_
        rotate_left
        ·(intro w hSw; (try dsimp only at hSw); go_simp); (try with_reducible rfl)
        try simp only [Act.put, zS]
        refine wpAnyH_done (by kernel_rfl) ?_ _
        clear hHeld4
        have hb2 := hbz11
        obtain ⟨W6, hW6⟩ : ∃ v, v = wz11 := ⟨_, rfl⟩
        rw [← hW6] at hb2 j9 k7 k9 ⊢
        clear hW6
        go_wp2_with fail
        go_meet
        exact ⟨rfl, _, _, _, _, rfl, j9, k9, k7, hb2⟩
      ·go_simp
       obtain ⟨wz10, hwz⟩ : ∃ v, v = wzd.alloc (Obj.cells #[.int .i64 0, .slice none 0 0] 33) := ⟨_, rfl⟩
       rw [← hwz]
       have hl : Below wzd.heap.size wzd wz10 := by rw [hwz]; exact below_new _ _
       have hbz10 := bthen hbzd hl
       have i9 : Blk wz10 wzd.heap.size 33 [.int .i64 0, .slice none 0 0] := by rw [hwz]; exact Blk.new _ _ _
       have hG9 : W3.heap.size ≤ wzd.heap.size := (hbzd).size
       generalize wzd.heap.size = G9 at i9 hG9 ⊢
       clear hwz
       have h7 := h7.carry hl
       clear hl
       refine hK.out _ _ ⟨cellb c50 hbz10, cellb c51 hbz10⟩ (fun hHeld1 => ?_)
       clear hK K hHeld0
       try simp only [Act.put, zS]
       refine wpAnyH_ready (rs := [1]) (by kernel_rfl) (by simp) ?_
       refine (AllReadyH.cons (o := { dst := some 37, op := Op.call { callee := Callee.value (Operand.func 25), args := #[Operand.tmp 36], argTypes := #[52] }, type := 54, pos := "law.go:230", after := #[{ on := 0, ground := Ground.data }], guard := none }) rfl (fun K hK => ?_) AllReadyH.nil)
       go_simp
       refine (TG.out wz10 (HB.out.carry (bthen K3.out hbz10))).mono ?_
       rintro e wz1 ⟨⟨ut, rfl, ht⟩, hl⟩
       replace ht : Rw 6 tV _ _ lt := ht.rw tV_len
       (try go_wp2_with fail)
       have hbz1 := bthen hbz10 hl
       have h7 := h7.carry hl
       have i9 := i9.carry hl
       clear hl
       refine hK.out _ _ ⟨cellb c50 hbz1, cellb c51 hbz1⟩ (fun hHeld2 => ?_)
       clear hK K hHeld1
       try simp only [Act.put, zS]
       refine wpAnyH_ready (rs := [6]) (by kernel_rfl) (by simp) ?_
       refine (AllReadyH.cons (o := { dst := some 42, op := Op.call { callee := Callee.value (Operand.func 24), args := #[Operand.tmp 37, Operand.tmp 39, Operand.tmp 41], argTypes := #[54, 3, 3] }, type := 57, pos := "law.go:230", after := #[{ on := 1, ground := Ground.data }, { on := 3, ground := Ground.data }, { on := 5, ground := Ground.data }, { on := 1, ground := Ground.chain }], guard := none }) rfl (fun K hK => ?_) AllReadyH.nil)
       go_simp
       refine (TR.out ut wz1 ht (HP.out.carry (bthen K3.out hbz1))).mono ?_
       rintro e wz6 ⟨⟨ra, rn, rcap, rfl, h9⟩, hl⟩
       (try go_wp2_with fail)
       have hbz6 := bthen hbz1 hl
       have h7 := h7.carry hl
       have i9 := i9.carry hl
       have ht := ht.carry hl
       clear hl
       refine hK.out _ _ ⟨cellb c50 hbz6, cellb c51 hbz6⟩ (fun hHeld3 => ?_)
       clear hK K hHeld2
       try simp only [Act.put, zS]
       refine wpAnyH_take (i := 7) (oi := { dst := some 35, op := Op.move (Operand.tmp 42), type := 57, pos := "law.go:230", after := #[{ on := 6, ground := Ground.data }], guard := none }) (v := ?_) rfl (by kernel_rfl) (by kernel_rfl) (by kernel_rfl) (fun _ _ _ h => h) (Or.inl ⟨by rfl, ?_⟩) (by assumption) ?_
       rotate_left
       ·(intro w hSw; (try dsimp only at hSw); go_simp); (try with_reducible rfl)
       try simp only [Act.put, zS]
       refine wpAnyH_take (i := 8) (oi := { dst := some 43, op := Op.extract (Operand.tmp 35) 0, type := 33, pos := "law.go:230", after := #[{ on := 7, ground := Ground.data }], guard := none }) (v := ?_) rfl (by kernel_rfl) (by kernel_rfl) (by kernel_rfl) (fun _ _ _ h => h) (Or.inl ⟨by rfl, ?_⟩) (by assumption) ?_
       rotate_left
       ·(intro w hSw; (try dsimp only at hSw); go_simp); (try with_reducible rfl)
       try simp only [Act.put, zS]
       refine wpAnyH_take (i := 9) (oi := { dst := some 44, op := Op.extract (Operand.tmp 35) 1, type := 28, pos := "law.go:230", after := #[{ on := 7, ground := Ground.data }, { on := 11, ground := Ground.gcOnly Departure.lateStores }], guard := none }) (v := ?_) rfl (by kernel_rfl) (by kernel_rfl) (by kernel_rfl) (fun _ _ _ h => h) (Or.inl ⟨by rfl, ?_⟩) (by assumption) ?_
       rotate_left
       ·(intro w hSw; (try dsimp only at hSw); go_simp); (try with_reducible rfl)
       try simp only [Act.put, zS]
       refine wpAnyH_ready (rs := [11]) (by kernel_rfl) (by simp) ?_
       refine (AllReadyH.cons (o := { dst := none, op := Op.store 33 (Operand.tmp 9) (Operand.tmp 43), type := 0, pos := "law.go:230", after := #[{ on := 10, ground := Ground.data }, { on := 8, ground := Ground.data }, { on := 6, ground := Ground.chain }, { on := 0, ground := Ground.phase }, { on := 1, ground := Ground.phase }, { on := 2, ground := Ground.phase }, { on := 3, ground := Ground.phase }, { on := 4, ground := Ground.phase }, { on := 5, ground := Ground.phase }, { on := 6, ground := Ground.phase }, { on := 7, ground := Ground.phase }, { on := 8, ground := Ground.phase }, { on := 9, ground := Ground.textOnly Departure.lateStores }, { on := 10, ground := Ground.phase }], guard := none }) rfl (fun K hK => ?_) AllReadyH.nil)
       have f0 := i9.frozen 0
       have f1 := i9.frozen 1
       have g0 := i9.cell (j := 0) (v := .int .i64 0) rfl
       have g1 := i9.cell (j := 1) (v := .slice none 0 0) rfl
       go_simp
       obtain ⟨wz11, hwz⟩ : ∃ v, v = ((wz6.setCell ⟨G9, 0, none⟩ (.int .i64 Rc)).setCell ⟨G9, 1, none⟩ (.slice ra rn rcap)) := ⟨_, rfl⟩
       rw [← hwz]
       have hbz11 : Below W3.heap.size W3 wz11 := by rw [hwz]; exact below_setC (below_setC hbz6 G9 0 hG9 (.int .i64 Rc)) G9 1 hG9 (.slice ra rn rcap)
       have j9 := (i9.set 0 (.int .i64 Rc)).set 1 (.slice ra rn rcap)
       rw [← hwz] at j9
       have i9b : Blk _ G9 33 [.int .i64 Rc, .slice none 0 0] := i9.set 0 (.int .i64 Rc)
       have k7 := Rw.setLog (fun y : Tg => ⟨_, _, rfl, rfl⟩) (Rw.setLog (fun y : Tg => ⟨_, _, rfl, rfl⟩) h7 i9 0 (.int .i64 Rc)) i9b 1 (.slice ra rn rcap)
       have k9 := Rw.setLog (fun y : P2 => ⟨_, _, rfl, rfl⟩) (Rw.setLog (fun y : P2 => ⟨_, _, rfl, rfl⟩) h9 i9 0 (.int .i64 Rc)) i9b 1 (.slice ra rn rcap)
       rw [← hwz] at k7 k9
       clear hwz
       refine hK.out _ _ ⟨cellb c50 hbz11, cellb c51 hbz11⟩ (fun hHeld4 => ?_)
       clear hK K hHeld3
       try simp only [Act.put, zS]
       refine wpAnyH_take (i := 12) (oi := { dst := some 10, op := Op.assign (Operand.tmp 44), type := 28, pos := "law.go:230", after := #[{ on := 9, ground := Ground.data }, { on := 11, ground := Ground.chain }, { on := 0, ground := Ground.phase }, { on := 1, ground := Ground.phase }, { on := 2, ground := Ground.phase }, { on := 3, ground := Ground.phase }, { on := 4, ground := Ground.phase }, { on := 5, ground := Ground.phase }, { on := 6, ground := Ground.phase }, { on := 7, ground := Ground.phase }, { on := 8, ground := Ground.phase }, { on := 9, ground := Ground.phase }, { on := 10, ground := Ground.phase }, { on := 11, ground := Ground.phase }], guard := none }) (v := ?_) rfl (by kernel_rfl) (by kernel_rfl) (by kernel_rfl) (fun _ _ _ h => h) (Or.inl ⟨by rfl, ?_⟩) (by assumption) ?_
       rotate_left
       ·(intro w hSw; (try dsimp only at hSw); go_simp); (try with_reducible rfl)
       try simp only [Act.put, zS]
       refine wpAnyH_done (by kernel_rfl) ?_ _
       clear hHeld4
       have hb2 := hbz11
       obtain ⟨W6, hW6⟩ : ∃ v, v = wz11 := ⟨_, rfl⟩
       rw [← hW6] at hb2 j9 k7 k9 ⊢
       clear hW6
       go_wp2_with fail
       go_meet
       exact ⟨rfl, _, _, _, _, rfl, j9, k9, k7, hb2⟩
     case rest =>
      clear h7 hb c50 c51
      obtain ⟨rfl, G9, ra, rn, rcap, rfl, i9, h9, h7, hb⟩ := hcut
      have hF : rcE1 src start lt = firstE [ctE lt, withinE src 0 255, withinE start 0 100000] := rfl
      obtain ⟨e1, he1⟩ : ∃ e, e = logE ca la := ⟨_, rfl⟩
      obtain ⟨e2, he2⟩ : ∃ e, e = ctE lt := ⟨_, rfl⟩
      obtain ⟨e3, he3⟩ : ∃ e, e = withinE src 0 255 := ⟨_, rfl⟩
      obtain ⟨e4, he4⟩ : ∃ e, e = withinE start 0 100000 := ⟨_, rfl⟩
      obtain ⟨E1, hE1⟩ : ∃ e, e = rcE1 src start lt := ⟨_, rfl⟩
      have F1 := Lib.hid (fun u W (h : Ints W u [e2, e3, e4]) => firstL7_any u [e2, e3, e4] W (by simp) h)
      rw [← hE1, ← he2, ← he3, ← he4] at hF
      rw [← hF] at F1
      rw [← he1] at TC1
      rw [← he2] at TC2
      rw [← he3] at TS
      rw [← he4] at TK
      have HE1 := Lib.hid hE1
      have HL1 := Lib.hid he1
      have hA := HA.out.carry (bthen K3.out hb)
      have hB := HB.out.carry (bthen K3.out hb)
      have c30 := (I3.out.carry hb).cell (j := 0) (v := .int .i64 ca) rfl
      have c31 := (I3.out.carry hb).cell (j := 1) (v := .slice a1 N p1) rfl
      have c50 := (I5.out.carry hb).cell (j := 0) (v := .int .i64 src) rfl
      have c51 := (I5.out.carry hb).cell (j := 1) (v := .int .i64 start) rfl
      clear hF he1 he2 he3 he4 hE1 L1 TT TG TR
      go_upto_region 5 with fail
      refine wp_region_E 99 (by kernel_rfl) ?_
      obtain ⟨wz, hwz⟩ : ∃ v, v = wc.drew := ⟨_, rfl⟩
      rw [← hwz]
      have hlz : Below wc.heap.size wc wz := by rw [hwz]; exact (Below.refl _ _).drew
      have hbz := bthen hb hlz
      have c30 := cellb c30 hlz
      have c31 := cellb c31 hlz
      have c50 := cellb c50 hlz
      have c51 := cellb c51 hlz
      have h7 := h7.carry hlz
      have h9 := h9.carry hlz
      have i9 := i9.carry hlz
      have hA := hA.carry hlz
      have hB := hB.carry hlz
      clear hwz hlz
      refine zT 0 { dst := some 45, op := Op.load 24 (Operand.tmp 3), type := 24, pos := "law.go:231", after := #[], guard := none } (v := ?_) rfl (Or.inl ⟨by rfl, ?_⟩) ?_
      rotate_left
      ·(intro w hE; have c30 := cellb c30 hE; have c31 := cellb c31 hE; have c50 := cellb c50 hE; have c51 := cellb c51 hE; (try dsimp only); go_simp); (try with_reducible rfl)
      try simp only [Act.put, zS]
      refine zT 2 { dst := some 47, op := Op.move (Operand.tmp 1), type := 52, pos := "law.go:231", after := #[], guard := none } (v := ?_) rfl (Or.inl ⟨by rfl, ?_⟩) ?_
      rotate_left
      ·(intro w hE; have c30 := cellb c30 hE; have c31 := cellb c31 hE; have c50 := cellb c50 hE; have c51 := cellb c51 hE; (try dsimp only); go_simp); (try with_reducible rfl)
      try simp only [Act.put, zS]
      refine zT 4 { dst := some 49, op := Op.indexAddr 25 (Operand.tmp 5) (Operand.const (Value.int IntKind.i64 0)), type := 0, pos := "law.go:231", after := #[], guard := none } (v := ?_) rfl (Or.inl ⟨by rfl, ?_⟩) ?_
      rotate_left
      ·(intro w hE; have c30 := cellb c30 hE; have c31 := cellb c31 hE; have c50 := cellb c50 hE; have c51 := cellb c51 hE; (try dsimp only); go_simp); (try with_reducible rfl)
      try simp only [Act.put, zS]
      refine zT 5 { dst := some 50, op := Op.load 3 (Operand.tmp 49), type := 3, pos := "law.go:231", after := #[{ on := 4, ground := Ground.data }], guard := none } (v := ?_) rfl (Or.inl ⟨by rfl, ?_⟩) ?_
      rotate_left
      ·(intro w hE; have c30 := cellb c30 hE; have c31 := cellb c31 hE; have c50 := cellb c50 hE; have c51 := cellb c51 hE; (try dsimp only); go_simp); (try with_reducible rfl)
      try simp only [Act.put, zS]
      refine zT 7 { dst := some 52, op := Op.indexAddr 25 (Operand.tmp 5) (Operand.const (Value.int IntKind.i64 1)), type := 0, pos := "law.go:231", after := #[], guard := none } (v := ?_) rfl (Or.inl ⟨by rfl, ?_⟩) ?_
      rotate_left
      ·(intro w hE; have c30 := cellb c30 hE; have c31 := cellb c31 hE; have c50 := cellb c50 hE; have c51 := cellb c51 hE; (try dsimp only); go_simp); (try with_reducible rfl)
      try simp only [Act.put, zS]
      refine zT 8 { dst := some 53, op := Op.load 3 (Operand.tmp 52), type := 3, pos := "law.go:231", after := #[{ on := 7, ground := Ground.data }], guard := none } (v := ?_) rfl (Or.inl ⟨by rfl, ?_⟩) ?_
      rotate_left
      ·(intro w hE; have c30 := cellb c30 hE; have c31 := cellb c31 hE; have c50 := cellb c50 hE; have c51 := cellb c51 hE; (try dsimp only); go_simp); (try with_reducible rfl)
      try simp only [Act.put, zS]
      refine zC 1 { dst := some 46, op := Op.call { callee := Callee.value (Operand.func 14), args := #[Operand.tmp 45], argTypes := #[24] }, type := 3, pos := "law.go:231", after := #[{ on := 0, ground := Ground.data }], guard := none } (fun w hE => TC1.out w (hA.carry hE)) rfl (by rfl) (fun w hE => by (try dsimp only); go_simp) ?_
      try simp only [Act.put, zS]
      refine zC 3 { dst := some 48, op := Op.call { callee := Callee.value (Operand.func 26), args := #[Operand.tmp 47], argTypes := #[52] }, type := 3, pos := "law.go:231", after := #[{ on := 2, ground := Ground.data }, { on := 1, ground := Ground.chain }], guard := none } (fun w hE => TC2.out w (hB.carry hE)) rfl (by rfl) (fun w hE => by (try dsimp only); go_simp) ?_
      try simp only [Act.put, zS]
      refine zC 6 { dst := some 51, op := Op.call { callee := Callee.value (Operand.func 16), args := #[Operand.tmp 50, Operand.const (Value.int IntKind.i64 0), Operand.const (Value.int IntKind.i64 255)], argTypes := #[3, 3, 3] }, type := 3, pos := "law.go:231", after := #[{ on := 5, ground := Ground.data }, { on := 3, ground := Ground.chain }], guard := none } (fun w hE => ofPure (TS.out w)) rfl (by rfl) (fun w hE => by (try dsimp only); go_simp) ?_
      try simp only [Act.put, zS]
      refine zC 9 { dst := some 54, op := Op.call { callee := Callee.value (Operand.func 15), args := #[Operand.tmp 53], argTypes := #[3] }, type := 3, pos := "law.go:231", after := #[{ on := 8, ground := Ground.data }, { on := 6, ground := Ground.chain }], guard := none } (fun w hE => ofPure (TK.out w)) rfl (by rfl) (fun w hE => by (try dsimp only); go_simp) ?_
      try simp only [Act.put, zS]
      refine wpAnyE_one (i := 10) (o := { dst := some 55, op := Op.buildSlice 70 3 #[(0, Operand.tmp 48), (1, Operand.tmp 51), (2, Operand.tmp 54)], type := 70, pos := "law.go:231", after := #[{ on := 3, ground := Ground.data }, { on := 6, ground := Ground.data }, { on := 9, ground := Ground.data }], guard := none }) (by kernel_rfl) rfl (fun wy1 hE K hK => ?_)
      have c30 := cellb c30 hE
      have c31 := cellb c31 hE
      have c50 := cellb c50 hE
      have c51 := cellb c51 hE
      have h7 := h7.carry hE
      have h9 := h9.carry hE
      have i9 := i9.carry hE
      have hA := hA.carry hE
      have hB := hB.carry hE
      have hbz1 := bthen hbz hE
      clear hE
      go_simp
      obtain ⟨wx1, hwz⟩ : ∃ v, v = wy1.alloc (Obj.cells #[.int .i64 e2, .int .i64 e3, .int .i64 e4] 3) := ⟨_, rfl⟩
      rw [← hwz]
      have hl : Below wy1.heap.size wy1 wx1 := by rw [hwz]; exact below_new _ _
      have hcz1 := bthen hbz1 hl
      have iN : BlkI wx1 wy1.heap.size 3 [e2, e3, e4] := by rw [hwz]; exact Blk.new _ _ _
      generalize wy1.heap.size = G at iN ⊢
      have c30 := cellb c30 hl
      have c31 := cellb c31 hl
      have c50 := cellb c50 hl
      have c51 := cellb c51 hl
      have h7 := h7.carry hl
      have h9 := h9.carry hl
      have i9 := i9.carry hl
      have hA := hA.carry hl
      have hB := hB.carry hl
      clear hwz
      refine hK _ _ (fun _ => hl) ?_
      clear hK K hl
      try simp only [Act.put, zS]
      refine zC 11 { dst := some 56, op := Op.call { callee := Callee.value (Operand.func 13), args := #[Operand.tmp 55], argTypes := #[70] }, type := 3, pos := "law.go:231", after := #[{ on := 10, ground := Ground.data }, { on := 9, ground := Ground.chain }], guard := none } (fun w hE => ofPure (F1.out _ w (BlkI.ints (l := [e2, e3, e4]) (Blk.carry iN hE) rfl))) rfl (by rfl) (fun w hE => by (try dsimp only); go_simp) ?_
      try simp only [Act.put, zS]
      refine zT 12 { dst := some 11, op := Op.assign (Operand.tmp 46), type := 3, pos := "law.go:231", after := #[{ on := 1, ground := Ground.data }, { on := 11, ground := Ground.chain }, { on := 0, ground := Ground.phase }, { on := 1, ground := Ground.phase }, { on := 2, ground := Ground.textOnly Departure.lateStores }, { on := 3, ground := Ground.textOnly Departure.lateStoresUnsure }, { on := 4, ground := Ground.textOnly Departure.lateStores }, { on := 5, ground := Ground.textOnly Departure.lateStores }, { on := 6, ground := Ground.textOnly Departure.lateStoresUnsure }, { on := 7, ground := Ground.textOnly Departure.lateStores }, { on := 8, ground := Ground.textOnly Departure.lateStores }, { on := 9, ground := Ground.textOnly Departure.lateStoresUnsure }, { on := 10, ground := Ground.textOnly Departure.lateStores }, { on := 11, ground := Ground.textOnly Departure.lateStoresUnsure }], guard := none } (v := ?_) rfl (Or.inl ⟨by rfl, ?_⟩) ?_
      rotate_left
      ·(intro w hE; have c30 := cellb c30 hE; have c31 := cellb c31 hE; have c50 := cellb c50 hE; have c51 := cellb c51 hE; (try dsimp only); go_simp); (try with_reducible rfl)
      try simp only [Act.put, zS]
      refine zT 13 { dst := some 12, op := Op.assign (Operand.tmp 56), type := 3, pos := "law.go:231", after := #[{ on := 11, ground := Ground.data }, { on := 12, ground := Ground.chain }, { on := 0, ground := Ground.phase }, { on := 1, ground := Ground.phase }, { on := 2, ground := Ground.phase }, { on := 3, ground := Ground.phase }, { on := 4, ground := Ground.phase }, { on := 5, ground := Ground.phase }, { on := 6, ground := Ground.phase }, { on := 7, ground := Ground.phase }, { on := 8, ground := Ground.phase }, { on := 9, ground := Ground.phase }, { on := 10, ground := Ground.phase }, { on := 11, ground := Ground.phase }, { on := 12, ground := Ground.phase }], guard := none } (v := ?_) rfl (Or.inl ⟨by rfl, ?_⟩) ?_
      rotate_left
      ·(intro w hE; have c30 := cellb c30 hE; have c31 := cellb c31 hE; have c50 := cellb c50 hE; have c51 := cellb c51 hE; (try dsimp only); go_simp); (try with_reducible rfl)
      try simp only [Act.put, zS]
      refine wpAnyE_done (by kernel_rfl) (fun wy2 hE => ?_) _
      have hbz2 := bthen hcz1 hE
      have c30 := cellb c30 hE
      have c31 := cellb c31 hE
      have c50 := cellb c50 hE
      have c51 := cellb c51 hE
      have h7 := h7.carry hE
      have h9 := h9.carry hE
      have i9 := i9.carry hE
      have hA := hA.carry hE
      have hB := hB.carry hE
      have iN := iN.carry hE
      clear hE
      replace hb := hbz2
      obtain ⟨W8, hW8⟩ : ∃ v, v = wy2 := ⟨_, rfl⟩
      rw [← hW8] at hb h7 h9 i9 ⊢
      clear hW8 iN
      clear c30 c31 c50 c51 hA hB TC1 TC2 TS TK F1
      go_upto_if 58 with fail
      obtain ⟨W14, hW14⟩ : ∃ v, v = World.alloc W8 (Obj.cells #[.int .i64 0, .slice none 0 0] 24) := ⟨_, rfl⟩
      have kW14 : Below W8.heap.size W8 W14 := by rw [hW14]; exact below_new _ _
      have iW14 : Blk W14 (W8.heap.size) 24 [.int .i64 0, .slice none 0 0] := by rw [hW14]; exact Blk.new _ _ _
      have sW14 : W14.heap.size = W8.heap.size + 1 := by rw [hW14]; simp
      rw [← hW14]
      clear hW14
      have H7 := Lib.hid h7
      have H9 := Lib.hid h9
      have I9 := Lib.hid i9
      have HW8 := Lib.hid hb
      have hbN := kW14
      have i14 := iW14
      obtain ⟨G14, hG14⟩ : ∃ g, g = W8.heap.size := ⟨_, rfl⟩
      rw [← hG14] at i14 ⊢
      have HG := Lib.hid hG14
      clear h7 h9 i9 hb iW14 kW14 sW14 hG14
      go_cut [13] from 59 to 60 (fun u13 wn => Rw 6 tV wn u13 (telR ca la) ∧ Blk wn G14 24 [.int .i64 0, .slice none 0 0] ∧ Below W8.heap.size W8 wn)
      case first =>
       by_cases h1 : e1 = 0
       ·subst h1
        obtain ⟨g1, g2⟩ := tel_some HL1.out.symm
        have R1 := TelegramsR_any ca a1 N p1 la W14 (by rw [← HN.out]; omega) g2 (HA.out.carry (bthen K3.out (bthen HW8.out hbN)))
        rw [← g1] at R1
        have R2 := Lib.hid R1
        have c30 := (I3.out.carry (bthen HW8.out hbN)).cell (j := 0) (v := .int .i64 ca) rfl
        have c31 := (I3.out.carry (bthen HW8.out hbN)).cell (j := 1) (v := .slice a1 N p1) rfl
        clear g1 g2 R1
        go_wp2_with fail
        refine R2.out.mono ?_
        rintro e Wf ⟨⟨u13, rfl, h13⟩, hl⟩
        clear c30 c31
        go_wp2_with fail
        go_meet
        exact ⟨h13, i14.carry hl, bthen hbN hl⟩
       ·have z : (e1 == 0) = false := by rw [beq_eq_false_iff_ne]; exact h1
        have hx := Lib.hid (tel_none (c := ca) (l := la) (by rw [← HL1.out]; exact h1))
        clear h1
        go_wp2_with fail
        go_meet
        exact ⟨by rw [hx.out]; exact Rw.nil 6 tV _ none 0, i14, hbN⟩
      case rest =>
       clear i14 hbN
       obtain ⟨h13, i14, hbN⟩ := hcut
       go_upto_if 62 with fail
       go_cut [12] from 63 to 71 (fun u12 wn => u12 = .int .i64 E2 ∧ (∃ ra' rn' rcap', Blk wn G14 24 [.int .i64 Rc, .slice ra' rn' rcap'] ∧ Prs wn (.slice ra' rn' rcap') Rl) ∧ Rw 6 tV wn u13 (telR ca la) ∧ Below W8.heap.size W8 wn)
       case first =>
        by_cases h1 : E1 = 0
        ·subst h1
         have h2 : rcE1 src start lt = 0 := HE1.out.symm
         obtain ⟨g1, g2⟩ := rcE_rr h2
         obtain ⟨o1, o2, o3⟩ := rc_is h2
         have r1 : rrR src start lt = (Rc, Rl) := by rw [← g2]; exact HR1.out
         have r2 : rrE src start lt = E2 := by rw [← g1]; exact HR2.out
         have R1 := ReceivedR_any (.slice a2 M p2) src start lt wc o1 o2 o3 (HB.out.carry (bthen K3.out (bthen HW8.out hbN)))
         rw [r1, r2] at R1
         have R2 := Lib.hid R1
         have c50 := (I5.out.carry (bthen HW8.out hbN)).cell (j := 0) (v := .int .i64 src) rfl
         have c51 := (I5.out.carry (bthen HW8.out hbN)).cell (j := 1) (v := .int .i64 start) rfl
         clear h2 g1 g2 o1 o2 o3 r1 r2 R1
         go_wp2_with fail
         refine R2.out.mono ?_
         rintro e Wf ⟨⟨fa, fn, fc, rfl, hf⟩, hl⟩
         clear c50 c51 R2
         replace i14 := i14.carry hl
         replace h13 := h13.carry hl
         replace hbN := bthen hbN hl
         have f0 := i14.frozen 0
         have f1 := i14.frozen 1
         have g0 := i14.cell (j := 0) (v := .int .i64 0) rfl
         have g1 := i14.cell (j := 1) (v := .slice none 0 0) rfl
         have j14 := (i14.set 0 (.int .i64 Rc)).set 1 (.slice fa fn fc)
         have i14b : Blk _ G14 24 [.int .i64 Rc, .slice none 0 0] := i14.set 0 (.int .i64 Rc)
         have k13 := Rw.setLog (fun y : Tg => ⟨_, _, rfl, rfl⟩) (Rw.setLog (fun y : Tg => ⟨_, _, rfl, rfl⟩) h13 i14 0 (.int .i64 Rc)) i14b 1 (.slice fa fn fc)
         have kf := Rw.setLog (fun y : P2 => ⟨_, _, rfl, rfl⟩) (Rw.setLog (fun y : P2 => ⟨_, _, rfl, rfl⟩) hf i14 0 (.int .i64 Rc)) i14b 1 (.slice fa fn fc)
         have hb2 := below_setC (below_setC hbN G14 0 (by rw [HG.out]; exact Nat.le_refl _) (.int .i64 Rc)) G14 1 (by rw [HG.out]; exact Nat.le_refl _) (.slice fa fn fc)
         go_wp2_with fail
         go_meet
         exact ⟨rfl, ⟨_, _, _, j14, kf⟩, k13, hb2⟩
        ·have z : (E1 == 0) = false := by rw [beq_eq_false_iff_ne]; exact h1
         obtain ⟨g1, g2⟩ := rcE_no (src := src) (start := start) (l := lt) (by rw [← HE1.out]; exact h1)
         rw [HR1.out] at g2
         rw [HR2.out, ← HE1.out] at g1
         simp only [Prod.mk.injEq] at g2
         obtain ⟨rfl, rfl⟩ := g2
         have G1 := Lib.hid g1
         clear h1 g1
         go_wp2_with fail
         go_meet
         exact ⟨by rw [G1.out], ⟨_, _, _, i14, Rw.nil 2 pV _ none 0⟩, h13, hbN⟩
       case rest =>
        clear i14 hbN h13
        obtain ⟨rfl, ⟨ra', rn', rcap', i14, h14⟩, h13, hbN⟩ := hcut
        have hlt : (telR ca la).length ≤ 1000 := by have := telR_len ca la; have := HN.out; omega
        have hlr : Rl.length ≤ 2000 := by have h := rcR_len src start lt; rw [HR1.out] at h; have := HM.out; dsimp only at h; omega
        have z8 : (logE ca la == e1) = true := by rw [HL1.out]; exact beq_self_eq_true _
        have HLT := Lib.hid hlt
        have HLR := Lib.hid hlr
        have c90 := (I9.out.carry hbN).cell (j := 0) (v := .int .i64 Rc) rfl
        have c91 := (I9.out.carry hbN).cell (j := 1) (v := .slice ra rn rcap) rfl
        have c140 := i14.cell (j := 0) (v := .int .i64 Rc) rfl
        have c141 := i14.cell (j := 1) (v := .slice ra' rn' rcap') rfl
        have h7 := H7.out.carry hbN
        have h9 := H9.out.carry hbN
        clear hlt hlr i14 h1 h2
        go_upto_region 12 with fail
        refine wp_region_held_drew (S := (fun W => W.cell? ⟨G9, 0, none⟩ = some (.int .i64 Rc) ∧ W.cell? ⟨G9, 1, none⟩ = some (.slice ra rn rcap) ∧ W.cell? ⟨G14, 0, none⟩ = some (.int .i64 Rc) ∧ W.cell? ⟨G14, 1, none⟩ = some (.slice ra' rn' rcap'))) (by kernel_rfl) ⟨cellb c90 (Below.refl _ _).drew, cellb c91 (Below.refl _ _).drew, cellb c140 (Below.refl _ _).drew, cellb c141 (Below.refl _ _).drew⟩ (fun hHeld0 => ?_)
        obtain ⟨wzd, hwz⟩ : ∃ v, v = wc.drew := ⟨_, rfl⟩
        rw [← hwz] at hHeld0 ⊢
        have hbzd : Below wc.heap.size wc wzd := by rw [hwz]; exact (Below.refl _ _).drew
        have hlzd : Below wc.heap.size wc wzd := by rw [hwz]; exact (Below.refl _ _).drew
        have h7 := h7.carry hlzd
        have h9 := h9.carry hlzd
        have h13 := h13.carry hlzd
        have h14 := h14.carry hlzd
        clear hwz hlzd
        refine wpAnyH_take (i := 0) (oi := { dst := some 72, op := Op.move (Operand.tmp 7), type := 54, pos := "law.go:240", after := #[], guard := none }) (v := ?_) rfl (by kernel_rfl) (by kernel_rfl) (by kernel_rfl) (fun _ _ _ h => h) (Or.inl ⟨by rfl, ?_⟩) (by assumption) ?_
        rotate_left
        ·(intro w hSw; (try dsimp only at hSw); go_simp); (try with_reducible rfl)
        try simp only [Act.put, zS]
        refine wpAnyH_take (i := 2) (oi := { dst := some 74, op := Op.move (Operand.tmp 13), type := 52, pos := "law.go:240", after := #[], guard := none }) (v := ?_) rfl (by kernel_rfl) (by kernel_rfl) (by kernel_rfl) (fun _ _ _ h => h) (Or.inl ⟨by rfl, ?_⟩) (by assumption) ?_
        rotate_left
        ·(intro w hSw; (try dsimp only at hSw); go_simp); (try with_reducible rfl)
        try simp only [Act.put, zS]
        refine wpAnyH_ready (rs := [1]) (by kernel_rfl) (by simp) ?_
        refine (AllReadyH.cons (o := { dst := some 73, op := Op.call { callee := Callee.value (Operand.func 30), args := #[Operand.tmp 72], argTypes := #[54] }, type := 52, pos := "law.go:240", after := #[{ on := 0, ground := Ground.data }], guard := none }) rfl (fun K hK => ?_) AllReadyH.nil)
        go_simp
        refine (ownT_any u7 _ wzd (by have := HLT.out; omega) h7).mono ?_
        rintro e wz1 ⟨⟨ut, rfl, ht⟩, hl⟩
        replace ht : Rw 6 tV _ _ (telR ca la) := ht.rw tV_len
        (try go_wp2_with fail)
        have hbz1 := bthen hbzd hl
        have h7 := h7.carry hl
        have h9 := h9.carry hl
        have h13 := h13.carry hl
        have h14 := h14.carry hl
        clear hl
        refine hK.out _ _ ⟨cellb c90 hbz1, cellb c91 hbz1, cellb c140 hbz1, cellb c141 hbz1⟩ (fun hHeld1 => ?_)
        clear hK K hHeld0
        try simp only [Act.put, zS]
        refine wpAnyH_ready (rs := [3]) (by kernel_rfl) (by simp) ?_
        refine (AllReadyH.cons (o := { dst := some 75, op := Op.call { callee := Callee.value (Operand.func 29), args := #[Operand.tmp 73, Operand.tmp 74], argTypes := #[52, 52] }, type := 4, pos := "law.go:240", after := #[{ on := 1, ground := Ground.data }, { on := 2, ground := Ground.data }, { on := 1, ground := Ground.chain }], guard := none }) rfl (fun K hK => ?_) AllReadyH.nil)
        go_simp
        refine (SameTelegrams_self _ _ (telR ca la) wz1 ht h13 (by have := HLT.out; omega)).mono ?_
        rintro e wz3 ⟨rfl, hl⟩
        (try go_wp2_with fail)
        have hbz3 := bthen hbz1 hl
        have h7 := h7.carry hl
        have h9 := h9.carry hl
        have h13 := h13.carry hl
        have h14 := h14.carry hl
        have ht := ht.carry hl
        clear hl
        refine hK.out _ _ ⟨cellb c90 hbz3, cellb c91 hbz3, cellb c140 hbz3, cellb c141 hbz3⟩ (fun hHeld2 => ?_)
        clear hK K hHeld1
        try simp only [Act.put, zS]
        refine wpAnyH_take (i := 4) (oi := { dst := some 76, op := Op.move (Operand.tmp 75), type := 4, pos := "law.go:240", after := #[{ on := 3, ground := Ground.data }, { on := 3, ground := Ground.chain }], guard := none }) (v := ?_) rfl (by kernel_rfl) (by kernel_rfl) (by kernel_rfl) (fun _ _ _ h => h) (Or.inl ⟨by rfl, ?_⟩) (by assumption) ?_
        rotate_left
        ·(intro w hSw; (try dsimp only at hSw); go_simp); (try with_reducible rfl)
        try simp only [Act.put, zS]
        refine wpAnyH_take (i := 5) (oi := { dst := some 77, op := Op.move (Operand.tmp 8), type := 28, pos := "law.go:240", after := #[{ on := 4, ground := Ground.guard }], guard := some (4, true) }) (v := ?_) rfl (by kernel_rfl) (by kernel_rfl) (by kernel_rfl) (fun _ _ _ h => h) (Or.inl ⟨by rfl, ?_⟩) (by assumption) ?_
        rotate_left
        ·(intro w hSw; (try dsimp only at hSw); go_simp); (try with_reducible rfl)
        try simp only [Act.put, zS]
        refine wpAnyH_take (i := 6) (oi := { dst := some 78, op := Op.move (Operand.tmp 11), type := 3, pos := "law.go:240", after := #[{ on := 4, ground := Ground.guard }], guard := some (4, true) }) (v := ?_) rfl (by kernel_rfl) (by kernel_rfl) (by kernel_rfl) (fun _ _ _ h => h) (Or.inl ⟨by rfl, ?_⟩) (by assumption) ?_
        rotate_left
        ·(intro w hSw; (try dsimp only at hSw); go_simp); (try with_reducible rfl)
        try simp only [Act.put, zS]
        refine wpAnyH_take (i := 7) (oi := { dst := some 79, op := Op.binOp BinOp.eql 3 (Operand.tmp 77) (Operand.tmp 78) 3, type := 4, pos := "law.go:240", after := #[{ on := 5, ground := Ground.data }, { on := 6, ground := Ground.data }, { on := 4, ground := Ground.guard }], guard := some (4, true) }) (v := ?_) rfl (by kernel_rfl) (by kernel_rfl) (by kernel_rfl) (fun _ _ _ h => h) (Or.inl ⟨by rfl, ?_⟩) (by assumption) ?_
        rotate_left
        ·(intro w hSw; (try dsimp only at hSw); go_simp); (try with_reducible rfl)
        try simp only [Act.put, zS]
        refine wpAnyH_take (i := 8) (oi := { dst := some 80, op := Op.pick (Operand.tmp 76) (Operand.tmp 79) (Operand.const (Value.bool false)), type := 4, pos := "law.go:240", after := #[{ on := 4, ground := Ground.data }, { on := 7, ground := Ground.data }], guard := none }) (v := ?_) rfl (by kernel_rfl) (by kernel_rfl) (by kernel_rfl) (fun _ _ _ h => h) (Or.inl ⟨by rfl, ?_⟩) (by assumption) ?_
        rotate_left
        ·(intro w hSw; (try dsimp only at hSw); go_simp); (try with_reducible rfl)
        try simp only [Act.put, zS]
        refine wpAnyH_take (i := 9) (oi := { dst := some 81, op := Op.move (Operand.tmp 80), type := 4, pos := "law.go:240", after := #[{ on := 8, ground := Ground.data }, { on := 4, ground := Ground.chain }], guard := none }) (v := ?_) rfl (by kernel_rfl) (by kernel_rfl) (by kernel_rfl) (fun _ _ _ h => h) (Or.inl ⟨by rfl, ?_⟩) (by assumption) ?_
        rotate_left
        ·(intro w hSw; (try dsimp only at hSw); go_simp); (try with_reducible rfl)
        try simp only [Act.put, zS]
        refine wpAnyH_take (i := 10) (oi := { dst := some 82, op := Op.fieldAddr 33 (Operand.tmp 9) 0, type := 0, pos := "law.go:240", after := #[{ on := 9, ground := Ground.guard }], guard := some (9, true) }) (v := ?_) rfl (by kernel_rfl) (by kernel_rfl) (by kernel_rfl) (fun _ _ _ h => h) (Or.inl ⟨by rfl, ?_⟩) (by assumption) ?_
        rotate_left
        ·(intro w hSw; (try dsimp only at hSw); go_simp); (try with_reducible rfl)
        try simp only [Act.put, zS]
        refine wpAnyH_take (i := 11) (oi := { dst := some 83, op := Op.load 3 (Operand.tmp 82), type := 3, pos := "law.go:240", after := #[{ on := 10, ground := Ground.data }, { on := 9, ground := Ground.guard }], guard := some (9, true) }) (v := ?_) rfl (by kernel_rfl) (by kernel_rfl) (by kernel_rfl) (fun _ _ _ h => h) (Or.inl ⟨by rfl, ?_⟩) (by assumption) ?_
        rotate_left
        ·(intro w hSw; (try dsimp only at hSw); go_simp); (try with_reducible rfl)
        try simp only [Act.put, zS]
        refine wpAnyH_take (i := 12) (oi := { dst := some 84, op := Op.fieldAddr 33 (Operand.tmp 9) 1, type := 0, pos := "law.go:240", after := #[{ on := 9, ground := Ground.guard }], guard := some (9, true) }) (v := ?_) rfl (by kernel_rfl) (by kernel_rfl) (by kernel_rfl) (fun _ _ _ h => h) (Or.inl ⟨by rfl, ?_⟩) (by assumption) ?_
        rotate_left
        ·(intro w hSw; (try dsimp only at hSw); go_simp); (try with_reducible rfl)
        try simp only [Act.put, zS]
        refine wpAnyH_take (i := 13) (oi := { dst := some 85, op := Op.load 31 (Operand.tmp 84), type := 31, pos := "law.go:240", after := #[{ on := 12, ground := Ground.data }, { on := 9, ground := Ground.guard }], guard := some (9, true) }) (v := ?_) rfl (by kernel_rfl) (by kernel_rfl) (by kernel_rfl) (fun _ _ _ h => h) (Or.inl ⟨by rfl, ?_⟩) (by assumption) ?_
        rotate_left
        ·(intro w hSw; (try dsimp only at hSw); go_simp); (try with_reducible rfl)
        try simp only [Act.put, zS]
        refine wpAnyH_take (i := 16) (oi := { dst := some 88, op := Op.load 24 (Operand.tmp 14), type := 24, pos := "law.go:240", after := #[{ on := 9, ground := Ground.guard }], guard := some (9, true) }) (v := ?_) rfl (by kernel_rfl) (by kernel_rfl) (by kernel_rfl) (fun _ _ _ h => h) (Or.inl ⟨by rfl, ?_⟩) (by assumption) ?_
        rotate_left
        ·(intro w hSw; (try dsimp only at hSw); go_simp); (try with_reducible rfl)
        try simp only [Act.put, zS]
        refine wpAnyH_ready (rs := [14]) (by kernel_rfl) (by simp) ?_
        refine (AllReadyH.cons (o := { dst := some 86, op := Op.call { callee := Callee.value (Operand.func 21), args := #[Operand.tmp 85], argTypes := #[31] }, type := 22, pos := "law.go:240", after := #[{ on := 13, ground := Ground.data }, { on := 9, ground := Ground.chain }, { on := 9, ground := Ground.guard }], guard := some (9, true) }) rfl (fun K hK => ?_) AllReadyH.nil)
        go_simp
        refine (told_any _ Rl wz3 (by have := HLR.out; omega) h9).mono ?_
        rintro e wz14 ⟨⟨uo, rfl, ho⟩, hl⟩
        replace ho : Prs _ _ Rl := ho.rw pV_len
        obtain ⟨oa, oc, rfl, -⟩ := ho.slice
        (try go_wp2_with fail)
        have hbz14 := bthen hbz3 hl
        have h7 := h7.carry hl
        have h9 := h9.carry hl
        have h13 := h13.carry hl
        have h14 := h14.carry hl
        have ht := ht.carry hl
        clear hl
        refine hK.out _ _ ⟨cellb c90 hbz14, cellb c91 hbz14, cellb c140 hbz14, cellb c141 hbz14⟩ (fun hHeld3 => ?_)
        clear hK K hHeld2
        try simp only [Act.put, zS]
        refine wpAnyH_take (i := 15) (oi := { dst := some 87, op := Op.build 24 #[(0, Operand.tmp 83), (1, Operand.tmp 86)], type := 24, pos := "law.go:240", after := #[{ on := 11, ground := Ground.data }, { on := 14, ground := Ground.data }, { on := 9, ground := Ground.guard }], guard := some (9, true) }) (v := ?_) rfl (by kernel_rfl) (by kernel_rfl) (by kernel_rfl) (fun _ _ _ h => h) (Or.inl ⟨by rfl, ?_⟩) (by assumption) ?_
        rotate_left
        ·(intro w hSw; (try dsimp only at hSw); go_simp); (try with_reducible rfl)
        try simp only [Act.put, zS]
        refine wpAnyH_ready (rs := [17]) (by kernel_rfl) (by simp) ?_
        refine (AllReadyH.cons (o := { dst := some 89, op := Op.call { callee := Callee.value (Operand.func 31), args := #[Operand.tmp 87, Operand.tmp 88], argTypes := #[24, 24] }, type := 4, pos := "law.go:240", after := #[{ on := 15, ground := Ground.data }, { on := 16, ground := Ground.data }, { on := 14, ground := Ground.chain }, { on := 9, ground := Ground.guard }], guard := some (9, true) }) rfl (fun K hK => ?_) AllReadyH.nil)
        go_simp
        refine (Same_self Rc _ _ _ _ _ _ Rl wz14 (by have := HLR.out; omega) ho h14).mono ?_
        rintro e wz17 ⟨rfl, hl⟩
        (try go_wp2_with fail)
        have hbz17 := bthen hbz14 hl
        have h7 := h7.carry hl
        have h9 := h9.carry hl
        have h13 := h13.carry hl
        have h14 := h14.carry hl
        have ht := ht.carry hl
        have ho := ho.carry hl
        clear hl
        refine hK.out _ _ ⟨cellb c90 hbz17, cellb c91 hbz17, cellb c140 hbz17, cellb c141 hbz17⟩ (fun hHeld4 => ?_)
        clear hK K hHeld3
        try simp only [Act.put, zS]
        refine wpAnyH_take (i := 18) (oi := { dst := some 90, op := Op.pick (Operand.tmp 81) (Operand.tmp 89) (Operand.const (Value.bool false)), type := 4, pos := "law.go:240", after := #[{ on := 9, ground := Ground.data }, { on := 17, ground := Ground.data }], guard := none }) (v := ?_) rfl (by kernel_rfl) (by kernel_rfl) (by kernel_rfl) (fun _ _ _ h => h) (Or.inl ⟨by rfl, ?_⟩) (by assumption) ?_
        rotate_left
        ·(intro w hSw; (try dsimp only at hSw); go_simp); (try with_reducible rfl)
        try simp only [Act.put, zS]
        refine wpAnyH_take (i := 19) (oi := { dst := some 91, op := Op.move (Operand.tmp 90), type := 4, pos := "law.go:240", after := #[{ on := 18, ground := Ground.data }, { on := 17, ground := Ground.chain }], guard := none }) (v := ?_) rfl (by kernel_rfl) (by kernel_rfl) (by kernel_rfl) (fun _ _ _ h => h) (Or.inl ⟨by rfl, ?_⟩) (by assumption) ?_
        rotate_left
        ·(intro w hSw; (try dsimp only at hSw); go_simp); (try with_reducible rfl)
        try simp only [Act.put, zS]
        refine wpAnyH_take (i := 20) (oi := { dst := some 92, op := Op.move (Operand.tmp 10), type := 28, pos := "law.go:240", after := #[{ on := 19, ground := Ground.guard }], guard := some (19, true) }) (v := ?_) rfl (by kernel_rfl) (by kernel_rfl) (by kernel_rfl) (fun _ _ _ h => h) (Or.inl ⟨by rfl, ?_⟩) (by assumption) ?_
        rotate_left
        ·(intro w hSw; (try dsimp only at hSw); go_simp); (try with_reducible rfl)
        try simp only [Act.put, zS]
        refine wpAnyH_take (i := 21) (oi := { dst := some 93, op := Op.move (Operand.tmp 12), type := 3, pos := "law.go:240", after := #[{ on := 19, ground := Ground.guard }], guard := some (19, true) }) (v := ?_) rfl (by kernel_rfl) (by kernel_rfl) (by kernel_rfl) (fun _ _ _ h => h) (Or.inl ⟨by rfl, ?_⟩) (by assumption) ?_
        rotate_left
        ·(intro w hSw; (try dsimp only at hSw); go_simp); (try with_reducible rfl)
        try simp only [Act.put, zS]
        refine wpAnyH_take (i := 22) (oi := { dst := some 94, op := Op.binOp BinOp.eql 3 (Operand.tmp 92) (Operand.tmp 93) 3, type := 4, pos := "law.go:240", after := #[{ on := 20, ground := Ground.data }, { on := 21, ground := Ground.data }, { on := 19, ground := Ground.guard }], guard := some (19, true) }) (v := ?_) rfl (by kernel_rfl) (by kernel_rfl) (by kernel_rfl) (fun _ _ _ h => h) (Or.inl ⟨by rfl, ?_⟩) (by assumption) ?_
        rotate_left
        ·(intro w hSw; (try dsimp only at hSw); go_simp); (try with_reducible rfl)
        try simp only [Act.put, zS]
        refine wpAnyH_take (i := 23) (oi := { dst := some 95, op := Op.pick (Operand.tmp 91) (Operand.tmp 94) (Operand.const (Value.bool false)), type := 4, pos := "law.go:240", after := #[{ on := 19, ground := Ground.data }, { on := 22, ground := Ground.data }], guard := none }) (v := ?_) rfl (by kernel_rfl) (by kernel_rfl) (by kernel_rfl) (fun _ _ _ h => h) (Or.inl ⟨by rfl, ?_⟩) (by assumption) ?_
        rotate_left
        ·(intro w hSw; (try dsimp only at hSw); go_simp); (try with_reducible rfl)
        try simp only [Act.put, zS]
        refine wpAnyH_take (i := 24) (oi := { dst := some 6, op := Op.assign (Operand.tmp 95), type := 4, pos := "law.go:240", after := #[{ on := 23, ground := Ground.data }, { on := 19, ground := Ground.chain }, { on := 0, ground := Ground.phase }, { on := 1, ground := Ground.phase }, { on := 2, ground := Ground.phase }, { on := 3, ground := Ground.phase }, { on := 4, ground := Ground.phase }, { on := 5, ground := Ground.phase }, { on := 6, ground := Ground.phase }, { on := 7, ground := Ground.phase }, { on := 8, ground := Ground.phase }, { on := 9, ground := Ground.phase }, { on := 10, ground := Ground.phase }, { on := 11, ground := Ground.phase }, { on := 12, ground := Ground.phase }, { on := 13, ground := Ground.phase }, { on := 14, ground := Ground.phase }, { on := 15, ground := Ground.phase }, { on := 16, ground := Ground.phase }, { on := 17, ground := Ground.phase }, { on := 18, ground := Ground.phase }, { on := 19, ground := Ground.phase }, { on := 20, ground := Ground.phase }, { on := 21, ground := Ground.phase }, { on := 22, ground := Ground.phase }, { on := 23, ground := Ground.phase }], guard := none }) (v := ?_) rfl (by kernel_rfl) (by kernel_rfl) (by kernel_rfl) (fun _ _ _ h => h) (Or.inl ⟨by rfl, ?_⟩) (by assumption) ?_
        rotate_left
        ·(intro w hSw; (try dsimp only at hSw); go_simp); (try with_reducible rfl)
        try simp only [Act.put, zS]
        refine wpAnyH_done (by kernel_rfl) ?_ _
        clear hHeld4
        have hb2 := hbz17
        obtain ⟨W6, hW6⟩ : ∃ v, v = wz17 := ⟨_, rfl⟩
        rw [← hW6] at hb2 ⊢
        clear hW6
        go_wp2
        go_ret
        exact ⟨rfl, bthen K3.out (bthen HW8.out (bthen hbN hb2))⟩
end Go.Proofs.YtgdkomgfalkihaaGreatDoor

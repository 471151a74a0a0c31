/- The package harmonic: the check of a polygon. -/
import Derived.Test.YtpkaoechbmbolaaGreatDoorHarX
namespace Go.Proofs.YtpkaoechbmbolaaGreatDoor
set_option linter.unusedSimpArgs false
set_option linter.unusedVariables false
open Go.RowKit

def negB (x : Int) : Bool := decide (x < 0)
def nposB (x : Int) : Bool := decide (x ≤ 0)
theorem Tryz.enterCheckPolygon1 (args : Array Value) (w : World) : Sem.run Tryz.prog (callFunc 61 args) w = .ok (.enter 61 args) w :=
  MuLone.run_callFunc_enter Tryz.func61 (by kernel_rfl) rfl args w
set_option maxRecDepth 100000 in
set_option maxHeartbeats 1000000 in
theorem checkPolygon1_any (x : I4) (p : Int × Int) (B : Nat) (w : World) (hb : Blk w B 122 (cells4 x)) :
    Calls Tryz.prog 61 #[.agg #[.int .i64 p.1, .int .i64 p.2], .pointer (some ⟨B, 0, none⟩)] w fun e w' => e = .returned (.bool (negB (sideE x p 1))) ∧ Below w.heap.size w w' := by
  have TS := Lib.hid (fun W => side_any x p 1 W)
  generalize sideE x p 1 = s at TS ⊢
  obtain ⟨fr, fi, tr, ti⟩ := x
  obtain ⟨pr, qi⟩ := p
  simp only at TS ⊢
  have a0 := hb.cell (j := 0) (v := .int .i64 fr) rfl
  have a1 := hb.cell (j := 1) (v := .int .i64 fi) rfl
  have a2 := hb.cell (j := 2) (v := .int .i64 tr) rfl
  have a3 := hb.cell (j := 3) (v := .int .i64 ti) rfl
  clear hb
  go_enter Tryz.func61, Tryz.ntmps61
  go_upto_region 1 with fail
  obtain ⟨W1, hW1⟩ : ∃ v, v = World.alloc w (Obj.cells #[.int .i64 pr, .int .i64 qi] 63) := ⟨_, rfl⟩
  have kW1 : Below w.heap.size w W1 := by rw [hW1]; exact below_new _ _
  have iW1 : Blk W1 (w.heap.size) 63 [.int .i64 pr, .int .i64 qi] := by rw [hW1]; exact Blk.new _ _ _
  have sW1 : W1.heap.size = w.heap.size + 1 := by rw [hW1]; simp
  rw [← hW1]
  clear hW1
  have b0 := iW1.cell (j := 0) (v := .int .i64 pr) rfl
  have b1 := iW1.cell (j := 1) (v := .int .i64 qi) rfl
  have a0 := cellb a0 kW1
  have a1 := cellb a1 kW1
  have a2 := cellb a2 kW1
  have a3 := cellb a3 kW1
  go_wp2_with fail
  refine (TS.out W1).mono ?_
  rintro e w2 ⟨rfl, hl⟩
  go_wp2
  go_ret
  exact ⟨rfl, bthen kW1 hl⟩

def polN (l : List (Int × Int)) : Int := firstE [whenE (decide ((l.length : Int) < 3)) 16, whenE (decide ((8 : Int) < l.length)) 5]
/-- a corner that is not a left turn, or a corner to the right of the edge. -/
def polBad (l : List (Int × Int)) (k : Nat) : Bool := nposB (sideE (edgeK l k) (l[(k + 2) % l.length]?.getD (0, 0)) 1) || l.any (fun p => negB (sideE (edgeK l k) p 1))
def polC (l : List (Int × Int)) : Int := bif (List.range l.length).any (polBad l) then 11 else 0
/-- the error of a polygon. -/
def polE (l : List (Int × Int)) : Int := orE (polN l) (orE (firstE (l.map pointE)) (polC l))
theorem polC_bad (l : List (Int × Int)) (k : Nat) (hk : k < l.length) (h : polBad l k = true) : polC l = 11 := by
  have : (List.range l.length).any (polBad l) = true := List.any_eq_true.2 ⟨k, List.mem_range.2 hk, h⟩
  rw [polC, this]; rfl
theorem polC_ok (l : List (Int × Int)) (h : ∀ j, j < l.length → polBad l j = false) : polC l = 0 := by
  have : (List.range l.length).any (polBad l) = false := by
    rw [List.any_eq_false]; intro j hj; simpa using h j (List.mem_range.1 hj)
  rw [polC, this]; rfl
theorem edgesL_get (l : List (Int × Int)) (k : Nat) (hk : k < l.length) : (edgesL l)[k]? = some (edgeK l k) := by
  rw [edgesL, upto_get, if_pos hk]

set_option maxRecDepth 100000 in
set_option maxHeartbeats 4000000 in
theorem CheckPolygon_any (v : Value) (l : List (Int × Int)) (w : World) (hv : Pairs w v l) (hl : l.length ≤ 1000000) :
    Calls Tryz.prog 26 #[v] w fun e w' => e = .returned (.int .i64 (polE l)) ∧ Below w.heap.size w w' := by
  have HL := Lib.hid hl
  obtain ⟨n, hn⟩ : ∃ n, n = l.length := ⟨_, rfl⟩
  have HV := Lib.hid hv
  obtain ⟨a, cp, rfl, _, hcs0⟩ := id hv
  obtain ⟨E, hE⟩ : ∃ E, E = polE l := ⟨_, rfl⟩
  rw [← hE]
  rw [polE, polN] at hE
  rw [← hn] at hcs0 hl hE HV ⊢
  have hcs : ∀ k : Nat, k < n → ∃ b off, a = some ⟨b, off, none⟩ ∧ w.cell? ⟨b, off + k * 2, none⟩ = some (.int .i64 (l[k]?.getD (0, 0)).1) ∧ w.cell? ⟨b, off + k * 2 + 1, none⟩ = some (.int .i64 (l[k]?.getD (0, 0)).2) := fun k hk => by
    obtain ⟨b, off, rfl, hc⟩ := hcs0 (by omega)
    have e1 := hc k (l[k]'(by omega)) (List.getElem?_eq_getElem (by omega))
    refine ⟨b, off, rfl, ?_⟩
    rw [List.getElem?_eq_getElem (show k < l.length by omega)]
    exact e1
  have HC := Lib.hid hcs
  have HN := Lib.hid hn
  have T1 := Lib.hid (fun W => whenH_any (decide ((n : Int) < 3)) 16 W)
  have T2 := Lib.hid (fun W => whenH_any (decide ((8 : Int) < n)) 5 W)
  generalize whenE (decide ((n : Int) < 3)) 16 = e1 at T1 hE
  generalize whenE (decide ((8 : Int) < n)) 5 = e2 at T2 hE
  have TF := Lib.hid (fun (u : Value) (W : World) (h : Ints W u [e1, e2]) => firstH_any u [e1, e2] W (by simp [maxLen]) h)
  generalize firstE [e1, e2] = eN at TF hE
  have HE := Lib.hid hE
  clear hv hcs0 hcs hn hE
  go_enter Tryz.func26, Tryz.ntmps26
  go_wp2_with fail
  refine (T1.out w).mono ?_
  rintro e w' ⟨rfl, rfl⟩
  go_wp2_with fail
  refine (T2.out w).mono ?_
  rintro e w' ⟨rfl, rfl⟩
  go_wp2_with fail
  obtain ⟨W1, hW1⟩ : ∃ v, v = World.alloc w (Obj.cells #[.int .i64 e1, .int .i64 e2] 39) := ⟨_, rfl⟩
  have kW1 : Below w.heap.size w W1 := by rw [hW1]; exact below_new _ _
  have iW1 : Blk W1 (w.heap.size) 39 [.int .i64 e1, .int .i64 e2] := by rw [hW1]; exact Blk.new _ _ _
  have sW1 : W1.heap.size = w.heap.size + 1 := by rw [hW1]; simp
  rw [← hW1]
  clear hW1
  refine (TF.out _ W1 (BlkI.ints (l := [e1, e2]) iW1 rfl)).mono ?_
  rintro e w' ⟨rfl, rfl⟩
  have hB := kW1
  clear kW1 iW1 sW1 T1 T2 TF
  by_cases he : eN = 0
  · subst he
    have hE := HE.out
    rw [orE, if_pos rfl] at hE
    clear HE
    have TM := Lib.hid (mappedGE_any 57 #[] Tryz.enterCheckPoint pointE _ l W1 (by have := HL.out; omega) (HV.out.carry hB) (fun x _ w1 _ => checkPoint_any x w1))
    go_wp2_with fail
    refine TM.out.mono ?_
    rintro e w6 ⟨⟨u, rfl, hu⟩, hb6⟩
    have TF2 := Lib.hid (firstH_any u (l.map pointE) w6 (by have := HL.out; simp [maxLen]; omega) hu)
    generalize firstE (l.map pointE) = eP at TF2 hE
    have HE := Lib.hid hE
    clear hE hu TM
    go_wp2_with fail
    refine TF2.out.mono ?_
    rintro e w' ⟨rfl, rfl⟩
    replace hB := bthen hB hb6
    clear hb6
    by_cases hp : eP = 0
    · subst hp
      have hE := HE.out
      rw [orE, if_pos rfl] at hE
      have HE2 := Lib.hid hE
      clear HE hE
      have TE := Lib.hid (edges_any _ l w6 (HV.out.carry hB) HL.out)
      go_wp2_with fail
      refine TE.out.mono ?_
      rintro e w7 ⟨⟨u7, rfl, hu7⟩, hb7⟩
      replace hB := bthen hB hb7
      clear hb7 TE TF2
      obtain ⟨a7, cp7, rfl, _, hcs7⟩ := hu7
      have hlen7 : (edgesL l).length = n := by rw [edgesL, upto_length, HN.out]
      rw [hlen7] at hcs7 ⊢
      have hcq : ∀ k : Nat, k < n → ∃ b off, a7 = some ⟨b, off, none⟩ ∧ w7.cell? ⟨b, off + k * 4, none⟩ = some (.int .i64 (edgeK l k).1) ∧ w7.cell? ⟨b, off + k * 4 + 1, none⟩ = some (.int .i64 (edgeK l k).2.1) ∧ w7.cell? ⟨b, off + k * 4 + 2, none⟩ = some (.int .i64 (edgeK l k).2.2.1) ∧ w7.cell? ⟨b, off + k * 4 + 3, none⟩ = some (.int .i64 (edgeK l k).2.2.2) := fun k hk => by
        obtain ⟨b, off, rfl, hc⟩ := hcs7 (by omega)
        exact ⟨b, off, rfl, hc k _ (edgesL_get l k (by rw [← HN.out]; exact hk))⟩
      have HQ := Lib.hid hcq
      have HS7 := Lib.hid (show w.heap.size ≤ w7.heap.size from hB.size)
      clear hcs7 hcq hlen7
      go_wp2_with fail
      go_loopw [29] (fun i wr => ∃ k : Nat, k ≤ n ∧ i = .int .i64 k ∧ (∀ j, j < k → polBad l j = false) ∧ Below w7.heap.size w7 wr) (fun i _ => n - (intOf i).toNat)
      case atStart => exact ⟨0, by omega, rfl, fun j hj => by omega, Below.refl _ _⟩
      case round =>
        obtain ⟨k, hk, rfl, hbad, hb7⟩ := hrel
        have HBAD := Lib.hid hbad
        clear hbad
        by_cases hlt : k < n
        · obtain ⟨b7, off7, rfl, q0, q1, q2, q3⟩ := HQ.out k hlt
          have q0 := cellb q0 hb7
          have q1 := cellb q1 hb7
          have q2 := cellb q2 hb7
          have q3 := cellb q3 hb7
          have r2 : ((k : Int) + 2).tmod (n : Int) = (((k + 2) % n : Nat) : Int) := rfl
          have hmn : (k + 2) % n < n := Nat.mod_lt _ (by omega)
          have r3 : (((k + 2) % n : Nat) : Int) < (n : Int) := by omega
          have r0 : n ≠ 0 := by omega
          have r1 : IntKind.i64.wrap ((k : Int) + 2) = (k : Int) + 2 := IntWalk.i64_in _ (by omega)
          have d1 : (k : Int) < (n : Int) := by omega
          obtain ⟨b, off, rfl, c0, c1⟩ := HC.out ((k + 2) % n) hmn
          have hbw : Below w.heap.size w wr := hB.trans (hb7.mono HS7.out)
          have c0 := cellb c0 hbw
          have c1 := cellb c1 hbw
          have hpb : polBad l k = (nposB (sideE (edgeK l k) (l[(k + 2) % n]?.getD (0, 0)) 1) || l.any (fun p => negB (sideE (edgeK l k) p 1))) := by
            rw [polBad, ← HN.out]
          generalize l[(k + 2) % n]?.getD (0, 0) = p at c0 c1 hpb
          generalize (k + 2) % n = m at c0 c1 r2 r3 hmn
          have r5 : (0 : Int) ≤ (m : Int) := by omega
          generalize edgeK l k = x at q0 q1 q2 q3 hpb
          have TS := Lib.hid (fun W => side_any x p 1 W)
          generalize sideE x p 1 = sd at TS hpb
          have TCX := Lib.hid (fun (B : Nat) (W : World) (hb : Blk W B 122 (cells4 x)) (hw : Below w.heap.size w W) => ContainsFuncG_any 61 #[.pointer (some ⟨B, 0, none⟩)] Tryz.enterCheckPolygon1 (fun p => negB (sideE x p 1)) _ l W (by have := HL.out; omega) (HV.out.carry hw) (fun p _ w1 hb1 => checkPolygon1_any x p B w1 (hb.carry hb1)))
          generalize (l.any fun p => negB (sideE x p 1)) = anyB at TCX hpb
          have HPB := Lib.hid hpb
          clear hpb
          obtain ⟨x0, x1, x2, x3⟩ := x
          obtain ⟨p0, p1⟩ := p
          simp only at TS q0 q1 q2 q3 c0 c1
          go_upto_region 10 with fail
          obtain ⟨W8, hW8⟩ : ∃ v, v = World.alloc wr (Obj.cells #[.int .i64 x0, .int .i64 x1, .int .i64 x2, .int .i64 x3] 122) := ⟨_, rfl⟩
          have kW8 : Below wr.heap.size wr W8 := by rw [hW8]; exact below_new _ _
          have iW8 : Blk W8 (wr.heap.size) 122 [.int .i64 x0, .int .i64 x1, .int .i64 x2, .int .i64 x3] := by rw [hW8]; exact Blk.new _ _ _
          have sW8 : W8.heap.size = wr.heap.size + 1 := by rw [hW8]; simp
          rw [← hW8]
          clear hW8
          have i8 : Blk W8 wr.heap.size 122 (cells4 (x0, x1, x2, x3)) := iW8
          obtain ⟨B8, hB8⟩ : ∃ B, B = wr.heap.size := ⟨_, rfl⟩
          rw [← hB8] at i8 ⊢
          have e0 := i8.cell (j := 0) (v := .int .i64 x0) rfl
          have e1 := i8.cell (j := 1) (v := .int .i64 x1) rfl
          have e2 := i8.cell (j := 2) (v := .int .i64 x2) rfl
          have e3 := i8.cell (j := 3) (v := .int .i64 x3) rfl
          have c0 := cellb c0 kW8
          have c1 := cellb c1 kW8
          replace hb7 := bthen hb7 kW8
          clear q0 q1 q2 q3 iW8 kW8 sW8 hB8 hbw
          refine wp_region_E 99 (by kernel_rfl) ?_
          obtain ⟨wz, hwz⟩ : ∃ v, v = W8.drew := ⟨_, rfl⟩
          rw [← hwz]
          have hlz : Below W8.heap.size W8 wz := by rw [hwz]; exact (Below.refl _ _).drew
          have hbz := bthen hb7 hlz
          have e0 := cellb e0 hlz
          have e1 := cellb e1 hlz
          have e2 := cellb e2 hlz
          have e3 := cellb e3 hlz
          have c0 := cellb c0 hlz
          have c1 := cellb c1 hlz
          have i8 := i8.carry hlz
          clear hwz hlz
          refine wpAnyE_take (i := 0) (oi := { dst := some 34, op := Op.load 122 (Operand.tmp 6), type := 122, pos := "filter.go:145", after := #[], guard := none }) (v := ?_) rfl (by kernel_rfl) (by kernel_rfl) (by kernel_rfl) (by kernel_rfl) (fun _ _ _ h => h) (Or.inl ⟨by rfl, ?_⟩) ?_
          rotate_left
          · (intro w hE; have e0 := cellb e0 hE; have e1 := cellb e1 hE; have e2 := cellb e2 hE; have e3 := cellb e3 hE; have c0 := cellb c0 hE; have c1 := cellb c1 hE; (try dsimp only); go_simp); (try with_reducible rfl)
          try simp only [Act.put, List.setIfInBounds_toArray, List.set_cons_zero, List.set_cons_succ]
          refine wpAnyE_take (i := 1) (oi := { dst := some 35, op := Op.move (Operand.tmp 0), type := 25, pos := "filter.go:145", after := #[], guard := none }) (v := ?_) rfl (by kernel_rfl) (by kernel_rfl) (by kernel_rfl) (by kernel_rfl) (fun _ _ _ h => h) (Or.inl ⟨by rfl, ?_⟩) ?_
          rotate_left
          · (intro w hE; have e0 := cellb e0 hE; have e1 := cellb e1 hE; have e2 := cellb e2 hE; have e3 := cellb e3 hE; have c0 := cellb c0 hE; have c1 := cellb c1 hE; (try dsimp only); go_simp); (try with_reducible rfl)
          try simp only [Act.put, List.setIfInBounds_toArray, List.set_cons_zero, List.set_cons_succ]
          refine wpAnyE_take (i := 2) (oi := { dst := some 36, op := Op.move (Operand.tmp 5), type := 3, pos := "filter.go:145", after := #[], guard := none }) (v := ?_) rfl (by kernel_rfl) (by kernel_rfl) (by kernel_rfl) (by kernel_rfl) (fun _ _ _ h => h) (Or.inl ⟨by rfl, ?_⟩) ?_
          rotate_left
          · (intro w hE; have e0 := cellb e0 hE; have e1 := cellb e1 hE; have e2 := cellb e2 hE; have e3 := cellb e3 hE; have c0 := cellb c0 hE; have c1 := cellb c1 hE; (try dsimp only); go_simp); (try with_reducible rfl)
          try simp only [Act.put, List.setIfInBounds_toArray, List.set_cons_zero, List.set_cons_succ]
          refine wpAnyE_take (i := 3) (oi := { dst := some 37, op := Op.binOp BinOp.add 3 (Operand.tmp 36) (Operand.const (Value.int IntKind.i64 2)) 3, type := 3, pos := "filter.go:145", after := #[{ on := 2, ground := Ground.data }], guard := none }) (v := ?_) rfl (by kernel_rfl) (by kernel_rfl) (by kernel_rfl) (by kernel_rfl) (fun _ _ _ h => h) (Or.inl ⟨by rfl, ?_⟩) ?_
          rotate_left
          · (intro w hE; have e0 := cellb e0 hE; have e1 := cellb e1 hE; have e2 := cellb e2 hE; have e3 := cellb e3 hE; have c0 := cellb c0 hE; have c1 := cellb c1 hE; (try dsimp only); go_simp); (try with_reducible rfl)
          try simp only [Act.put, List.setIfInBounds_toArray, List.set_cons_zero, List.set_cons_succ]
          refine wpAnyE_take (i := 4) (oi := { dst := some 38, op := Op.move (Operand.tmp 0), type := 25, pos := "filter.go:145", after := #[], guard := none }) (v := ?_) rfl (by kernel_rfl) (by kernel_rfl) (by kernel_rfl) (by kernel_rfl) (fun _ _ _ h => h) (Or.inl ⟨by rfl, ?_⟩) ?_
          rotate_left
          · (intro w hE; have e0 := cellb e0 hE; have e1 := cellb e1 hE; have e2 := cellb e2 hE; have e3 := cellb e3 hE; have c0 := cellb c0 hE; have c1 := cellb c1 hE; (try dsimp only); go_simp); (try with_reducible rfl)
          try simp only [Act.put, List.setIfInBounds_toArray, List.set_cons_zero, List.set_cons_succ]
          refine wpAnyE_take (i := 5) (oi := { dst := some 39, op := Op.call { callee := Callee.builtin Builtin.len, args := #[Operand.tmp 38], argTypes := #[25] }, type := 3, pos := "filter.go:145", after := #[{ on := 4, ground := Ground.data }], guard := none }) (v := ?_) rfl (by kernel_rfl) (by kernel_rfl) (by kernel_rfl) (by kernel_rfl) (fun _ _ _ h => h) (Or.inl ⟨by rfl, ?_⟩) ?_
          rotate_left
          · (intro w hE; have e0 := cellb e0 hE; have e1 := cellb e1 hE; have e2 := cellb e2 hE; have e3 := cellb e3 hE; have c0 := cellb c0 hE; have c1 := cellb c1 hE; (try dsimp only); go_simp); (try with_reducible rfl)
          try simp only [Act.put, List.setIfInBounds_toArray, List.set_cons_zero, List.set_cons_succ]
          refine wpAnyE_take (i := 6) (oi := { dst := some 40, op := Op.binOp BinOp.rem 3 (Operand.tmp 37) (Operand.tmp 39) 3, type := 3, pos := "filter.go:145", after := #[{ on := 3, ground := Ground.data }, { on := 5, ground := Ground.data }], guard := none }) (v := ?_) rfl (by kernel_rfl) (by kernel_rfl) (by kernel_rfl) (by kernel_rfl) (fun _ _ _ h => h) (Or.inl ⟨by rfl, ?_⟩) ?_
          rotate_left
          · (intro w hE; have e0 := cellb e0 hE; have e1 := cellb e1 hE; have e2 := cellb e2 hE; have e3 := cellb e3 hE; have c0 := cellb c0 hE; have c1 := cellb c1 hE; (try dsimp only); go_simp); (try with_reducible rfl)
          try simp only [Act.put, List.setIfInBounds_toArray, List.set_cons_zero, List.set_cons_succ]
          refine wpAnyE_take (i := 7) (oi := { dst := some 41, op := Op.indexAddr 25 (Operand.tmp 35) (Operand.tmp 40), type := 0, pos := "filter.go:145", after := #[{ on := 1, ground := Ground.data }, { on := 6, ground := Ground.data }], guard := none }) (v := ?_) rfl (by kernel_rfl) (by kernel_rfl) (by kernel_rfl) (by kernel_rfl) (fun _ _ _ h => h) (Or.inl ⟨by rfl, ?_⟩) ?_
          rotate_left
          · (intro w hE; have e0 := cellb e0 hE; have e1 := cellb e1 hE; have e2 := cellb e2 hE; have e3 := cellb e3 hE; have c0 := cellb c0 hE; have c1 := cellb c1 hE; (try dsimp only); go_simp); (try with_reducible rfl)
          try simp only [Act.put, List.setIfInBounds_toArray, List.set_cons_zero, List.set_cons_succ]
          refine wpAnyE_take (i := 8) (oi := { dst := some 42, op := Op.load 63 (Operand.tmp 41), type := 63, pos := "filter.go:145", after := #[{ on := 7, ground := Ground.data }], guard := none }) (v := ?_) rfl (by kernel_rfl) (by kernel_rfl) (by kernel_rfl) (by kernel_rfl) (fun _ _ _ h => h) (Or.inl ⟨by rfl, ?_⟩) ?_
          rotate_left
          · (intro w hE; have e0 := cellb e0 hE; have e1 := cellb e1 hE; have e2 := cellb e2 hE; have e3 := cellb e3 hE; have c0 := cellb c0 hE; have c1 := cellb c1 hE; (try dsimp only); go_simp); (try with_reducible rfl)
          try simp only [Act.put, List.setIfInBounds_toArray, List.set_cons_zero, List.set_cons_succ]
          refine wpAnyE_call (i := 9) (oi := { dst := some 43, op := Op.call { callee := Callee.value (Operand.func 59), args := #[Operand.tmp 34, Operand.tmp 42, Operand.const (Value.int IntKind.i64 1)], argTypes := #[122, 63, 3] }, type := 3, pos := "filter.go:145", after := #[{ on := 0, ground := Ground.data }, { on := 8, ground := Ground.data }], guard := none }) (fun w hE => TS.out w) rfl (by kernel_rfl) (by kernel_rfl) (by kernel_rfl) (by kernel_rfl) (fun _ _ _ h => h) (by rfl) (fun w hE => by (try dsimp only); go_simp) ?_
          try simp only [Act.put, List.setIfInBounds_toArray, List.set_cons_zero, List.set_cons_succ]
          refine wpAnyE_take (i := 10) (oi := { dst := some 44, op := Op.binOp BinOp.leq 3 (Operand.tmp 43) (Operand.const (Value.int IntKind.i64 0)) 3, type := 4, pos := "filter.go:145", after := #[{ on := 9, ground := Ground.data }], guard := none }) (v := ?_) rfl (by kernel_rfl) (by kernel_rfl) (by kernel_rfl) (by kernel_rfl) (fun _ _ _ h => h) (Or.inl ⟨by rfl, ?_⟩) ?_
          rotate_left
          · (intro w hE; have e0 := cellb e0 hE; have e1 := cellb e1 hE; have e2 := cellb e2 hE; have e3 := cellb e3 hE; have c0 := cellb c0 hE; have c1 := cellb c1 hE; (try dsimp only); go_simp); (try with_reducible rfl)
          try simp only [Act.put, List.setIfInBounds_toArray, List.set_cons_zero, List.set_cons_succ]
          refine wpAnyE_done (by kernel_rfl) (fun wy1 hE => ?_) _
          have hbz1 := bthen hbz hE
          have e0 := cellb e0 hE
          have e1 := cellb e1 hE
          have e2 := cellb e2 hE
          have e3 := cellb e3 hE
          have c0 := cellb c0 hE
          have c1 := cellb c1 hE
          have i8 := i8.carry hE
          clear hE
          have hb7 := hbz1
          obtain ⟨W9, hW9⟩ : ∃ v, v = wy1 := ⟨_, rfl⟩
          rw [← hW9] at hb7 i8 ⊢
          clear hW9 e0 e1 e2 e3 c0 c1
          have hbw : Below w.heap.size w W9 := hB.trans (hb7.mono HS7.out)
          by_cases hs : sd ≤ 0
          · have hE : E = 11 := by rw [HE2.out]; exact polC_bad l k (by rw [← HN.out]; exact hlt) (by rw [HPB.out]; simp [nposB, hs])
            have HE := Lib.hid hE
            clear hE
            go_wp2
            go_ret
            exact ⟨ret_int HE.out.symm, hbw⟩
          · have TC := Lib.hid (TCX.out B8 W9 i8 hbw)
            clear TCX
            go_wp2_with fail
            refine TC.out.mono ?_
            rintro e w10 ⟨rfl, hb10⟩
            replace hb7 := bthen hb7 hb10
            replace hbw := bthen hbw hb10
            clear hb10
            cases anyB
            · have hbk : ∀ j, j < k + 1 → polBad l j = false := fun j hj => by
                rcases Nat.lt_or_ge j k with h | h
                · exact HBAD.out j h
                · obtain rfl : j = k := by omega
                  rw [HPB.out]; simp [nposB, hs]
              have HBK := Lib.hid hbk
              clear hbk
              go_wp2
              go_roundw
              case rel => exact ⟨k + 1, by omega, by go_num, HBK.out, hb7⟩
              case measure => simp [intOf]; omega
            · have hE : E = 11 := by rw [HE2.out]; exact polC_bad l k (by rw [← HN.out]; exact hlt) (by rw [HPB.out]; simp)
              have HE := Lib.hid hE
              clear hE
              go_wp2
              go_ret
              exact ⟨ret_int HE.out.symm, hbw⟩
        · obtain rfl : k = n := by omega
          have hE : E = 0 := by rw [HE2.out]; exact polC_ok l (fun j hj => HBAD.out j (by rw [HN.out]; exact hj))
          have HE := Lib.hid hE
          clear hE
          have hbw : Below w.heap.size w wr := hB.trans (hb7.mono HS7.out)
          go_wp2
          go_ret
          exact ⟨ret_int HE.out.symm, hbw⟩
    · have z : (eP == 0) = false := by rw [beq_eq_false_iff_ne]; exact hp
      have HNE := Lib.hid hp
      go_wp2_with fail
      go_ret
      exact ⟨ret_int (by rw [HE.out, orE, if_neg HNE.out]), hB⟩
  · have z : (eN == 0) = false := by rw [beq_eq_false_iff_ne]; exact he
    have HNE := Lib.hid he
    go_wp2_with fail
    go_ret
    exact ⟨ret_int (by rw [HE.out, orE, if_neg HNE.out]), hB⟩
end Go.Proofs.YtpkaoechbmbolaaGreatDoor

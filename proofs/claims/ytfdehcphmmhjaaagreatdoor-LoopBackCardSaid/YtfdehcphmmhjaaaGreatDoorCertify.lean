/- The members of a box, as they are visited: a function that calls itself through a variable. -/
import Derived.Test.YtfdehcphmmhjaaaGreatDoorPairs
import Derived.Stop.RegionWithIn
import Derived.Laws.EntriesVeiled
import Derived.Deep.DeepCutAuto
namespace Go.Proofs.YtfdehcphmmhjaaaGreatDoor
section
open Go.RowKit Go.Shelf

attribute [local go_sem] Oper.semAt_some

/-- the integers from one to another one. -/
def span (lo hi : Int) : List Int := upto (fun k => lo + k) (hi + 1 - lo).toNat
/-- the members of a box, the first coefficient changing last. -/
def membersW : List (Int × Int) → List (List Int)
  | [] => [[]]
  | x :: r => (span x.1 x.2).flatMap fun n => (membersW r).map (n :: ·)
theorem membersW_length {b : List (Int × Int)} {m : List Int} (h : m ∈ membersW b) : m.length = b.length := by
  induction b generalizing m with
  | nil => simp [membersW] at h; simp [h]
  | cons x r ih =>
    simp only [membersW, List.mem_flatMap, List.mem_map] at h
    obtain ⟨n, _, t, ht, rfl⟩ := h
    simp [ih ht]

/-- what a body keeps: what lay below n₀, block Bb, the cells from H on. -/
def KMem (n₀ Bb H : Nat) (A B : World) : Prop :=
  Below n₀ A B ∧ B.heap[Bb]? = A.heap[Bb]? ∧ ∀ (k : Nat) (c : Array Value) (T : TypeId), H ≤ k → A.heap[k]? = some (.cells c T (0, 0)) → B.heap[k]? = some (.cells c T (0, 0))
theorem KMem.refl (n₀ Bb H : Nat) (A : World) : KMem n₀ Bb H A A := ⟨Below.refl _ _, rfl, fun _ _ _ _ h => h⟩
theorem KMem.trans {n₀ Bb H : Nat} {A B C : World} (h : KMem n₀ Bb H A B) (k : KMem n₀ Bb H B C) : KMem n₀ Bb H A C :=
  ⟨h.1.trans k.1, k.2.1.trans h.2.1, fun i c T hi hc => k.2.2 i c T hi (h.2.2 i c T hi hc)⟩
theorem KMem.below {n₀ Bb H : Nat} {A B : World} (h : Below A.heap.size A B) (hn : n₀ ≤ A.heap.size) (hb : Bb < A.heap.size) : KMem n₀ Bb H A B :=
  ⟨h.mono hn, h.block _ hb, fun k _ _ _ hc => (h.block k (Array.getElem?_eq_some_iff.1 hc).1).trans hc⟩
theorem KMem.turn {n₀ Bb H : Nat} (W : World) (l : Nat) (o o' : Obj) (hn : n₀ ≤ l) (hb : Bb < l) (h : W.heap[l]? = some o) (h1 : o.isCells = false) : KMem n₀ Bb H W (W.putObj l o') :=
  ⟨(Below.refl n₀ W).grown (grownBy_putObj' W l o') (by have := (Array.getElem?_eq_some_iff.1 h).1; omega) (fun k e => by cases e; omega), World.putObj_heap_other (by omega), fun k c T _ hc => by
    by_cases e : k = l
    · subst e; rw [hc] at h; cases h; cases h1
    · exact (World.putObj_heap_other e).trans hc⟩

theorem ownI_kept {H base : Nat} {v : Value} {l : List Int} {β : Type} : OwnFrom H (fun (_ : β) W => OwnI 3 base W v l) := fun _ _ _ _ hs hg hr => hs.kint (kint_of_grown hg (fun r e => (hr r e).2))

/-- the state in which the function stands: the box; yield; the coefficients; itself. -/
structure FillSt (w0 : World) (n₀ H Bb By Bp Bf R l : Nat) (bv : Value) (b : List (Int × Int)) (W : World) (cur : List Int) : Prop where
  cb : W.cell? ⟨Bb, 0, none⟩ = some bv
  bl : Below n₀ w0 W
  cy : Blk W By 172 [.func (.yield l) #[] #[]]
  cp : Blk W Bp 30 [.slice (some ⟨R, 0, none⟩) b.length b.length]
  cf : Blk W Bf 170 [.func (.func 106) #[] #[.pointer (some ⟨Bb, 0, none⟩), .pointer (some ⟨By, 0, none⟩), .pointer (some ⟨Bp, 0, none⟩), .pointer (some ⟨Bf, 0, none⟩)]]
  cr : BlkI W R 3 cur
  len : cur.length = b.length

section
variable {w0 : World} {n₀ H Bb By Bp Bf R l : Nat} {bv : Value} {b : List (Int × Int)} {W W' : World} {cur : List Int}
theorem FillSt.kmem (h : FillSt w0 n₀ H Bb By Bp Bf R l bv b W cur) (k : KMem n₀ Bb H W W') (hy : H ≤ By) (hp : H ≤ Bp) (hf : H ≤ Bf) (hR : H ≤ R) : FillSt w0 n₀ H Bb By Bp Bf R l bv b W' cur :=
  ⟨(World.cell?_of_block (a := ⟨Bb, 0, none⟩) k.2.1).trans h.cb, h.bl.trans k.1, k.2.2 _ _ _ hy h.cy, k.2.2 _ _ _ hp h.cp, k.2.2 _ _ _ hf h.cf, k.2.2 _ _ _ hR h.cr, h.len⟩
theorem FillSt.carry (h : FillSt w0 n₀ H Bb By Bp Bf R l bv b W cur) (k : Below W.heap.size W W') (hn : n₀ ≤ W.heap.size) : FillSt w0 n₀ H Bb By Bp Bf R l bv b W' cur :=
  ⟨cellb h.cb k, h.bl.trans (k.mono hn), h.cy.carry k, h.cp.carry k, h.cf.carry k, Blk.carry h.cr k, h.len⟩
theorem FillSt.set (h : FillSt w0 n₀ H Bb By Bp Bf R l bv b W cur) (hb : Bb ≠ R) (hn : n₀ ≤ R) (j : Nat) (x : Int) : FillSt w0 n₀ H Bb By Bp Bf R l bv b (W.setCell ⟨R, j, none⟩ (.int .i64 x)) (cur.set j x) :=
  ⟨(World.cell?_of_block (a := ⟨Bb, 0, none⟩) (Below.heap_setCell _ _ _ _ hb)).trans h.cb, h.bl.setCell hn _, h.cy.other (h.cy.ne h.cr (by decide)) _, h.cp.other (h.cp.ne h.cr (by decide)) _, h.cf.other (h.cf.ne h.cr (by decide)) _, BlkI.set h.cr j x, by rw [List.length_set]; exact h.len⟩
end

theorem grownBy_set (W : World) (p : Addr) (v : Value) : W.grownBy (W.setCell p v) (some p.block) :=
  ⟨rfl, rfl, rfl, (KeepsWalks.setCell W _ v).size, fun k _ hk => Below.heap_setCell _ _ _ k (fun e => hk (by rw [e]))⟩

theorem run_pairs_bd {b : List (Int × Int)} (hb : ∀ x ∈ b, -1000 ≤ x.1 ∧ x.1 ≤ 1000 ∧ -1000 ≤ x.2 ∧ x.2 ≤ 1000) {i : Nat} {x : Int × Int} (h : b[i]? = some x) : -1000 ≤ x.1 ∧ x.1 ≤ 1000 ∧ -1000 ≤ x.2 ∧ x.2 ≤ 1000 := hb x (List.mem_of_getElem? h)

theorem flatMap_prefix {α β : Type} {l1 l2 : List α} (G : α → List β) (h : l1 <+: l2) : l1.flatMap G <+: l2.flatMap G := by
  obtain ⟨t, rfl⟩ := h
  exact ⟨t.flatMap G, List.flatMap_append.symm⟩

/-- what one call of the function does. -/
def FillPost (w0 : World) (n₀ H Bb By Bp Bf R l : Nat) (bv : Value) (b : List (Int × Int)) (J Jx : List (Value × List Int) → World → Prop) (pre : List (Value × List Int)) (i : Nat) (cur : List Int) (e : Ending) (W' : World) : Prop :=
  (e = .returned (.bool true) ∧ ∃ (ys : List (Value × List Int)) (cur' : List Int), ys.map Prod.snd = (membersW (b.drop i)).map (cur.take i ++ ·) ∧ J (pre ++ ys) W' ∧ FillSt w0 n₀ H Bb By Bp Bf R l bv b W' cur' ∧ cur'.take i = cur.take i) ∨
  (e = .returned (.bool false) ∧ ∃ ys : List (Value × List Int), ys.map Prod.snd <+: (membersW (b.drop i)).map (cur.take i ++ ·) ∧ Jx (pre ++ ys) W')

set_option maxRecDepth 100000 in
set_option maxHeartbeats 4000000 in
theorem fill_any (w0 : World) (n₀ H Bb By Bp Bf R l N : Nat) (hN : 1 ≤ N) (bv : Value) (b : List (Int × Int)) (hbd : ∀ x ∈ b, -1000 ≤ x.1 ∧ x.1 ≤ 1000 ∧ -1000 ≤ x.2 ∧ x.2 ≤ 1000) (hbl : b.length ≤ 1000000) (hb1 : 0 < b.length) (hbv : Pairs w0 bv b)
    (hn0 : w0.heap.size ≤ n₀) (hnH : n₀ ≤ H) (hbH : Bb < H) (hy : H ≤ By) (hp : H ≤ Bp) (hf : H ≤ Bf) (hR : H ≤ R) (J Jx : List (Value × List Int) → World → Prop)
    (hJ : ∀ pre A B row, J pre A → A.grownBy B row → (∀ r, row = some r → H ≤ r) → J pre B)
    (hY : ∀ pre x W, J pre W → (OwnI 3 n₀ W x.1 x.2 ∧ x.2.length = b.length) → YieldAt Fence.wide (N - 1) Tryz.prog l #[x.1] W fun e W' =>
      (e = .returned (.bool true) ∧ J (pre ++ [x]) W' ∧ KMem n₀ Bb H W W') ∨ (e = .returned (.bool false) ∧ Jx (pre ++ [x]) W')) :
    ∀ (d i : Nat), i + d = b.length → ∀ (pre : List (Value × List Int)) (cur : List Int) (W : World), FillSt w0 n₀ H Bb By Bp Bf R l bv b W cur → J pre W →
      Calls Tryz.prog 106 #[.int .i64 i, .pointer (some ⟨Bb, 0, none⟩), .pointer (some ⟨By, 0, none⟩), .pointer (some ⟨Bp, 0, none⟩), .pointer (some ⟨Bf, 0, none⟩)] W (FillPost w0 n₀ H Bb By Bp Bf R l bv b J Jx pre i cur) := by
  intro d
  induction d with
  | zero =>
    intro i hi pre cur W hst hj
    obtain rfl : i = b.length := by omega
    refine (callsIn_wide (n := N)).1 ?_
    have hwf : ∀ f, Fence.wide.fn f := fun _ => trivial
    refine callsIn_of_wp Tryz.func106 rfl trivial ?_ rfl
    simp only [Tryz.ntmps106, List.size_toArray, List.length_cons, List.length_nil, Nat.reduceAdd, Nat.reduceSub, Array.replicate_succ, Array.replicate_zero, List.push_toArray, List.append_toArray, List.nil_append, List.cons_append]
    obtain ⟨ba, bc, rfl, _⟩ := hbv
    have c1 := hst.cb
    have c2 := hst.cy.cell (j := 0) rfl
    have c3 := hst.cp.cell (j := 0) rfl
    have hstD := hst.carry (Below.refl _ W).drew (by have := hst.cr.lt; omega)
    have hin : Ints W.drew (.slice (some ⟨R, 0, none⟩) b.length b.length) cur := BlkI.ints hstD.cr hst.len.symm
    have hcl := (callsIn_wide (n := N - 1)).2 (Clone_any _ cur W.drew hin (by rw [hst.len]; omega))
    have HCL := Lib.hid hcl
    have hjD := hJ _ _ _ none hj (grown_of_below (Below.refl _ W).drew) (fun r e => by cases e)
    have hsz : n₀ ≤ W.drew.heap.size := by have := hstD.cr.lt; omega
    have hyd : ∀ (u : Value) (w2 : World), OwnI 3 W.drew.heap.size w2 u cur → Below W.drew.heap.size W.drew w2 → ∃ fn tmps assign body, Sem.run Tryz.prog (Instr.yield l #[u]) w2 = .ok (.round l fn tmps assign body) w2 ∧ RoundIn Fence.wide (N - 1) Tryz.prog l fn tmps assign body w2 fun e W' => ∃ r : Bool, e = .returned (.bool r) ∧ FillPost w0 n₀ H Bb By Bp Bf R l (.slice ba b.length bc) b J Jx pre b.length cur e W' := fun u w2 hu hb2 => by
      obtain ⟨fn, tmps, assign, body, hy1, hR1⟩ := hY pre (u, cur) w2 (hJ _ _ _ none hjD (grown_of_below hb2) (fun r e => by cases e)) ⟨hu.base hsz, hst.len⟩
      refine ⟨fn, tmps, assign, body, hy1, hR1.mono ?_⟩
      have hm : (membersW (b.drop b.length)).map (cur.take b.length ++ ·) = [cur] := by
        rw [List.drop_length, ← hst.len, List.take_length]; simp [membersW]
      rintro e W3 (⟨rfl, hj3, hk3⟩ | ⟨rfl, hjx⟩)
      · exact ⟨true, rfl, .inl ⟨rfl, [(u, cur)], cur, by rw [hm]; rfl, hj3, (hstD.carry hb2 hsz).kmem hk3 hy hp hf hR, rfl⟩⟩
      · exact ⟨false, rfl, .inr ⟨rfl, [(u, cur)], by rw [hm]; exact List.prefix_refl _, hjx⟩⟩
    have HYD := Lib.hid hyd
    clear hyd hcl hj hjD hY hbd hJ hstD hin
    gi_wp2_with fail
    gi_region_with (first | (gi_at_call 44; refine HCL.out.mono ?_; rintro e w2 ⟨⟨u, rfl, hu⟩, hb2⟩; obtain ⟨fn, tmps, assign, body, hy1, hR1⟩ := HYD.out u w2 hu hb2; have c2' := cellb (w := W.drew) c2 hb2) | (refine hR1.mono ?_; rintro e W3 ⟨r, rfl, hfin⟩))
    all_goals
      gi_wp2
      go_ret
      exact hfin
  | succ d ih =>
    intro i hi pre cur W hst hj
    obtain ⟨⟨lo, up⟩, hx⟩ : ∃ x, b[i]? = some x := ⟨_, List.getElem?_eq_getElem (by omega)⟩
    obtain ⟨bd1, bd2, bd3, bd4⟩ := run_pairs_bd hbd hx
    simp only at bd1 bd2 bd3 bd4
    have hmem : (membersW (b.drop i)).map (cur.take i ++ ·) = (span lo up).flatMap fun n => (membersW (b.drop (i + 1))).map (cur.take i ++ [n] ++ ·) := by
      have hd : b.drop i = (lo, up) :: b.drop (i + 1) := by
        obtain ⟨h1, h2⟩ := List.getElem?_eq_some_iff.1 hx
        rw [← h2]; exact List.drop_eq_getElem_cons h1
      rw [hd, membersW, List.map_flatMap]
      simp [List.map_map, Function.comp_def]
    have HM := Lib.hid hmem
    clear hmem
    refine (callsIn_wide (n := N)).1 ?_
    have hwf : ∀ f, Fence.wide.fn f := fun _ => trivial
    refine callsIn_of_wp Tryz.func106 rfl trivial ?_ rfl
    simp only [Tryz.ntmps106, List.size_toArray, List.length_cons, List.length_nil, Nat.reduceAdd, Nat.reduceSub, Array.replicate_succ, Array.replicate_zero, List.push_toArray, List.append_toArray, List.nil_append, List.cons_append]
    have hbv2 := hbv
    obtain ⟨ba, bc, rfl, _, _⟩ := hbv2
    obtain ⟨b1, o1, _, hba, hcs⟩ := hbv.head hb1
    cases hba
    have HCS := Lib.hid (hcs i (lo, up) hx)
    have c1 := hst.cb
    have hbw : ∀ V : World, Below n₀ w0 V → V.cell? ⟨b1, o1 + i * 2, none⟩ = some (.int .i64 lo) ∧ V.cell? ⟨b1, o1 + i * 2 + 1, none⟩ = some (.int .i64 up) := fun V hb => ⟨cellb HCS.out.1 (hb.mono hn0), cellb HCS.out.2 (hb.mono hn0)⟩
    have HBW := Lib.hid hbw
    obtain ⟨c2, c3⟩ := hbw W hst.bl
    have t1 : decide ((i : Int) = (b.length : Int)) = false := by simp; omega
    have t2 : (i : Int) < (b.length : Int) := by omega
    have HY2 := Lib.hid hY
    have HJ2 := Lib.hid hJ
    have HIH := Lib.hid ih
    have HST := Lib.hid hst.len
    clear hY hJ ih hcs hbw hx hbd
    gi_wp2_with fail
    clear c1 c2 c3
    gi_loopw [7] (fun nv wr => ∃ (k : Nat) (ys : List (Value × List Int)) (cur' : List Int), k ≤ (up + 1 - lo).toNat ∧ nv = .int .i64 (lo + k) ∧ ys.map Prod.snd = (upto (fun k : Nat => lo + k) k).flatMap (fun n => (membersW (b.drop (i + 1))).map (cur.take i ++ [n] ++ ·)) ∧ J (pre ++ ys) wr ∧ FillSt w0 n₀ H Bb By Bp Bf R l (.slice (some ⟨b1, o1, none⟩) b.length bc) b wr cur' ∧ cur'.take i = cur.take i)
      (fun nv _ => (up + 1 - intOf nv).toNat)
    case atStart => exact ⟨0, [], cur, Nat.zero_le _, by simp, rfl, by simpa using hj, hst, rfl⟩
    case round =>
      obtain ⟨k, ys, cur', hk, rfl, hys, hj2, hst2, hcur⟩ := hrel
      have HYS := Lib.hid hys
      have HCU := Lib.hid hcur
      clear hys hcur hj hst
      have c1 := hst2.cb
      obtain ⟨c2, c3⟩ := HBW.out wr hst2.bl
      have c4 := hst2.cp.cell (j := 0) rfl
      have c5 := hst2.cf.cell (j := 0) rfl
      by_cases hle : lo + (k : Int) ≤ up
      · have g1 := hst2.cr
        have c6 := BlkI.cell g1 (j := i) (by rw [hst2.len]; omega)
        have f6 := Blk.frozen g1 i
        have hst3 := hst2.set (by omega) (by omega) i (lo + k)
        have hj3 := HJ2.out _ _ _ (some R) hj2 (grownBy_set wr ⟨R, i, none⟩ (.int .i64 (lo + k))) (fun r e => by cases e; exact hR)
        have hih := (callsIn_wide (n := N - 1)).2 (HIH.out (i + 1) (by omega) (pre ++ ys) _ _ hst3 hj3)
        have c7 := hst3.cf.cell (j := 0) rfl
        rw [show (((i + 1 : Nat) : Int)) = (i : Int) + 1 from by omega] at hih
        have HIH2 := Lib.hid hih
        clear hih hj2 hj3 hst3 g1
        gi_wp2_with fail
        refine HIH2.out.mono ?_
        have hlenc : (cur'.set i (lo + (k : Int))).take (i + 1) = cur.take i ++ [lo + (k : Int)] := by
          rw [← HCU.out, List.take_add_one, List.take_set_of_le (by omega), List.getElem?_set_self (by rw [hst2.len]; omega)]
          rfl
        have HLC := Lib.hid hlenc
        clear hlenc c1 c2 c3 c4 c5 c6 f6 c7
        rintro e w2 (⟨rfl, ys2, cur3, p1, p2, p3, p4⟩ | ⟨rfl, ys2, p1, p2⟩)
        · have P1 := Lib.hid p1
          have P4 := Lib.hid p4
          clear p1 p4 hst2
          gi_wp2
          go_roundw
          case rel =>
            refine ⟨k + 1, ys ++ ys2, cur3, by omega, ?_, ?_, by rw [← List.append_assoc]; exact p2, p3, ?_⟩
            · rw [show lo + (k : Int) + 1 = lo + ((k + 1 : Nat) : Int) from by omega]
            · rw [List.map_append, HYS.out, P1.out, HLC.out, upto_succ, List.flatMap_append]
              simp
            · have h := congrArg (List.take i) P4.out
              rw [HLC.out, List.take_take, Nat.min_eq_left (by omega), List.take_append_of_le_length (by rw [List.length_take, HST.out]; omega), List.take_take, Nat.min_self] at h
              exact h
          case measure => simp [intOf]; omega
        · have P1 := Lib.hid p1
          clear p1 hst2
          gi_wp2
          go_ret
          refine .inr ⟨rfl, ys ++ ys2, ?_, by rw [← List.append_assoc]; exact p2⟩
          rw [HM.out, List.map_append, HYS.out]
          have h := P1.out
          rw [HLC.out] at h
          have h1 : (upto (fun k : Nat => lo + (k : Int)) (k + 1)).flatMap (fun n => (membersW (b.drop (i + 1))).map (cur.take i ++ [n] ++ ·)) <+: (span lo up).flatMap (fun n => (membersW (b.drop (i + 1))).map (cur.take i ++ [n] ++ ·)) := flatMap_prefix _ (upto_prefix _ (by omega))
          rw [upto_succ, List.flatMap_append] at h1
          refine List.IsPrefix.trans ((List.prefix_append_right_inj _).2 ?_) h1
          simpa using h
      · clear c4 c5
        gi_wp2
        go_ret
        obtain rfl : k = (up + 1 - lo).toNat := by omega
        exact .inl ⟨rfl, ys, cur', by rw [HM.out, HYS.out]; rfl, hj2, hst2, HCU.out⟩

set_option maxHeartbeats 400000 in
theorem members_any (a : Option Addr) (n c : Nat) (w : World) :
    Calls Tryz.prog 65 #[.slice a n c] w fun e w' => e = .returned (.func (.func 105) #[] #[.pointer (some ⟨w.heap.size, 0, none⟩)]) ∧ w.alloc (.cells #[.slice a n c] 72) = w' := by
  go_enter Tryz.func65, Tryz.ntmps65
  go_wp2
  go_ret
  exact ⟨rfl, rfl⟩

set_option maxRecDepth 100000 in
set_option maxHeartbeats 2000000 in
theorem members1_any (w0 : World) (n₀ Bb l N : Nat) (hN : 1 ≤ N) (bv : Value) (b : List (Int × Int)) (hbd : ∀ x ∈ b, -1000 ≤ x.1 ∧ x.1 ≤ 1000 ∧ -1000 ≤ x.2 ∧ x.2 ≤ 1000) (hbl : b.length ≤ 1000000) (hb1 : 0 < b.length) (hbv : Pairs w0 bv b)
    (hn0 : w0.heap.size ≤ n₀) (J Jx : List (Value × List Int) → World → Prop) (W : World) (hbH : Bb < W.heap.size) (hnH : n₀ ≤ W.heap.size) (hW : Below n₀ w0 W) (hcb : W.cell? ⟨Bb, 0, none⟩ = some bv)
    (hJ : ∀ pre A B row, J pre A → A.grownBy B row → (∀ r, row = some r → W.heap.size ≤ r) → J pre B)
    (hY : ∀ pre x V, J pre V → (OwnI 3 n₀ V x.1 x.2 ∧ x.2.length = b.length) → YieldAt Fence.wide (N - 1) Tryz.prog l #[x.1] V fun e W' =>
      (e = .returned (.bool true) ∧ J (pre ++ [x]) W' ∧ KMem n₀ Bb W.heap.size V W') ∨ (e = .returned (.bool false) ∧ Jx (pre ++ [x]) W')) (h0 : J [] W) :
    Calls Tryz.prog 105 #[.func (.yield l) #[] #[], .pointer (some ⟨Bb, 0, none⟩)] W fun e W' => (∃ v, e = .returned v) ∧
      ((∃ ys, ys.map Prod.snd = membersW b ∧ J ys W') ∨ (∃ pre, pre.map Prod.snd <+: membersW b ∧ Jx pre W')) := by
  obtain ⟨ba, bc, rfl, _⟩ := id hbv
  have hmk := run_make_row' (P := Tryz.prog) 30 3 (.int .i64 0) 8 Tryz.underlying30 Tryz.infoInt rfl .i64 .i64 b.length (by omega) (by omega)
  rw [ia_made] at hmk
  have H1 := Lib.hid hbd
  have H2 := Lib.hid hbv
  have H3 := Lib.hid hJ
  have H4 := Lib.hid hY
  have H5 := Lib.hid hW
  clear hbd hbv hJ hY hW
  go_enter Tryz.func105, Tryz.ntmps105
  go_wp2_with fail
  clear hmk
  obtain ⟨v1, hv1⟩ : ∃ v, v = W.alloc (Obj.cells #[Value.func (Fn.yield l) #[] #[]] 172) := ⟨_, rfl⟩
  have k1 : Below W.heap.size W v1 := by rw [hv1]; exact below_new _ _
  have s1 : v1.heap.size = W.heap.size + 1 := by rw [hv1]; simp
  have y1 : Blk v1 W.heap.size 172 [.func (.yield l) #[] #[]] := by rw [hv1]; exact Blk.new _ _ _
  rw [← hv1]
  obtain ⟨v2, hv2⟩ : ∃ v, v = v1.alloc (Obj.cells (ia (List.replicate b.length 0)) 3) := ⟨_, rfl⟩
  have k2 : Below v1.heap.size v1 v2 := by rw [hv2]; exact below_new _ _
  have s2 : v2.heap.size = W.heap.size + 1 + 1 := by rw [hv2]; simp [s1]
  have y2 : BlkI v2 (W.heap.size + 1) 3 (List.replicate b.length 0) := by rw [hv2, ← s1]; exact BlkI.new _ _ _
  rw [← hv2]
  obtain ⟨v3, hv3⟩ : ∃ v, v = v2.alloc (Obj.cells #[Value.slice (some { block := W.heap.size + 1, off := 0 }) b.length b.length] 30) := ⟨_, rfl⟩
  have k3 : Below v2.heap.size v2 v3 := by rw [hv3]; exact below_new _ _
  have s3 : v3.heap.size = W.heap.size + 1 + 1 + 1 := by rw [hv3]; simp [s2]
  have y3 : Blk v3 (W.heap.size + 1 + 1) 30 [.slice (some ⟨W.heap.size + 1, 0, none⟩) b.length b.length] := by rw [hv3, ← s2]; exact Blk.new _ _ _
  rw [← hv3]
  generalize hv4 : v3.alloc _ = v4
  have k4 : Below v3.heap.size v3 v4 := by rw [← hv4]; exact below_new _ _
  have y4 : Blk v4 (W.heap.size + 1 + 1 + 1) 170 [.func (.func 106) #[] #[.pointer (some ⟨Bb, 0, none⟩), .pointer (some ⟨W.heap.size, 0, none⟩), .pointer (some ⟨W.heap.size + 1 + 1, 0, none⟩), .pointer (some ⟨W.heap.size + 1 + 1 + 1, 0, none⟩)]] := by rw [← hv4, ← s3]; exact Blk.new _ _ _
  clear hv1 hv2 hv3 hv4
  have k14 := bthen (bthen (bthen k1 k2) k3) k4
  have hst : FillSt w0 n₀ W.heap.size Bb W.heap.size (W.heap.size + 1 + 1) (W.heap.size + 1 + 1 + 1) (W.heap.size + 1) l (.slice ba b.length bc) b v4 (List.replicate b.length 0) :=
    ⟨cellb hcb k14, H5.out.trans (k14.mono hnH), ((y1.carry k2).carry k3).carry k4, y3.carry k4, y4, (Blk.carry y2 k3).carry k4, by simp⟩
  have hf := fill_any w0 n₀ W.heap.size Bb W.heap.size (W.heap.size + 1 + 1) (W.heap.size + 1 + 1 + 1) (W.heap.size + 1) l N hN (.slice ba b.length bc) b H1.out hbl hb1 H2.out hn0 hnH hbH (by omega) (by omega) (by omega) (by omega) J Jx H3.out H4.out b.length 0 (by omega) [] (List.replicate b.length 0) v4 hst (H3.out _ _ _ none h0 (grown_of_below k14) (fun r e => by cases e))
  rw [show ((0 : Nat) : Int) = 0 from rfl] at hf
  refine hf.mono ?_
  clear hf hst y1 y2 y3 y4 k1 k2 k3 k4 k14 s1 s2 s3 hcb h0
  rintro e w2 (⟨rfl, ys2, cur3, p1, p2, p3, p4⟩ | ⟨rfl, ys2, p1, p2⟩)
  · have P1 := Lib.hid p1
    clear p1 p4 p3
    go_wp2
    go_end0
    exact ⟨⟨_, rfl⟩, .inl ⟨ys2, by rw [P1.out]; simp, by simpa using p2⟩⟩
  · have P1 := Lib.hid p1
    clear p1
    go_wp2
    go_end0
    exact ⟨⟨_, rfl⟩, .inr ⟨ys2, by have := P1.out; simpa using this, by simpa using p2⟩⟩

theorem members_seq (N : Nat) (hN : 1 ≤ N) (w0 : World) (n₀ Bb : Nat) (bv : Value) (b : List (Int × Int)) (hbd : ∀ x ∈ b, -1000 ≤ x.1 ∧ x.1 ≤ 1000 ∧ -1000 ≤ x.2 ∧ x.2 ≤ 1000) (hbl : b.length ≤ 1000000) (hb1 : 0 < b.length) (hbv : Pairs w0 bv b)
    (hn0 : w0.heap.size ≤ n₀) (w : World) (H : Nat) (hH : H = w.heap.size) (hbH : Bb < w.heap.size) (hnH : n₀ ≤ w.heap.size) (hW : Below n₀ w0 w) (hcb : w.cell? ⟨Bb, 0, none⟩ = some bv) :
    SeqX Fence.wide N Tryz.prog 105 #[.pointer (some ⟨Bb, 0, none⟩)] (fun x : Value × List Int => #[x.1]) (fun _ x W => OwnI 3 n₀ W x.1 x.2 ∧ x.2.length = b.length) (KMem n₀ Bb H) (fun xs => xs.map Prod.snd = membersW b) (fun pre => pre.map Prod.snd <+: membersW b) true w :=
  fun l J Jx W hWW hJ _ hY h00 => by
    have hsz := hWW.size
    refine (callsIn_wide (n := N)).2 ((members1_any w0 n₀ Bb l N hN bv b hbd hbl hb1 hbv hn0 J Jx W (by omega) (by omega) (hW.trans (hWW.mono hnH)) (cellb hcb hWW) (fun pre A B row h hg hr => hJ pre A B row h hg (fun r e => ⟨rfl, hr r e⟩)) (fun pre x V h1 h2 => ?_) h00).mono fun _ _ ⟨hv, h⟩ => ⟨hv, h⟩)
    obtain ⟨fn, tmps, assign, body, hy, hR⟩ := hY pre x V h1 h2
    refine ⟨fn, tmps, assign, body, hy, hR.mono ?_⟩
    rintro e W' (⟨h1, h2, h3, h4, h5⟩ | h)
    · exact .inl ⟨h1, h2, h3, h4, fun k c T hk hc => h5 k c T (by omega) hc⟩
    · exact .inr h
end

section
open Go.RowKit Go.Shelf

attribute [local go_sem] Oper.semAt_some

def box1E (a b c d : List Int) (bx : List (Int × Int)) : Int := firstE [checkLoopE a b c d, whenE ((bx.length : Int) != (a.length : Int)) 2, intervalsE bx]
def lastP (bx : List (Int × Int)) : Int × Int := bx[bx.length - 1]?.getD (0, 0)
def box2E (bx : List (Int × Int)) : Int := firstE [whenE (decide ((lastP bx).1 ≤ 0 ∧ 0 ≤ (lastP bx).2)) 6, whenE (decide (256 < manyW bx bx.length)) 5]
def checkBoxE (a b c d : List Int) (bx : List (Int × Int)) : Int :=
  if box1E a b c d bx ≠ 0 then box1E a b c d bx else if box2E bx ≠ 0 then box2E bx else if (membersW bx).any (fun p => (closedW p b c d).any largeB) then 4 else 0

theorem whenE_ok {c : Bool} {e : Int} (h : whenE c e = 0) (he : e ≠ 0) : c = false := by
  cases c
  · rfl
  · exact absurd h he
theorem firstE_map_ok {α : Type} {g : α → Int} {l : List α} (h : firstE (l.map g) = 0) : ∀ x ∈ l, g x = 0 := by
  induction l with
  | nil => intro x hx; simp at hx
  | cons y l ih =>
    obtain ⟨h1, h2⟩ := firstE_cons_ok h
    intro x hx
    rcases List.mem_cons.1 hx with rfl | hx
    · exact h1
    · exact ih h2 x hx
theorem intervalsE_ok {bx : List (Int × Int)} (h : intervalsE bx = 0) : ∀ x ∈ bx, -100 ≤ x.1 ∧ x.1 ≤ 100 ∧ -100 ≤ x.2 ∧ x.2 ≤ 100 ∧ x.1 ≤ x.2 := fun x hx => by
  have h := firstE_map_ok h x hx
  obtain ⟨h1, h⟩ := firstE_cons_ok h
  obtain ⟨h2, h⟩ := firstE_cons_ok h
  obtain ⟨h3, h⟩ := firstE_cons_ok h
  have h1 := withinE_ok h1
  have h2 := withinE_ok h2
  have h3 := whenE_ok h3 (by decide)
  simp at h3
  omega
theorem checkLoopE_len {a b c d : List Int} (h : checkLoopE a b c d = 0) : (1 ≤ a.length ∧ a.length ≤ 5) ∧ (1 ≤ b.length ∧ b.length ≤ 5) ∧ (1 ≤ c.length ∧ c.length ≤ 5) ∧ (1 ≤ d.length ∧ d.length ≤ 5) := by
  obtain ⟨h1, h2, h3, h4⟩ := checkLoopE_ok h
  exact ⟨checkPolyE_ok h1, checkPolyE_ok h2, checkPolyE_ok h3, checkPolyE_ok h4⟩
theorem box1E_ok {a b c d : List Int} {bx : List (Int × Int)} (h : box1E a b c d bx = 0) : checkLoopE a b c d = 0 ∧ bx.length = a.length ∧ intervalsE bx = 0 := by
  obtain ⟨h1, h⟩ := firstE_cons_ok h
  obtain ⟨h2, h⟩ := firstE_cons_ok h
  obtain ⟨h3, _⟩ := firstE_cons_ok h
  have h2 := whenE_ok h2 (by decide)
  exact ⟨h1, by rw [bne_eq_false_iff_eq] at h2; omega, h3⟩

set_option maxRecDepth 100000 in
set_option maxHeartbeats 4000000 in
theorem CheckBox_any (va vb vc vd vx : Value) (a b c d : List Int) (bx : List (Int × Int)) (w : World) (ha : Ints w va a) (hb : Ints w vb b) (hc : Ints w vc c) (hd : Ints w vd d) (hx : Pairs w vx bx)
    (ha2 : a.length ≤ 100000) (hb2 : b.length ≤ 100000) (hc2 : c.length ≤ 100000) (hd2 : d.length ≤ 100000) (hx2 : bx.length ≤ 100000) :
    Calls Tryz.prog 64 #[.agg #[va, vb, vc, vd], vx] w fun e w' => e = .returned (.int .i64 (checkBoxE a b c d bx)) ∧ Below w.heap.size w w' := by
  obtain ⟨xa, ca, rfl, _⟩ := id ha
  obtain ⟨xb, cb, rfl, _⟩ := id hb
  obtain ⟨xc, cc, rfl, _⟩ := id hc
  obtain ⟨xd, cd, rfl, _⟩ := id hd
  obtain ⟨xx, cx, rfl, _⟩ := id hx
  refine calls_of_postR Tryz.func64 rfl ?_
  simp only [Tryz.ntmps64, List.size_toArray, List.length_cons, List.length_nil, Nat.reduceAdd, Nat.reduceSub, Array.replicate_succ, Array.replicate_zero, List.push_toArray, List.append_toArray, List.nil_append, List.cons_append]
  go_wp2_with fail
  obtain ⟨w1, hw1⟩ : ∃ v, v = w.alloc (Obj.cells #[.slice xa a.length ca, .slice xb b.length cb, .slice xc c.length cc, .slice xd d.length cd] 32) := ⟨_, rfl⟩
  have b1 : Below w.heap.size w w1 := by rw [hw1]; exact below_new _ _
  have s1 : w1.heap.size = w.heap.size + 1 := by rw [hw1]; simp
  have z1 : Blk w1 w.heap.size 32 [.slice xa a.length ca, .slice xb b.length cb, .slice xc c.length cc, .slice xd d.length cd] := by rw [hw1]; exact Blk.new _ _ _
  rw [← hw1]
  obtain ⟨W, hW⟩ : ∃ v, v = w1.alloc (Obj.cells #[Value.int IntKind.i64 0] 27) := ⟨_, rfl⟩
  have b2 : Below w1.heap.size w1 W := by rw [hW]; exact below_new _ _
  have y2 : Blk W (w.heap.size + 1) 27 [.int .i64 0] := by rw [hW, ← s1]; exact Blk.new _ _ _
  rw [← hW]
  have hbW := bthen b1 b2
  have z4 := z1.carry b2
  have h4 : Four W w.heap.size (.slice xa a.length ca) (.slice xb b.length cb) (.slice xc c.length cc) (.slice xd d.length cd) := ⟨z4.cell rfl, z4.cell rfl, z4.cell rfl, z4.cell rfl⟩
  have HZ := Lib.hid z4
  clear hW hw1 b1 b2 z1 z4 s1
  have hF := Lib.hid h4
  have hszW : w.heap.size + 1 < W.heap.size := y2.lt
  have HY := Lib.hid y2
  clear y2
  obtain ⟨k0, k1, k2, k3⟩ := h4
  have t1 := CheckLoop_any _ _ _ _ a b c d W.drew (ha.below hbW).drew (hb.below hbW).drew (hc.below hbW).drew (hd.below hbW).drew ha2 hb2 hc2 hd2
  have T1 := Lib.hid t1
  clear t1
  refine wp_region_held_drew (S := (fun w' => w'.cell? ⟨w.heap.size, 0, none⟩ = some (.slice xa a.length ca) ∧ w'.cell? ⟨w.heap.size, 1, none⟩ = some (.slice xb b.length cb) ∧ w'.cell? ⟨w.heap.size, 2, none⟩ = some (.slice xc c.length cc) ∧ w'.cell? ⟨w.heap.size, 3, none⟩ = some (.slice xd d.length cd))) (by kernel_rfl) ?_ (fun hHeld0 => ?_)
  · (try dsimp only); (first | go_keep | exact Four.below hF.out h2 | exact Four.below hF.out h3)
  refine wpAnyH_take (i := 0) (oi := { dst := some 9, op := Op.load 32 (Operand.tmp 2), type := 32, pos := "loop.go:377", after := #[], guard := none }) (v := ?_) rfl (by kernel_rfl) (by kernel_rfl) (by kernel_rfl) (fun _ _ _ h => h) (Or.inl ⟨by rfl, ?_⟩) (by assumption) ?_
  rotate_left
  · (intro w hSw; (try dsimp only at hSw); go_simp); (try with_reducible rfl)
  try simp only [Act.put, List.setIfInBounds_toArray, List.set_cons_zero, List.set_cons_succ]
  refine wpAnyH_take (i := 2) (oi := { dst := some 11, op := Op.move (Operand.tmp 1), type := 72, pos := "loop.go:377", after := #[], guard := none }) (v := ?_) rfl (by kernel_rfl) (by kernel_rfl) (by kernel_rfl) (fun _ _ _ h => h) (Or.inl ⟨by rfl, ?_⟩) (by assumption) ?_
  rotate_left
  · (intro w hSw; (try dsimp only at hSw); go_simp); (try with_reducible rfl)
  try simp only [Act.put, List.setIfInBounds_toArray, List.set_cons_zero, List.set_cons_succ]
  refine wpAnyH_take (i := 3) (oi := { dst := some 12, op := Op.call { callee := Callee.builtin Builtin.len, args := #[Operand.tmp 11], argTypes := #[72] }, type := 3, pos := "loop.go:377", after := #[{ on := 2, ground := Ground.data }], guard := none }) (v := ?_) rfl (by kernel_rfl) (by kernel_rfl) (by kernel_rfl) (fun _ _ _ h => h) (Or.inl ⟨by rfl, ?_⟩) (by assumption) ?_
  rotate_left
  · (intro w hSw; (try dsimp only at hSw); go_simp); (try with_reducible rfl)
  try simp only [Act.put, List.setIfInBounds_toArray, List.set_cons_zero, List.set_cons_succ]
  refine wpAnyH_take (i := 4) (oi := { dst := some 13, op := Op.fieldAddr 32 (Operand.tmp 2) 0, type := 0, pos := "loop.go:377", after := #[], guard := none }) (v := ?_) rfl (by kernel_rfl) (by kernel_rfl) (by kernel_rfl) (fun _ _ _ h => h) (Or.inl ⟨by rfl, ?_⟩) (by assumption) ?_
  rotate_left
  · (intro w hSw; (try dsimp only at hSw); go_simp); (try with_reducible rfl)
  try simp only [Act.put, List.setIfInBounds_toArray, List.set_cons_zero, List.set_cons_succ]
  refine wpAnyH_take (i := 5) (oi := { dst := some 14, op := Op.load 30 (Operand.tmp 13), type := 30, pos := "loop.go:377", after := #[{ on := 4, ground := Ground.data }], guard := none }) (v := ?_) rfl (by kernel_rfl) (by kernel_rfl) (by kernel_rfl) (fun _ _ _ h => h) (Or.inl ⟨by rfl, ?_⟩) (by assumption) ?_
  rotate_left
  · (intro w hSw; (try dsimp only at hSw); go_simp); (try with_reducible rfl)
  try simp only [Act.put, List.setIfInBounds_toArray, List.set_cons_zero, List.set_cons_succ]
  refine wpAnyH_take (i := 6) (oi := { dst := some 15, op := Op.call { callee := Callee.builtin Builtin.len, args := #[Operand.tmp 14], argTypes := #[30] }, type := 3, pos := "loop.go:377", after := #[{ on := 5, ground := Ground.data }], guard := none }) (v := ?_) rfl (by kernel_rfl) (by kernel_rfl) (by kernel_rfl) (fun _ _ _ h => h) (Or.inl ⟨by rfl, ?_⟩) (by assumption) ?_
  rotate_left
  · (intro w hSw; (try dsimp only at hSw); go_simp); (try with_reducible rfl)
  try simp only [Act.put, List.setIfInBounds_toArray, List.set_cons_zero, List.set_cons_succ]
  refine wpAnyH_take (i := 7) (oi := { dst := some 16, op := Op.binOp BinOp.neq 3 (Operand.tmp 12) (Operand.tmp 15) 3, type := 4, pos := "loop.go:377", after := #[{ on := 3, ground := Ground.data }, { on := 6, ground := Ground.data }], guard := none }) (v := ?_) rfl (by kernel_rfl) (by kernel_rfl) (by kernel_rfl) (fun _ _ _ h => h) (Or.inl ⟨by rfl, ?_⟩) (by assumption) ?_
  rotate_left
  · (intro w hSw; (try dsimp only at hSw); go_simp); (try with_reducible rfl)
  try simp only [Act.put, List.setIfInBounds_toArray, List.set_cons_zero, List.set_cons_succ]
  refine wpAnyH_take (i := 9) (oi := { dst := some 18, op := Op.move (Operand.tmp 1), type := 72, pos := "loop.go:377", after := #[], guard := none }) (v := ?_) rfl (by kernel_rfl) (by kernel_rfl) (by kernel_rfl) (fun _ _ _ h => h) (Or.inl ⟨by rfl, ?_⟩) (by assumption) ?_
  rotate_left
  · (intro w hSw; (try dsimp only at hSw); go_simp); (try with_reducible rfl)
  try simp only [Act.put, List.setIfInBounds_toArray, List.set_cons_zero, List.set_cons_succ]
  refine wpAnyH_ready (rs := [1]) (by kernel_rfl) (by simp) ?_
  refine (AllReadyH.cons (o := { dst := some 10, op := Op.call { callee := Callee.value (Operand.func 34), args := #[Operand.tmp 9], argTypes := #[32] }, type := 27, pos := "loop.go:377", after := #[{ on := 0, ground := Ground.data }], guard := none }) rfl (fun K hK => ?_) AllReadyH.nil)
  go_simp
  (first | (go_at_call 34; (with_reducible refine T1.out.mono ?_); rintro e w2 ⟨rfl, h2'⟩; have h2 := below_drew h2'; clear h2') | (go_at_call 46; (with_reducible refine (when_any _ _ _).mono ?_); rintro e w' ⟨rfl, rfl⟩) | (go_at_call 103; (with_reducible refine (checkIntervals_any _ bx _ (hx.carry (bthen hbW h2)) (by omega)).mono ?_); rintro e w3 ⟨rfl, h3'⟩; have h3 := bthen h2 h3'; clear h3') | (go_at_call 45; (with_reducible refine (first3 _ _ _ _ _).mono ?_); rintro e w' ⟨rfl, rfl⟩))
  (try go_wp2_with fail)
  refine hK.out _ _ ?_ (fun hHeld1 => ?_)
  · (try dsimp only); (first | go_keep | exact Four.below hF.out h2 | exact Four.below hF.out h3)
  clear hK K hHeld0
  try simp only [Act.put, List.setIfInBounds_toArray, List.set_cons_zero, List.set_cons_succ]
  refine wpAnyH_ready (rs := [8]) (by kernel_rfl) (by simp) ?_
  refine (AllReadyH.cons (o := { dst := some 17, op := Op.call { callee := Callee.value (Operand.func 46), args := #[Operand.tmp 16, Operand.const (Value.int IntKind.i64 2)], argTypes := #[4, 27] }, type := 27, pos := "loop.go:377", after := #[{ on := 7, ground := Ground.data }, { on := 1, ground := Ground.chain }], guard := none }) rfl (fun K hK => ?_) AllReadyH.nil)
  go_simp
  (first | (go_at_call 34; (with_reducible refine T1.out.mono ?_); rintro e w2 ⟨rfl, h2'⟩; have h2 := below_drew h2'; clear h2') | (go_at_call 46; (with_reducible refine (when_any _ _ _).mono ?_); rintro e w' ⟨rfl, rfl⟩) | (go_at_call 103; (with_reducible refine (checkIntervals_any _ bx _ (hx.carry (bthen hbW h2)) (by omega)).mono ?_); rintro e w3 ⟨rfl, h3'⟩; have h3 := bthen h2 h3'; clear h3') | (go_at_call 45; (with_reducible refine (first3 _ _ _ _ _).mono ?_); rintro e w' ⟨rfl, rfl⟩))
  (try go_wp2_with fail)
  refine hK.out _ _ ?_ (fun hHeld2 => ?_)
  · (try dsimp only); (first | go_keep | exact Four.below hF.out h2 | exact Four.below hF.out h3)
  clear hK K hHeld1
  try simp only [Act.put, List.setIfInBounds_toArray, List.set_cons_zero, List.set_cons_succ]
  refine wpAnyH_ready (rs := [10]) (by kernel_rfl) (by simp) ?_
  refine (AllReadyH.cons (o := { dst := some 19, op := Op.call { callee := Callee.value (Operand.func 103), args := #[Operand.tmp 18], argTypes := #[72] }, type := 27, pos := "loop.go:377", after := #[{ on := 9, ground := Ground.data }, { on := 8, ground := Ground.chain }], guard := none }) rfl (fun K hK => ?_) AllReadyH.nil)
  go_simp
  (first | (go_at_call 34; (with_reducible refine T1.out.mono ?_); rintro e w2 ⟨rfl, h2'⟩; have h2 := below_drew h2'; clear h2') | (go_at_call 46; (with_reducible refine (when_any _ _ _).mono ?_); rintro e w' ⟨rfl, rfl⟩) | (go_at_call 103; (with_reducible refine (checkIntervals_any _ bx _ (hx.carry (bthen hbW h2)) (by omega)).mono ?_); rintro e w3 ⟨rfl, h3'⟩; have h3 := bthen h2 h3'; clear h3') | (go_at_call 45; (with_reducible refine (first3 _ _ _ _ _).mono ?_); rintro e w' ⟨rfl, rfl⟩))
  (try go_wp2_with fail)
  refine hK.out _ _ ?_ (fun hHeld3 => ?_)
  · (try dsimp only); (first | go_keep | exact Four.below hF.out h2 | exact Four.below hF.out h3)
  clear hK K hHeld2
  try simp only [Act.put, List.setIfInBounds_toArray, List.set_cons_zero, List.set_cons_succ]
  refine wpAnyH_ready (rs := [11]) (by kernel_rfl) (by simp) ?_
  refine (AllReadyH.cons (o := { dst := some 20, op := Op.buildSlice 155 3 #[(0, Operand.tmp 10), (1, Operand.tmp 17), (2, Operand.tmp 19)], type := 155, pos := "loop.go:377", after := #[{ on := 1, ground := Ground.data }, { on := 8, ground := Ground.data }, { on := 10, ground := Ground.data }], guard := none }) rfl (fun K hK => ?_) AllReadyH.nil)
  go_simp
  refine hK.out _ _ ?_ (fun hHeld4 => ?_)
  · (try dsimp only); (first | go_keep | exact Four.below hF.out h2 | exact Four.below hF.out h3)
  clear hK K hHeld3
  try simp only [Act.put, List.setIfInBounds_toArray, List.set_cons_zero, List.set_cons_succ]
  refine wpAnyH_ready (rs := [12]) (by kernel_rfl) (by simp) ?_
  refine (AllReadyH.cons (o := { dst := some 21, op := Op.call { callee := Callee.value (Operand.func 45), args := #[Operand.tmp 20], argTypes := #[155] }, type := 27, pos := "loop.go:377", after := #[{ on := 11, ground := Ground.data }, { on := 10, ground := Ground.chain }], guard := none }) rfl (fun K hK => ?_) AllReadyH.nil)
  go_simp
  (first | (go_at_call 34; (with_reducible refine T1.out.mono ?_); rintro e w2 ⟨rfl, h2'⟩; have h2 := below_drew h2'; clear h2') | (go_at_call 46; (with_reducible refine (when_any _ _ _).mono ?_); rintro e w' ⟨rfl, rfl⟩) | (go_at_call 103; (with_reducible refine (checkIntervals_any _ bx _ (hx.carry (bthen hbW h2)) (by omega)).mono ?_); rintro e w3 ⟨rfl, h3'⟩; have h3 := bthen h2 h3'; clear h3') | (go_at_call 45; (with_reducible refine (first3 _ _ _ _ _).mono ?_); rintro e w' ⟨rfl, rfl⟩))
  (try go_wp2_with fail)
  refine hK.out _ _ ?_ (fun hHeld5 => ?_)
  · (try dsimp only); (first | go_keep | exact Four.below hF.out h2 | exact Four.below hF.out h3)
  clear hK K hHeld4
  try simp only [Act.put, List.setIfInBounds_toArray, List.set_cons_zero, List.set_cons_succ]
  refine wpAnyH_take (i := 13) (oi := { dst := some 5, op := Op.assign (Operand.tmp 21), type := 27, pos := "loop.go:377", after := #[{ on := 12, ground := Ground.data }, { on := 12, ground := Ground.chain }, { on := 0, ground := Ground.phase }, { on := 1, ground := Ground.phase }, { on := 2, ground := Ground.phase }, { on := 3, ground := Ground.phase }, { on := 4, ground := Ground.phase }, { on := 5, ground := Ground.phase }, { on := 6, ground := Ground.phase }, { on := 7, ground := Ground.phase }, { on := 8, ground := Ground.phase }, { on := 9, ground := Ground.phase }, { on := 10, ground := Ground.phase }, { on := 11, ground := Ground.phase }, { on := 12, ground := Ground.phase }], guard := none }) (v := ?_) rfl (by kernel_rfl) (by kernel_rfl) (by kernel_rfl) (fun _ _ _ h => h) (Or.inl ⟨by rfl, ?_⟩) (by assumption) ?_
  rotate_left
  · (intro w hSw; (try dsimp only at hSw); go_simp); (try with_reducible rfl)
  try simp only [Act.put, List.setIfInBounds_toArray, List.set_cons_zero, List.set_cons_succ]
  refine wpAnyH_done (by kernel_rfl) ?_ _
  clear hHeld5
  have hV := bthen hbW (bthen h3 (below_new w3 (.cells #[.int .i64 (checkLoopE a b c d), .int .i64 (whenE ((bx.length : Int) != (a.length : Int)) 2), .int .i64 (intervalsE bx)] 27)))
  have h4 := HZ.out.carry (bthen h3 (below_new w3 (.cells #[.int .i64 (checkLoopE a b c d), .int .i64 (whenE ((bx.length : Int) != (a.length : Int)) 2), .int .i64 (intervalsE bx)] 27)))
  have hy := HY.out.carry (bthen h3 (below_new w3 (.cells #[.int .i64 (checkLoopE a b c d), .int .i64 (whenE ((bx.length : Int) != (a.length : Int)) 2), .int .i64 (intervalsE bx)] 27)))
  generalize w3.alloc _ = V at hV h4 hy ⊢
  have hE : firstE [checkLoopE a b c d, whenE ((bx.length : Int) != (a.length : Int)) 2, intervalsE bx] = box1E a b c d bx := rfl
  rw [hE]
  clear hE T1 k0 k1 k2 k3 h2 h3 HY hF hbW hszW
  by_cases he : box1E a b c d bx = 0
  · obtain ⟨e1, e2, e3⟩ := box1E_ok he
    replace e3 := intervalsE_ok e3
    obtain ⟨⟨a1, a5⟩, ⟨bb1, b5⟩, ⟨c1, c5⟩, ⟨d1, d5⟩⟩ := checkLoopE_len e1
    rw [he]
    have HE := Lib.hid he
    have HI := Lib.hid e3
    have HL := Lib.hid e2
    clear e1 e2 e3 he
    have hxl : 0 < bx.length := by rw [HL.out]; omega
    have hxi : Pairs V (.slice xx bx.length cx) bx := hx.carry hV
    obtain ⟨xb', xo, _, hxe, hxc⟩ := hxi.head hxl
    cases hxe
    obtain ⟨⟨lo, up⟩, hlast⟩ : ∃ x, bx[bx.length - 1]? = some x := ⟨_, List.getElem?_eq_getElem (by omega)⟩
    obtain ⟨x0, x1⟩ := hxc _ _ hlast
    have hlp : lastP bx = (lo, up) := by rw [lastP, hlast]; rfl
    have HLP := Lib.hid hlp
    clear hxc hlast hlp
    have g1 : IntKind.i64.wrap ((bx.length : Int) - 1) = (bx.length : Int) - 1 := IntWalk.i64_in _ (by omega)
    have g2 : (1 : Int) ≤ (bx.length : Int) := by omega
    have g3 : ((bx.length : Int) - 1).toNat = bx.length - 1 := by omega
    have hm := fun (w1 : World) (h1 : Below V.heap.size V w1) => many_any _ bx w1 (hxi.carry h1) (by omega)
    have HM := Lib.hid hm
    clear hm
    go_upto_region 5 with fail
    have hb5 := below_new V (.cells #[.int .i64 lo, .int .i64 up] 70)
    have hx5 := Box2.new V 70 (.int .i64 lo) (.int .i64 up)
    obtain ⟨V5, hV5⟩ : ∃ v, v = V.alloc (.cells #[.int .i64 lo, .int .i64 up] 70) := ⟨_, rfl⟩
    rw [← hV5] at hb5 hx5 ⊢
    clear hV5 x0 x1
    obtain ⟨x0, x1, _, _⟩ := hx5
    go_cut [7] from 31 to 45 (fun v7 wx => v7 = .int .i64 (box2E bx) ∧ Below V.heap.size V wx)
    case first =>
      by_cases h1 : lo ≤ 0
      · by_cases h2 : 0 ≤ up
        · go_wp2_with fail
          refine (when_any _ _ _).mono ?_
          rintro e w' ⟨rfl, rfl⟩
          go_wp2_with fail
          refine (HM.out _ hb5).mono ?_
          rintro e w6 ⟨rfl, hb6'⟩
          have hb6 := bthen hb5 hb6'
          go_wp2_with fail
          refine (when_any _ _ _).mono ?_
          rintro e w' ⟨rfl, rfl⟩
          go_wp2_with fail
          refine (first2 _ _ _ _).mono ?_
          rintro e w' ⟨rfl, rfl⟩
          go_wp2_with fail
          go_meet
          exact ⟨by rw [box2E, HLP.out, decide_eq_true (And.intro h1 h2)], bthen hb6 (below_new _ _)⟩
        · have h2' : decide (0 ≤ up) = false := by simpa using h2
          go_wp2_with fail
          refine (when_any _ _ _).mono ?_
          rintro e w' ⟨rfl, rfl⟩
          go_wp2_with fail
          refine (HM.out _ hb5).mono ?_
          rintro e w6 ⟨rfl, hb6'⟩
          have hb6 := bthen hb5 hb6'
          go_wp2_with fail
          refine (when_any _ _ _).mono ?_
          rintro e w' ⟨rfl, rfl⟩
          go_wp2_with fail
          refine (first2 _ _ _ _).mono ?_
          rintro e w' ⟨rfl, rfl⟩
          go_wp2_with fail
          go_meet
          exact ⟨by rw [box2E, HLP.out, decide_eq_false (show ¬ (lo ≤ 0 ∧ 0 ≤ up) from by omega)], bthen hb6 (below_new _ _)⟩
      · have h1' : decide (lo ≤ 0) = false := by simpa using h1
        go_wp2_with fail
        refine (when_any _ _ _).mono ?_
        rintro e w' ⟨rfl, rfl⟩
        go_wp2_with fail
        refine (HM.out _ hb5).mono ?_
        rintro e w6 ⟨rfl, hb6'⟩
        have hb6 := bthen hb5 hb6'
        go_wp2_with fail
        refine (when_any _ _ _).mono ?_
        rintro e w' ⟨rfl, rfl⟩
        go_wp2_with fail
        refine (first2 _ _ _ _).mono ?_
        rintro e w' ⟨rfl, rfl⟩
        go_wp2_with fail
        go_meet
        exact ⟨by rw [box2E, HLP.out, decide_eq_false (show ¬ (lo ≤ 0 ∧ 0 ≤ up) from by omega)], bthen hb6 (below_new _ _)⟩
    case rest =>
      obtain ⟨rfl, hb6⟩ := hcut
      have h4 := h4.carry hb6
      have hy := hy.carry hb6
      have hV := bthen hV hb6
      obtain ⟨V6, rfl⟩ : ∃ v, v = wc := ⟨_, rfl⟩
      clear x0 x1 hb5 HM HLP hb6 hxi
      have e0 := hy.cell (j := 0) rfl
      have f0 := hy.frozen 0
      by_cases he2 : box2E bx = 0
      · rw [he2]
        have HE2 := Lib.hid he2
        clear he2
        clear e0 f0
        go_wp2_with fail
        refine (members_any _ _ _ _).mono ?_
        rintro e w' ⟨rfl, rfl⟩
        have hcb := cell_new V6 #[.slice (some ⟨xb', xo, none⟩) bx.length cx] 72 0
        have hB6 := below_new V6 (.cells #[.slice (some ⟨xb', xo, none⟩) bx.length cx] 72)
        obtain ⟨Wr, hWr⟩ : ∃ v, v = V6.alloc (.cells #[.slice (some ⟨xb', xo, none⟩) bx.length cx] 72) := ⟨_, rfl⟩
        have hsW : Wr.heap.size = V6.heap.size + 1 := by rw [hWr]; simp
        rw [← hWr] at hcb hB6 ⊢
        clear hWr
        have h4 := h4.carry hB6
        have hy := hy.carry hB6
        have hs4 := h4.lt
        have hsy := hy.lt
        have hV0 := hV
        have hV := bthen hV hB6
        have hsV := hV.size
        have hwV : w.heap.size ≤ V6.heap.size := hV0.size
        go_wp2_with fail
        refine wp_rangeS (s := 8) (gf := 105) (lb := #[.pointer (some ⟨V6.heap.size, 0, none⟩)]) rfl (enters_of Tryz.func105 (by kernel_rfl) rfl)
          (members_seq 4 (by omega) w w.heap.size V6.heap.size (.slice (some ⟨xb', xo, none⟩) bx.length cx) bx (fun x hx => by have := HI.out x hx; omega) (by omega) hxl hx (Nat.le_refl _) Wr Wr.heap.size rfl (by omega) (by omega) hV hcb)
          KMem.trans (fun W l o o' hl h h1 _ => KMem.turn W l o o' (by omega) (by omega) h h1) (KMem.refl _ _ _) (Below.refl _ _)
          (fun pre W => (Blk W w.heap.size 32 [.slice xa a.length ca, .slice xb b.length cb, .slice xc c.length cc, .slice xd d.length cd] ∧ Blk W (w.heap.size + 1) 27 [.int .i64 0]) ∧ (∀ x ∈ pre, (closedW x.2 b c d).any largeB = false) ∧ Below w.heap.size Wr W)
          (fun co pre W => (co = .ret ∧ ∃ x ∈ pre, (closedW x.2 b c d).any largeB = true) ∧ Blk W (w.heap.size + 1) 27 [.int .i64 4] ∧ Below w.heap.size w W)
          (StableFrom.and (StableFrom.and (Blk.stable (by omega) _ (fun _ => [_, _, _, _])) (Blk.stable (by omega) _ (fun _ => [_]))) (StableFrom.and (StableFrom.pure _ (fun pre : List (Value × List Int) => ∀ x ∈ pre, (closedW x.2 b c d).any largeB = false)) (StableFrom.below (by omega) (by omega))))
          (fun co => StableFrom.own (StableFrom.and (StableFrom.pure _ (fun pre : List (Value × List Int) => co = .ret ∧ ∃ x ∈ pre, (closedW x.2 b c d).any largeB = true)) (StableFrom.and (Blk.stable (by omega) _ (fun _ => [_])) (StableFrom.below (by omega) (Nat.le_refl _)))))
          ⟨⟨h4, hy⟩, fun x hx => by simp at hx, Below.refl _ _⟩ (fun pre _ A B row hs hg hr => ⟨hs.1.kint (kint_of_grown hg (fun r e => (hr r e).2)), hs.2⟩) ?assign ?body ?done ?stop
        case assign =>
          intro l v W K hK
          gi_wp2
          exact hK
        case body =>
          rintro l pre ⟨xv, xl⟩ W ⟨⟨z, y⟩, hall, hBr⟩ ⟨hx, hxn⟩
          have hB := hV.trans hBr
          have hsr := hBr.size
          simp only [List.setIfInBounds_toArray, List.set_cons_succ, List.set_cons_zero]
          have hwf : ∀ f, (Fence.wide.inRound l).fn f := fun _ => trivial
          have q0 := z.cell (j := 0) rfl
          have q1 := z.cell (j := 1) rfl
          have q2 := z.cell (j := 2) rfl
          have q3 := z.cell (j := 3) rfl
          have hcx := Lib.hid (closedW_length xl b c d)
          simp only at hxn
          have HW := Lib.hid (with_any _ _ _ _ _ xl a b c d W hx.ints (ha.carry hB) (hb.carry hB) (hc.carry hB) (hd.carry hB))
          obtain ⟨xa', xc', hxv, _⟩ := hx.ints
          simp only at hxv
          subst hxv
          have hxl1 : 1 ≤ xl.length := by omega
          have hxl2 : xl.length ≤ 100000 := by omega
          clear hxn
          gi_wp2_with fail
          refine (((callsIn_wide (n := 2)).2 HW.out).inRound l).mono ?_
          rintro e w7 ⟨rfl, hb7⟩
          gi_wp2_with fail
          refine (((callsIn_wide (n := 2)).2 (closed_any _ _ _ _ xl b c d w7 (hx.carry hb7).ints (hb.carry (bthen hB hb7)) (hc.carry (bthen hB hb7)) (hd.carry (bthen hB hb7)) hxl1 bb1 c1 d1 hxl2 (by omega) (by omega) (by omega))).inRound l).mono ?_
          rintro e w8 ⟨⟨u, rfl, hu⟩, hb8⟩
          have hb78 := bthen hb7 hb8
          have HG := Lib.hid (isLarge_any u (closedW xl b c d) w8 (by have := hcx.out; omega) hu)
          by_cases hg : (closedW xl b c d).any largeB = true
          · rw [hg] at HG
            have y8 := y.carry hb78
            have e0 := y8.cell (j := 0) rfl
            have f0 := y8.frozen 0
            clear q0 q1 q2 q3
            gi_wp2_with fail
            refine (((callsIn_wide (n := 2)).2 HG.out).inRound l).mono ?_
            rintro e w9 ⟨rfl, rfl⟩
            gi_wp2
            exact ⟨((keeps_of_below hb78).trans (KeepsOthers.setCell _ _ _)).from _, ⟨rfl, _, List.mem_append_right _ (List.mem_singleton.2 rfl), hg⟩, y8.set 0 _, (bthen hB hb78).setCell (by simp) _⟩
          · have hg' : (closedW xl b c d).any largeB = false := by simpa using hg
            rw [hg'] at HG
            clear q0 q1 q2 q3 hg
            gi_wp2_with fail
            refine (((callsIn_wide (n := 2)).2 HG.out).inRound l).mono ?_
            rintro e w9 ⟨rfl, rfl⟩
            gi_wp2
            refine ⟨(keeps_of_below hb78).from _, KMem.below hb78 hB.size (by omega), ⟨z.carry hb78, y.carry hb78⟩, ?_, hBr.trans (hb78.mono (by omega))⟩
            intro x hx
            rcases List.mem_append.1 hx with hx | hx
            · exact hall x hx
            · obtain rfl := List.mem_singleton.1 hx
              exact hg'
        case done =>
          rintro D ys W hD hS ⟨⟨z, y⟩, hall, hBr⟩ hK
          have hB := hV.trans hBr
          have e0 := y.cell (j := 0) rfl
          have f0 := y.frozen 0
          have hany : (membersW bx).any (fun p => (closedW p b c d).any largeB) = false := by
            rw [← hS, List.any_eq_false]
            intro p hp
            obtain ⟨x, hx, rfl⟩ := List.mem_map.1 hp
            rw [hall x hx]; simp
          have hE0 : checkBoxE a b c d bx = 0 := by rw [checkBoxE, if_neg (by rw [HE.out]; simp), if_neg (by rw [HE2.out]; simp), hany]; rfl
          have HE0 := Lib.hid hE0
          clear hE0 hany hS
          go_wp2
          have hK' := (KeepsOthers.setCell W ⟨w.heap.size + 1, 0, none⟩ (.int .i64 0)).same D _ hK rfl
          have hr := (Blk.kept (y.set 0 (.int .i64 0)) (grownBy_putObj' _ D (.deferred none)) (by simp; omega)).cell (j := 0) rfl
          refine postR_mark (v := .int .i64 0) hK' rfl ?_ ⟨by rw [HE0.out], (hB.setCell (by simp) _).trans (belowK_b (w := w) (Nat.le_refl _) _ D _ _ (by omega) hK' rfl rfl)⟩
          simp [results, Tryz.f64, go_sem, hr]
        case stop =>
          rintro D co pre W hD hSp ⟨⟨rfl, x, hx, hlx⟩, y, hB⟩ hK
          have hany : (membersW bx).any (fun p => (closedW p b c d).any largeB) = true := by
            rw [List.any_eq_true]
            obtain ⟨t, ht⟩ := hSp
            exact ⟨x.2, by rw [← ht]; exact List.mem_append_left _ (List.mem_map_of_mem hx), hlx⟩
          have hE4 : checkBoxE a b c d bx = 4 := by rw [checkBoxE, if_neg (by rw [HE.out]; simp), if_neg (by rw [HE2.out]; simp), hany]; rfl
          have HE4 := Lib.hid hE4
          clear hE4 hany hSp hlx
          go_wp2
          have hr := (Blk.kept y (grownBy_putObj' _ D (.deferred none)) (by simp; omega)).cell (j := 0) rfl
          refine postR_mark (v := .int .i64 4) hK rfl ?_ ⟨by rw [HE4.out], hB.trans (belowK_b (w := w) (Nat.le_refl _) _ D _ _ (by omega) hK rfl rfl)⟩
          simp [results, Tryz.f64, go_sem, hr]
      · go_wp2
        have hr := (hy.set 0 (.int .i64 (box2E bx))).cell (j := 0) rfl
        refine postR_ret (v := .int .i64 (box2E bx)) ?_ rfl ⟨ret_int (by rw [checkBoxE, if_neg (by rw [HE.out]; simp), if_pos he2]), hV.setCell (by simp) _⟩
        simp [results, Tryz.f64, go_sem, hr]
  · have e0 := hy.cell (j := 0) rfl
    have f0 := hy.frozen 0
    go_wp2
    have hr := (hy.set 0 (.int .i64 (box1E a b c d bx))).cell (j := 0) rfl
    refine postR_ret (v := .int .i64 (box1E a b c d bx)) ?_ rfl ⟨ret_int (by rw [checkBoxE, if_pos he]), hV.setCell (by simp) _⟩
    simp [results, Tryz.f64, go_sem, hr]
end

section
open Go.RowKit Go.Shelf

attribute [local go_sem] Oper.semAt_some

theorem checkBoxE_ok {a b c d : List Int} {bx : List (Int × Int)} (h : checkBoxE a b c d bx = 0) : box1E a b c d bx = 0 ∧ box2E bx = 0 ∧ ∀ p ∈ membersW bx, (closedW p b c d).any largeB = false := by
  unfold checkBoxE at h
  split at h
  · exact absurd h (by assumption)
  · split at h
    · exact absurd h (by assumption)
    · split at h
      · cases h
      · rename_i h1 h2 h3
        refine ⟨by simpa using h1, by simpa using h2, fun p hp => ?_⟩
        cases hc : (closedW p b c d).any largeB with
        | false => rfl
        | true => exact absurd (List.any_eq_true.2 ⟨p, hp, hc⟩) h3

/-- the first member whose loop is not stable. -/
def certW (b c d : List Int) (bx : List (Int × Int)) : Option (List Int) := (membersW bx).find? (fun p => !stableB (closedW p b c d))
def certR (a b c d : List Int) (bx : List (Int × Int)) : Option (List Int) := if checkBoxE a b c d bx ≠ 0 then none else certW b c d bx

theorem find_prefix {α : Type} {g : α → Bool} {l pre : List α} {x : α} (h : pre ++ [x] <+: l) (hp : ∀ y ∈ pre, g y = false) (hx : g x = true) : l.find? g = some x := by
  obtain ⟨t, rfl⟩ := h
  rw [List.append_assoc, List.find?_append]
  have : pre.find? g = none := by rw [List.find?_eq_none]; intro y hy; rw [hp y hy]; simp
  rw [this]
  simp [hx]

set_option maxRecDepth 100000 in
set_option maxHeartbeats 4000000 in
theorem Certify_any (va vb vc vd vx : Value) (a b c d : List Int) (bx : List (Int × Int)) (w : World) (ha : Ints w va a) (hb : Ints w vb b) (hc : Ints w vc c) (hd : Ints w vd d) (hx : Pairs w vx bx)
    (ha2 : a.length ≤ 100000) (hb2 : b.length ≤ 100000) (hc2 : c.length ≤ 100000) (hd2 : d.length ≤ 100000) (hx2 : bx.length ≤ 100000) :
    Calls Tryz.prog 26 #[.agg #[va, vb, vc, vd], vx] w fun e w' => (∃ u, e = .returned (.tuple #[u, .bool (certR a b c d bx).isSome, .int .i64 (checkBoxE a b c d bx)]) ∧ Ints w' u ((certR a b c d bx).getD [])) ∧ Below w.heap.size w w' := by
  obtain ⟨xa, ca, rfl, _⟩ := id ha
  obtain ⟨xb, cb, rfl, _⟩ := id hb
  obtain ⟨xc, cc, rfl, _⟩ := id hc
  obtain ⟨xd, cd, rfl, _⟩ := id hd
  obtain ⟨xx, cx, rfl, _⟩ := id hx
  refine calls_of_postR Tryz.func26 rfl ?_
  simp only [Tryz.ntmps26, List.size_toArray, List.length_cons, List.length_nil, Nat.reduceAdd, Nat.reduceSub, Array.replicate_succ, Array.replicate_zero, List.push_toArray, List.append_toArray, List.nil_append, List.cons_append]
  go_wp2_with fail
  obtain ⟨w1, hw1⟩ : ∃ v, v = w.alloc (Obj.cells #[.slice xa a.length ca, .slice xb b.length cb, .slice xc c.length cc, .slice xd d.length cd] 32) := ⟨_, rfl⟩
  have hb1 : Below w.heap.size w w1 := by rw [hw1]; exact below_new _ _
  have z1 : Blk w1 w.heap.size 32 [.slice xa a.length ca, .slice xb b.length cb, .slice xc c.length cc, .slice xd d.length cd] := by rw [hw1]; exact Blk.new _ _ _
  rw [← hw1]
  clear hw1
  have q0 := z1.cell (j := 0) rfl
  have q1 := z1.cell (j := 1) rfl
  have q2 := z1.cell (j := 2) rfl
  have q3 := z1.cell (j := 3) rfl
  go_step3
  go_wp2_with fail
  clear q0 q1 q2 q3
  refine (CheckBox_any _ _ _ _ _ a b c d bx w1 (ha.carry hb1) (hb.carry hb1) (hc.carry hb1) (hd.carry hb1) (hx.carry hb1) ha2 hb2 hc2 hd2 hx2).mono ?_
  rintro e w2 ⟨rfl, hb2'⟩
  have hB2 := bthen hb1 hb2'
  have z2 := z1.carry hb2'
  clear z1 hb2' hb1
  by_cases he : checkBoxE a b c d bx = 0
  · have hce : certR a b c d bx = certW b c d bx := by rw [certR, if_neg (by rw [he]; simp)]
    obtain ⟨e1, _, _⟩ := checkBoxE_ok he
    obtain ⟨e1, e2, e3⟩ := box1E_ok e1
    replace e3 := intervalsE_ok e3
    obtain ⟨⟨a1, a5⟩, ⟨bb1, b5⟩, ⟨c1, c5⟩, ⟨d1, d5⟩⟩ := checkLoopE_len e1
    rw [he]
    have HCE := Lib.hid hce
    have HE := Lib.hid he
    have HI := Lib.hid e3
    have HL := Lib.hid e2
    clear e1 e2 e3 he hce
    have hxl : 0 < bx.length := by rw [HL.out]; omega
    go_wp2_with fail
    have hb3 := below_new w2 (.cells #[.slice none 0 0] 30)
    have y3 := Blk.new w2 30 [.slice none 0 0]
    obtain ⟨w3, hw3⟩ : ∃ v, v = w2.alloc (.cells #[.slice none 0 0] 30) := ⟨_, rfl⟩
    have y3' : Blk w3 w2.heap.size 30 [.slice none 0 0] := by rw [hw3]; exact y3
    have s3 : w3.heap.size = w2.heap.size + 1 := by rw [hw3]; simp
    rw [← hw3] at hb3 ⊢
    clear hw3 y3
    have z3 := z2.carry hb3
    have hB3 := bthen hB2 hb3
    have hs2 := hB2.size
    have hz2 := z2.lt
    go_step3
    go_wp2_with fail
    refine (members_any _ _ _ _).mono ?_
    rintro e w' ⟨rfl, rfl⟩
    have hcb := cell_new w3 #[.slice xx bx.length cx] 72 0
    have hB6 := below_new w3 (.cells #[.slice xx bx.length cx] 72)
    obtain ⟨Wr, hWr⟩ : ∃ v, v = w3.alloc (.cells #[.slice xx bx.length cx] 72) := ⟨_, rfl⟩
    have hsW : Wr.heap.size = w3.heap.size + 1 := by rw [hWr]; simp
    rw [← hWr] at hcb hB6 ⊢
    clear hWr
    rw [s3] at hcb hsW
    have z := z3.carry hB6
    have y := y3'.carry hB6
    have hV := bthen hB3 hB6
    clear z2 z3 y3' hb3 hB6 hB3
    go_wp2_with fail
    refine wp_rangeS (s := 9) (gf := 105) (lb := #[.pointer (some ⟨w2.heap.size + 1, 0, none⟩)]) rfl (enters_of Tryz.func105 (by kernel_rfl) rfl)
      (members_seq 4 (by omega) w w.heap.size (w2.heap.size + 1) (.slice xx bx.length cx) bx (fun x hx => by have := HI.out x hx; omega) (by omega) hxl hx (Nat.le_refl _) Wr Wr.heap.size rfl (by omega) (by omega) hV hcb)
      KMem.trans (fun W l o o' hl h h1 _ => KMem.turn W l o o' (by omega) (by omega) h h1) (KMem.refl _ _ _) (Below.refl _ _)
      (fun pre W => (Blk W w.heap.size 32 [.slice xa a.length ca, .slice xb b.length cb, .slice xc c.length cc, .slice xd d.length cd] ∧ Blk W w2.heap.size 30 [.slice none 0 0]) ∧ (∀ x ∈ pre, stableB (closedW x.2 b c d) = true) ∧ Below w.heap.size Wr W)
      (fun co pre W => (co = .exit 0 ∧ ∃ (pre0 : List (Value × List Int)) (x : Value × List Int), pre = pre0 ++ [x] ∧ (∀ y ∈ pre0, stableB (closedW y.2 b c d) = true) ∧ stableB (closedW x.2 b c d) = false ∧ x.2.length = bx.length ∧ Blk W w2.heap.size 30 [x.1] ∧ OwnI 3 w.heap.size W x.1 x.2) ∧ Below w.heap.size Wr W)
      (StableFrom.and (StableFrom.and (Blk.stable (by omega) _ (fun _ => [_, _, _, _])) (Blk.stable (by omega) _ (fun _ => [_]))) (StableFrom.and (StableFrom.pure _ (fun pre : List (Value × List Int) => ∀ x ∈ pre, stableB (closedW x.2 b c d) = true)) (StableFrom.below (by omega) (by omega))))
      (fun co pre A B row ⟨⟨h1, pre0, x, h2, h3, h4, h5, h6, h7⟩, h8⟩ hg hr => ⟨⟨h1, pre0, x, h2, h3, h4, h5, h6.kept hg (fun e => by have := (hr _ e.symm).1; omega), h7.kint (kint_of_grown hg (fun r e => (hr r e).2))⟩, ownFrom_below (β := Unit) (by omega) (by omega) () A B row h8 hg hr⟩)
      ⟨⟨z, y⟩, fun x hx => by simp at hx, Below.refl _ _⟩ (fun pre _ A B row hs hg hr => ⟨hs.1.kint (kint_of_grown hg (fun r e => (hr r e).2)), hs.2⟩) ?assign ?body ?done ?stop
    case assign =>
      intro l v W K hK
      gi_wp2
      exact hK
    case body =>
      rintro l pre ⟨xv, xl⟩ W ⟨⟨z, y⟩, hall, hBr⟩ ⟨hx, hxn⟩
      have hB := hV.trans hBr
      have hsr := hBr.size
      simp only [List.setIfInBounds_toArray, List.set_cons_succ, List.set_cons_zero]
      have hwf : ∀ f, (Fence.wide.inRound l).fn f := fun _ => trivial
      have q0 := z.cell (j := 0) rfl
      have q1 := z.cell (j := 1) rfl
      have q2 := z.cell (j := 2) rfl
      have q3 := z.cell (j := 3) rfl
      have hcx := Lib.hid (closedW_length xl b c d)
      simp only at hxn
      have HW := Lib.hid (with_any _ _ _ _ _ xl a b c d W hx.ints (ha.carry hB) (hb.carry hB) (hc.carry hB) (hd.carry hB))
      obtain ⟨xa', xc', hxv, _⟩ := hx.ints
      simp only at hxv
      subst hxv
      have HN := Lib.hid hxn
      have hxl1 : 1 ≤ xl.length := by omega
      have hxl2 : xl.length ≤ 100000 := by omega
      clear hxn
      gi_wp2_with fail
      refine (((callsIn_wide (n := 2)).2 HW.out).inRound l).mono ?_
      rintro e w7 ⟨rfl, hb7⟩
      gi_wp2_with fail
      refine (((callsIn_wide (n := 2)).2 (closed_any _ _ _ _ xl b c d w7 (hx.carry hb7).ints (hb.carry (bthen hB hb7)) (hc.carry (bthen hB hb7)) (hd.carry (bthen hB hb7)) hxl1 bb1 c1 d1 hxl2 (by omega) (by omega) (by omega))).inRound l).mono ?_
      rintro e w8 ⟨⟨u, rfl, hu⟩, hb8⟩
      have hb78 := bthen hb7 hb8
      have HG := Lib.hid (isStable_any u (closedW xl b c d) w8 hu (by have := hcx.out; omega))
      have y8 := y.carry hb78
      have e0 := y8.cell (j := 0) rfl
      have f0 := y8.frozen 0
      clear q0 q1 q2 q3
      by_cases hg : stableB (closedW xl b c d) = true
      · rw [hg] at HG
        gi_wp2_with fail
        refine (((callsIn_wide (n := 2)).2 HG.out).inRound l).mono ?_
        rintro e w9 ⟨rfl, hb9⟩
        have hb79 := bthen hb78 hb9
        gi_wp2
        refine ⟨(keeps_of_below hb79).from _, KMem.below hb79 hB.size (by omega), ⟨z.carry hb79, y.carry hb79⟩, ?_, hBr.trans (hb79.mono (by omega))⟩
        intro x hx
        rcases List.mem_append.1 hx with hx | hx
        · exact hall x hx
        · obtain rfl := List.mem_singleton.1 hx
          exact hg
      · have hg' : stableB (closedW xl b c d) = false := by simpa using hg
        rw [hg'] at HG
        gi_wp2_with fail
        refine (((callsIn_wide (n := 2)).2 HG.out).inRound l).mono ?_
        rintro e w9 ⟨rfl, hb9⟩
        have hb79 := bthen hb78 hb9
        have y9 := y8.carry hb9
        clear e0 f0
        have e0 := y9.cell (j := 0) rfl
        have f0 := y9.frozen 0
        gi_wp2
        have hx9 := hx.carry hb79
        have hne := (KInt.below (Below.refl w9.heap.size w9)).set (o := 0) (y9 : w9.heap[w2.heap.size]? = _) (by decide) (.slice xa' xl.length xc')
        exact ⟨((keeps_of_below hb79).trans (KeepsOthers.setCell _ _ _)).from _, ⟨rfl, pre, _, rfl, hall, hg', HN.out, y9.set 0 _, hx9.kint hne⟩, (hBr.trans (hb79.mono (by omega))).setCell (by simp; omega) _⟩
    case done =>
      rintro D ys W hD hS ⟨⟨z, y⟩, hall, hBr⟩ hK
      have hB := hV.trans hBr
      have e0 := y.cell (j := 0) rfl
      have hcert : certW b c d bx = none := by
        rw [certW, ← hS, List.find?_eq_none]
        intro p hp
        obtain ⟨x, hx, rfl⟩ := List.mem_map.1 hp
        rw [hall x hx]; simp
      have HC := Lib.hid hcert
      clear hcert hS
      go_wp2_with fail
      refine wp_region_held_drew (S := (fun w' => w'.cell? ⟨w2.heap.size, 0, none⟩ = some (.slice none 0 0))) (by kernel_rfl) ?_ (fun hHeld0 => ?_)
      · (try dsimp only); go_keep
      refine wpAnyH_take (i := 0) (oi := { dst := some 26, op := Op.load 30 (Operand.tmp 8), type := 30, pos := "loop.go:405", after := #[], guard := none }) (v := ?_) rfl (by kernel_rfl) (by kernel_rfl) (by kernel_rfl) (fun _ _ _ h => h) (Or.inl ⟨by rfl, ?_⟩) (by assumption) ?_
      rotate_left
      · (intro w hSw; (try dsimp only at hSw); go_simp); (try with_reducible rfl)
      try simp only [Act.put, List.setIfInBounds_toArray, List.set_cons_zero, List.set_cons_succ]
      refine wpAnyH_take (i := 1) (oi := { dst := some 27, op := Op.load 30 (Operand.tmp 8), type := 30, pos := "loop.go:405", after := #[{ on := 3, ground := Ground.gcOnly Departure.lateStores }], guard := none }) (v := ?_) rfl (by kernel_rfl) (by kernel_rfl) (by kernel_rfl) (fun _ _ _ h => h) (Or.inl ⟨by rfl, ?_⟩) (by assumption) ?_
      rotate_left
      · (intro w hSw; (try dsimp only at hSw); go_simp); (try with_reducible rfl)
      try simp only [Act.put, List.setIfInBounds_toArray, List.set_cons_zero, List.set_cons_succ]
      refine wpAnyH_take (i := 2) (oi := { dst := some 28, op := Op.binOp BinOp.neq 30 (Operand.tmp 27) (Operand.const (Value.slice none 0 0)) 30, type := 4, pos := "loop.go:405", after := #[{ on := 1, ground := Ground.data }, { on := 3, ground := Ground.gcOnly Departure.lateStores }], guard := none }) (v := ?_) rfl (by kernel_rfl) (by kernel_rfl) (by kernel_rfl) (fun _ _ _ h => h) (Or.inl ⟨by rfl, ?_⟩) (by assumption) ?_
      rotate_left
      · (intro w hSw; (try dsimp only at hSw); go_simp); (try with_reducible rfl)
      try simp only [Act.put, List.setIfInBounds_toArray, List.set_cons_zero, List.set_cons_succ]
      refine wpAnyH_take (i := 3) (oi := { dst := some 4, op := Op.assign (Operand.tmp 26), type := 30, pos := "loop.go:405", after := #[{ on := 0, ground := Ground.data }, { on := 0, ground := Ground.phase }, { on := 1, ground := Ground.textOnly Departure.lateStores }, { on := 2, ground := Ground.textOnly Departure.lateStores }], guard := none }) (v := ?_) rfl (by kernel_rfl) (by kernel_rfl) (by kernel_rfl) (fun _ _ _ h => h) (Or.inl ⟨by rfl, ?_⟩) (by assumption) ?_
      rotate_left
      · (intro w hSw; (try dsimp only at hSw); go_simp); (try with_reducible rfl)
      try simp only [Act.put, List.setIfInBounds_toArray, List.set_cons_zero, List.set_cons_succ]
      refine wpAnyH_take (i := 4) (oi := { dst := some 5, op := Op.assign (Operand.tmp 28), type := 4, pos := "loop.go:405", after := #[{ on := 2, ground := Ground.data }, { on := 3, ground := Ground.chain }, { on := 0, ground := Ground.phase }, { on := 1, ground := Ground.phase }, { on := 2, ground := Ground.phase }, { on := 3, ground := Ground.phase }], guard := none }) (v := ?_) rfl (by kernel_rfl) (by kernel_rfl) (by kernel_rfl) (fun _ _ _ h => h) (Or.inl ⟨by rfl, ?_⟩) (by assumption) ?_
      rotate_left
      · (intro w hSw; (try dsimp only at hSw); go_simp); (try with_reducible rfl)
      try simp only [Act.put, List.setIfInBounds_toArray, List.set_cons_zero, List.set_cons_succ]
      refine wpAnyH_take (i := 5) (oi := { dst := some 6, op := Op.assign (Operand.const (Value.int IntKind.i64 0)), type := 27, pos := "loop.go:405", after := #[{ on := 4, ground := Ground.chain }, { on := 0, ground := Ground.phase }, { on := 1, ground := Ground.phase }, { on := 2, ground := Ground.phase }, { on := 3, ground := Ground.phase }, { on := 4, ground := Ground.phase }], guard := none }) (v := ?_) rfl (by kernel_rfl) (by kernel_rfl) (by kernel_rfl) (fun _ _ _ h => h) (Or.inl ⟨by rfl, ?_⟩) (by assumption) ?_
      rotate_left
      · (intro w hSw; (try dsimp only at hSw); go_simp); (try with_reducible rfl)
      try simp only [Act.put, List.setIfInBounds_toArray, List.set_cons_zero, List.set_cons_succ]
      refine wpAnyH_done (by kernel_rfl) ?_ _
      clear hHeld0
      go_wp2
      rw [Exit.noGoto_ret]
      refine postR_mark (v := .tuple #[.slice none 0 0, .bool false, .int .i64 0]) hK rfl ?_ ⟨⟨_, by rw [HCE.out, HC.out, HE.out]; rfl, by rw [HCE.out, HC.out]; exact Ints.nil _⟩, hB.drew.trans (belowK_b (w := w) (Nat.le_refl _) _ D _ _ (by omega) hK rfl rfl)⟩
      simp [results, Tryz.f26, go_sem]
    case stop =>
      rintro D co pre W hD hSp ⟨⟨rfl, pre0, ⟨xv, xl⟩, rfl, h3, h4, h5, h6, h7⟩, hBr⟩ hK
      have hB := hV.trans hBr
      have e0 := h6.cell (j := 0) rfl
      simp only at h4 h5 h7 e0
      have hcert : certW b c d bx = some xl := by
        rw [certW]
        rw [List.map_append] at hSp
        refine find_prefix hSp (fun y hy => ?_) (by rw [h4]; rfl)
        obtain ⟨x, hx, rfl⟩ := List.mem_map.1 hy
        rw [h3 x hx]; rfl
      obtain ⟨xb', xo, xc', rfl, _⟩ := h7.ints.head (by omega)
      have HC := Lib.hid hcert
      clear hcert hSp h3 h4 h5
      go_wp2_with fail
      refine wp_region_held_drew (S := (fun w' => w'.cell? ⟨w2.heap.size, 0, none⟩ = some (.slice (some ⟨xb', xo, none⟩) xl.length xc'))) (by kernel_rfl) ?_ (fun hHeld0 => ?_)
      · (try dsimp only); go_keep
      refine wpAnyH_take (i := 0) (oi := { dst := some 26, op := Op.load 30 (Operand.tmp 8), type := 30, pos := "loop.go:405", after := #[], guard := none }) (v := ?_) rfl (by kernel_rfl) (by kernel_rfl) (by kernel_rfl) (fun _ _ _ h => h) (Or.inl ⟨by rfl, ?_⟩) (by assumption) ?_
      rotate_left
      · (intro w hSw; (try dsimp only at hSw); go_simp); (try with_reducible rfl)
      try simp only [Act.put, List.setIfInBounds_toArray, List.set_cons_zero, List.set_cons_succ]
      refine wpAnyH_take (i := 1) (oi := { dst := some 27, op := Op.load 30 (Operand.tmp 8), type := 30, pos := "loop.go:405", after := #[{ on := 3, ground := Ground.gcOnly Departure.lateStores }], guard := none }) (v := ?_) rfl (by kernel_rfl) (by kernel_rfl) (by kernel_rfl) (fun _ _ _ h => h) (Or.inl ⟨by rfl, ?_⟩) (by assumption) ?_
      rotate_left
      · (intro w hSw; (try dsimp only at hSw); go_simp); (try with_reducible rfl)
      try simp only [Act.put, List.setIfInBounds_toArray, List.set_cons_zero, List.set_cons_succ]
      refine wpAnyH_take (i := 2) (oi := { dst := some 28, op := Op.binOp BinOp.neq 30 (Operand.tmp 27) (Operand.const (Value.slice none 0 0)) 30, type := 4, pos := "loop.go:405", after := #[{ on := 1, ground := Ground.data }, { on := 3, ground := Ground.gcOnly Departure.lateStores }], guard := none }) (v := ?_) rfl (by kernel_rfl) (by kernel_rfl) (by kernel_rfl) (fun _ _ _ h => h) (Or.inl ⟨by rfl, ?_⟩) (by assumption) ?_
      rotate_left
      · (intro w hSw; (try dsimp only at hSw); go_simp); (try with_reducible rfl)
      try simp only [Act.put, List.setIfInBounds_toArray, List.set_cons_zero, List.set_cons_succ]
      refine wpAnyH_take (i := 3) (oi := { dst := some 4, op := Op.assign (Operand.tmp 26), type := 30, pos := "loop.go:405", after := #[{ on := 0, ground := Ground.data }, { on := 0, ground := Ground.phase }, { on := 1, ground := Ground.textOnly Departure.lateStores }, { on := 2, ground := Ground.textOnly Departure.lateStores }], guard := none }) (v := ?_) rfl (by kernel_rfl) (by kernel_rfl) (by kernel_rfl) (fun _ _ _ h => h) (Or.inl ⟨by rfl, ?_⟩) (by assumption) ?_
      rotate_left
      · (intro w hSw; (try dsimp only at hSw); go_simp); (try with_reducible rfl)
      try simp only [Act.put, List.setIfInBounds_toArray, List.set_cons_zero, List.set_cons_succ]
      refine wpAnyH_take (i := 4) (oi := { dst := some 5, op := Op.assign (Operand.tmp 28), type := 4, pos := "loop.go:405", after := #[{ on := 2, ground := Ground.data }, { on := 3, ground := Ground.chain }, { on := 0, ground := Ground.phase }, { on := 1, ground := Ground.phase }, { on := 2, ground := Ground.phase }, { on := 3, ground := Ground.phase }], guard := none }) (v := ?_) rfl (by kernel_rfl) (by kernel_rfl) (by kernel_rfl) (fun _ _ _ h => h) (Or.inl ⟨by rfl, ?_⟩) (by assumption) ?_
      rotate_left
      · (intro w hSw; (try dsimp only at hSw); go_simp); (try with_reducible rfl)
      try simp only [Act.put, List.setIfInBounds_toArray, List.set_cons_zero, List.set_cons_succ]
      refine wpAnyH_take (i := 5) (oi := { dst := some 6, op := Op.assign (Operand.const (Value.int IntKind.i64 0)), type := 27, pos := "loop.go:405", after := #[{ on := 4, ground := Ground.chain }, { on := 0, ground := Ground.phase }, { on := 1, ground := Ground.phase }, { on := 2, ground := Ground.phase }, { on := 3, ground := Ground.phase }, { on := 4, ground := Ground.phase }], guard := none }) (v := ?_) rfl (by kernel_rfl) (by kernel_rfl) (by kernel_rfl) (fun _ _ _ h => h) (Or.inl ⟨by rfl, ?_⟩) (by assumption) ?_
      rotate_left
      · (intro w hSw; (try dsimp only at hSw); go_simp); (try with_reducible rfl)
      try simp only [Act.put, List.setIfInBounds_toArray, List.set_cons_zero, List.set_cons_succ]
      refine wpAnyH_done (by kernel_rfl) ?_ _
      clear hHeld0
      go_wp2
      rw [Exit.noGoto_ret]
      refine postR_mark (v := .tuple #[.slice (some ⟨xb', xo, none⟩) xl.length xc', .bool true, .int .i64 0]) hK rfl ?_ ⟨⟨_, by rw [HCE.out, HC.out, HE.out]; rfl, by rw [HCE.out, HC.out]; exact (h7.kint (KInt.turn _ _ _ (.deferred none) hK rfl)).ints⟩, hB.drew.trans (belowK_b (w := w) (Nat.le_refl _) _ D _ _ (by omega) hK rfl rfl)⟩
      simp [results, Tryz.f26, go_sem]
  · go_wp2
    have hR : certR a b c d bx = none := by rw [certR, if_pos he]
    rw [Exit.noGoto_ret]
    refine postR_ret (v := .tuple #[.slice none 0 0, .bool false, .int .i64 (checkBoxE a b c d bx)]) ?_ rfl ⟨⟨_, by rw [hR]; rfl, by rw [hR]; exact Ints.nil _⟩, hB2⟩
    simp [results, Tryz.f26, go_sem]
end

end Go.Proofs.YtfdehcphmmhjaaaGreatDoor

/- The members of a box, as they are visited: a function that calls itself through a variable. -/
import Derived.Test.YtnlmaildmeihgaaGreatDoorPairs
import Derived.Stop.RegionWithIn
import Derived.Laws.EntriesVeiled
namespace Go.Proofs.YtnlmaildmeihgaaGreatDoor
open Go.RowKit Go.Shelf

attribute [local go_sem] Oper.semAt_some

/-- the integers from one to another one. -/
def span (lo hi : Int) : List Int := upto (fun k => lo + k) (hi + 1 - lo).toNat
/-- the members of a box, the first coefficient changing last. -/
def membersW : List (Int × Int) → List (List Int)
  | [] => [[]]
  | x :: r => (span x.1 x.2).flatMap fun n => (membersW r).map (n :: ·)
theorem membersW_length {b : List (Int × Int)} {m : List Int} (h : m ∈ membersW b) : m.length = b.length := by
  induction b generalizing m with
  | nil => simp [membersW] at h; simp [h]
  | cons x r ih =>
    simp only [membersW, List.mem_flatMap, List.mem_map] at h
    obtain ⟨n, _, t, ht, rfl⟩ := h
    simp [ih ht]

/-- what a body keeps: what lay below n₀, block Bb, the cells from H on. -/
def KMem (n₀ Bb H : Nat) (A B : World) : Prop :=
  Below n₀ A B ∧ B.heap[Bb]? = A.heap[Bb]? ∧ ∀ (k : Nat) (c : Array Value) (T : TypeId), H ≤ k → A.heap[k]? = some (.cells c T (0, 0)) → B.heap[k]? = some (.cells c T (0, 0))
theorem KMem.refl (n₀ Bb H : Nat) (A : World) : KMem n₀ Bb H A A := ⟨Below.refl _ _, rfl, fun _ _ _ _ h => h⟩
theorem KMem.trans {n₀ Bb H : Nat} {A B C : World} (h : KMem n₀ Bb H A B) (k : KMem n₀ Bb H B C) : KMem n₀ Bb H A C :=
  ⟨h.1.trans k.1, k.2.1.trans h.2.1, fun i c T hi hc => k.2.2 i c T hi (h.2.2 i c T hi hc)⟩
theorem KMem.below {n₀ Bb H : Nat} {A B : World} (h : Below A.heap.size A B) (hn : n₀ ≤ A.heap.size) (hb : Bb < A.heap.size) : KMem n₀ Bb H A B :=
  ⟨h.mono hn, h.block _ hb, fun k _ _ _ hc => (h.block k (Array.getElem?_eq_some_iff.1 hc).1).trans hc⟩
theorem KMem.turn {n₀ Bb H : Nat} (W : World) (l : Nat) (o o' : Obj) (hn : n₀ ≤ l) (hb : Bb < l) (h : W.heap[l]? = some o) (h1 : o.isCells = false) : KMem n₀ Bb H W (W.putObj l o') :=
  ⟨(Below.refl n₀ W).grown (grownBy_putObj' W l o') (by have := (Array.getElem?_eq_some_iff.1 h).1; omega) (fun k e => by cases e; omega), World.putObj_heap_other (by omega), fun k c T _ hc => by
    by_cases e : k = l
    · subst e; rw [hc] at h; cases h; cases h1
    · exact (World.putObj_heap_other e).trans hc⟩

theorem ownI_kept {H base : Nat} {v : Value} {l : List Int} {β : Type} : OwnFrom H (fun (_ : β) W => OwnI 3 base W v l) := fun _ _ _ _ hs hg hr => hs.kint (kint_of_grown hg (fun r e => (hr r e).2))

/-- the state in which the function stands: the box; yield; the coefficients; itself. -/
structure FillSt (w0 : World) (n₀ H Bb By Bp Bf R l : Nat) (bv : Value) (b : List (Int × Int)) (W : World) (cur : List Int) : Prop where
  cb : W.cell? ⟨Bb, 0, none⟩ = some bv
  bl : Below n₀ w0 W
  cy : Blk W By 212 [.func (.yield l) #[] #[]]
  cp : Blk W Bp 26 [.slice (some ⟨R, 0, none⟩) b.length b.length]
  cf : Blk W Bf 208 [.func (.func 149) #[] #[.pointer (some ⟨Bb, 0, none⟩), .pointer (some ⟨By, 0, none⟩), .pointer (some ⟨Bp, 0, none⟩), .pointer (some ⟨Bf, 0, none⟩)]]
  cr : BlkI W R 3 cur
  len : cur.length = b.length

section
variable {w0 : World} {n₀ H Bb By Bp Bf R l : Nat} {bv : Value} {b : List (Int × Int)} {W W' : World} {cur : List Int}
theorem FillSt.kmem (h : FillSt w0 n₀ H Bb By Bp Bf R l bv b W cur) (k : KMem n₀ Bb H W W') (hy : H ≤ By) (hp : H ≤ Bp) (hf : H ≤ Bf) (hR : H ≤ R) : FillSt w0 n₀ H Bb By Bp Bf R l bv b W' cur :=
  ⟨(World.cell?_of_block (a := ⟨Bb, 0, none⟩) k.2.1).trans h.cb, h.bl.trans k.1, k.2.2 _ _ _ hy h.cy, k.2.2 _ _ _ hp h.cp, k.2.2 _ _ _ hf h.cf, k.2.2 _ _ _ hR h.cr, h.len⟩
theorem FillSt.carry (h : FillSt w0 n₀ H Bb By Bp Bf R l bv b W cur) (k : Below W.heap.size W W') (hn : n₀ ≤ W.heap.size) : FillSt w0 n₀ H Bb By Bp Bf R l bv b W' cur :=
  ⟨cellb h.cb k, h.bl.trans (k.mono hn), h.cy.carry k, h.cp.carry k, h.cf.carry k, Blk.carry h.cr k, h.len⟩
theorem FillSt.set (h : FillSt w0 n₀ H Bb By Bp Bf R l bv b W cur) (hb : Bb ≠ R) (hn : n₀ ≤ R) (j : Nat) (x : Int) : FillSt w0 n₀ H Bb By Bp Bf R l bv b (W.setCell ⟨R, j, none⟩ (.int .i64 x)) (cur.set j x) :=
  ⟨(World.cell?_of_block (a := ⟨Bb, 0, none⟩) (Below.heap_setCell _ _ _ _ hb)).trans h.cb, h.bl.setCell hn _, h.cy.other (h.cy.ne h.cr (by decide)) _, h.cp.other (h.cp.ne h.cr (by decide)) _, h.cf.other (h.cf.ne h.cr (by decide)) _, BlkI.set h.cr j x, by rw [List.length_set]; exact h.len⟩
end

theorem grownBy_set (W : World) (p : Addr) (v : Value) : W.grownBy (W.setCell p v) (some p.block) :=
  ⟨rfl, rfl, rfl, (KeepsWalks.setCell W _ v).size, fun k _ hk => Below.heap_setCell _ _ _ k (fun e => hk (by rw [e]))⟩

theorem run_pairs_bd {b : List (Int × Int)} (hb : ∀ x ∈ b, -1000 ≤ x.1 ∧ x.1 ≤ 1000 ∧ -1000 ≤ x.2 ∧ x.2 ≤ 1000) {i : Nat} {x : Int × Int} (h : b[i]? = some x) : -1000 ≤ x.1 ∧ x.1 ≤ 1000 ∧ -1000 ≤ x.2 ∧ x.2 ≤ 1000 := hb x (List.mem_of_getElem? h)

theorem flatMap_prefix {α β : Type} {l1 l2 : List α} (G : α → List β) (h : l1 <+: l2) : l1.flatMap G <+: l2.flatMap G := by
  obtain ⟨t, rfl⟩ := h
  exact ⟨t.flatMap G, List.flatMap_append.symm⟩

/-- what one call of the function does. -/
def FillPost (w0 : World) (n₀ H Bb By Bp Bf R l : Nat) (bv : Value) (b : List (Int × Int)) (J Jx : List (Value × List Int) → World → Prop) (pre : List (Value × List Int)) (i : Nat) (cur : List Int) (e : Ending) (W' : World) : Prop :=
  (e = .returned (.bool true) ∧ ∃ (ys : List (Value × List Int)) (cur' : List Int), ys.map Prod.snd = (membersW (b.drop i)).map (cur.take i ++ ·) ∧ J (pre ++ ys) W' ∧ FillSt w0 n₀ H Bb By Bp Bf R l bv b W' cur' ∧ cur'.take i = cur.take i) ∨
  (e = .returned (.bool false) ∧ ∃ ys : List (Value × List Int), ys.map Prod.snd <+: (membersW (b.drop i)).map (cur.take i ++ ·) ∧ Jx (pre ++ ys) W')

set_option maxRecDepth 100000 in
set_option maxHeartbeats 4000000 in
theorem fill_any (w0 : World) (n₀ H Bb By Bp Bf R l N : Nat) (hN : 1 ≤ N) (bv : Value) (b : List (Int × Int)) (hbd : ∀ x ∈ b, -1000 ≤ x.1 ∧ x.1 ≤ 1000 ∧ -1000 ≤ x.2 ∧ x.2 ≤ 1000) (hbl : b.length ≤ 1000000) (hb1 : 0 < b.length) (hbv : Pairs w0 bv b)
    (hn0 : w0.heap.size ≤ n₀) (hnH : n₀ ≤ H) (hbH : Bb < H) (hy : H ≤ By) (hp : H ≤ Bp) (hf : H ≤ Bf) (hR : H ≤ R) (J Jx : List (Value × List Int) → World → Prop)
    (hJ : ∀ pre A B row, J pre A → A.grownBy B row → (∀ r, row = some r → H ≤ r) → J pre B)
    (hY : ∀ pre x W, J pre W → (OwnI 3 n₀ W x.1 x.2 ∧ x.2.length = b.length) → YieldAt Fence.wide (N - 1) Tryz.prog l #[x.1] W fun e W' =>
      (e = .returned (.bool true) ∧ J (pre ++ [x]) W' ∧ KMem n₀ Bb H W W') ∨ (e = .returned (.bool false) ∧ Jx (pre ++ [x]) W')) :
    ∀ (d i : Nat), i + d = b.length → ∀ (pre : List (Value × List Int)) (cur : List Int) (W : World), FillSt w0 n₀ H Bb By Bp Bf R l bv b W cur → J pre W →
      Calls Tryz.prog 149 #[.int .i64 i, .pointer (some ⟨Bb, 0, none⟩), .pointer (some ⟨By, 0, none⟩), .pointer (some ⟨Bp, 0, none⟩), .pointer (some ⟨Bf, 0, none⟩)] W (FillPost w0 n₀ H Bb By Bp Bf R l bv b J Jx pre i cur) := by
  intro d
  induction d with
  | zero =>
    intro i hi pre cur W hst hj
    obtain rfl : i = b.length := by omega
    refine (callsIn_wide (n := N)).1 ?_
    have hwf : ∀ f, Fence.wide.fn f := fun _ => trivial
    refine callsIn_of_wp Tryz.func149 rfl trivial ?_ rfl
    simp only [Tryz.ntmps149, List.size_toArray, List.length_cons, List.length_nil, Nat.reduceAdd, Nat.reduceSub, Array.replicate_succ, Array.replicate_zero, List.push_toArray, List.append_toArray, List.nil_append, List.cons_append]
    obtain ⟨ba, bc, rfl, _⟩ := hbv
    have c1 := hst.cb
    have c2 := hst.cy.cell (j := 0) rfl
    have c3 := hst.cp.cell (j := 0) rfl
    have hstD := hst.carry (Below.refl _ W).drew (by have := hst.cr.lt; omega)
    have hin : Ints W.drew (.slice (some ⟨R, 0, none⟩) b.length b.length) cur := BlkI.ints hstD.cr hst.len.symm
    have hcl := (callsIn_wide (n := N - 1)).2 (Clone_any _ cur W.drew hin (by rw [hst.len]; omega))
    have HCL := Lib.hid hcl
    have hjD := hJ _ _ _ none hj (grown_of_below (Below.refl _ W).drew) (fun r e => by cases e)
    have hsz : n₀ ≤ W.drew.heap.size := by have := hstD.cr.lt; omega
    have hyd : ∀ (u : Value) (w2 : World), OwnI 3 W.drew.heap.size w2 u cur → Below W.drew.heap.size W.drew w2 → ∃ fn tmps assign body, Sem.run Tryz.prog (Instr.yield l #[u]) w2 = .ok (.round l fn tmps assign body) w2 ∧ RoundIn Fence.wide (N - 1) Tryz.prog l fn tmps assign body w2 fun e W' => ∃ r : Bool, e = .returned (.bool r) ∧ FillPost w0 n₀ H Bb By Bp Bf R l (.slice ba b.length bc) b J Jx pre b.length cur e W' := fun u w2 hu hb2 => by
      obtain ⟨fn, tmps, assign, body, hy1, hR1⟩ := hY pre (u, cur) w2 (hJ _ _ _ none hjD (grown_of_below hb2) (fun r e => by cases e)) ⟨hu.base hsz, hst.len⟩
      refine ⟨fn, tmps, assign, body, hy1, hR1.mono ?_⟩
      have hm : (membersW (b.drop b.length)).map (cur.take b.length ++ ·) = [cur] := by
        rw [List.drop_length, ← hst.len, List.take_length]; simp [membersW]
      rintro e W3 (⟨rfl, hj3, hk3⟩ | ⟨rfl, hjx⟩)
      · exact ⟨true, rfl, .inl ⟨rfl, [(u, cur)], cur, by rw [hm]; rfl, hj3, (hstD.carry hb2 hsz).kmem hk3 hy hp hf hR, rfl⟩⟩
      · exact ⟨false, rfl, .inr ⟨rfl, [(u, cur)], by rw [hm]; exact List.prefix_refl _, hjx⟩⟩
    have HYD := Lib.hid hyd
    clear hyd hcl hj hjD hY hbd hJ hstD hin
    gi_wp2_with fail
    gi_region_with (first | (gi_at_call 137; refine HCL.out.mono ?_; rintro e w2 ⟨⟨u, rfl, hu⟩, hb2⟩; obtain ⟨fn, tmps, assign, body, hy1, hR1⟩ := HYD.out u w2 hu hb2; have c2' := cellb (w := W.drew) c2 hb2) | (refine hR1.mono ?_; rintro e W3 ⟨r, rfl, hfin⟩))
    all_goals
      gi_wp2
      go_ret
      exact hfin
  | succ d ih =>
    intro i hi pre cur W hst hj
    obtain ⟨⟨lo, up⟩, hx⟩ : ∃ x, b[i]? = some x := ⟨_, List.getElem?_eq_getElem (by omega)⟩
    obtain ⟨bd1, bd2, bd3, bd4⟩ := run_pairs_bd hbd hx
    simp only at bd1 bd2 bd3 bd4
    have hmem : (membersW (b.drop i)).map (cur.take i ++ ·) = (span lo up).flatMap fun n => (membersW (b.drop (i + 1))).map (cur.take i ++ [n] ++ ·) := by
      have hd : b.drop i = (lo, up) :: b.drop (i + 1) := by
        obtain ⟨h1, h2⟩ := List.getElem?_eq_some_iff.1 hx
        rw [← h2]; exact List.drop_eq_getElem_cons h1
      rw [hd, membersW, List.map_flatMap]
      simp [List.map_map, Function.comp_def]
    have HM := Lib.hid hmem
    clear hmem
    refine (callsIn_wide (n := N)).1 ?_
    have hwf : ∀ f, Fence.wide.fn f := fun _ => trivial
    refine callsIn_of_wp Tryz.func149 rfl trivial ?_ rfl
    simp only [Tryz.ntmps149, List.size_toArray, List.length_cons, List.length_nil, Nat.reduceAdd, Nat.reduceSub, Array.replicate_succ, Array.replicate_zero, List.push_toArray, List.append_toArray, List.nil_append, List.cons_append]
    have hbv2 := hbv
    obtain ⟨ba, bc, rfl, _, _⟩ := hbv2
    obtain ⟨b1, o1, _, hba, hcs⟩ := hbv.head hb1
    cases hba
    have HCS := Lib.hid (hcs i (lo, up) hx)
    have c1 := hst.cb
    have hbw : ∀ V : World, Below n₀ w0 V → V.cell? ⟨b1, o1 + i * 2, none⟩ = some (.int .i64 lo) ∧ V.cell? ⟨b1, o1 + i * 2 + 1, none⟩ = some (.int .i64 up) := fun V hb => ⟨cellb HCS.out.1 (hb.mono hn0), cellb HCS.out.2 (hb.mono hn0)⟩
    have HBW := Lib.hid hbw
    obtain ⟨c2, c3⟩ := hbw W hst.bl
    have t1 : decide ((i : Int) = (b.length : Int)) = false := by simp; omega
    have t2 : (i : Int) < (b.length : Int) := by omega
    have HY2 := Lib.hid hY
    have HJ2 := Lib.hid hJ
    have HIH := Lib.hid ih
    have HST := Lib.hid hst.len
    clear hY hJ ih hcs hbw hx hbd
    gi_wp2_with fail
    clear c1 c2 c3
    gi_loopw [7] (fun nv wr => ∃ (k : Nat) (ys : List (Value × List Int)) (cur' : List Int), k ≤ (up + 1 - lo).toNat ∧ nv = .int .i64 (lo + k) ∧ ys.map Prod.snd = (upto (fun k : Nat => lo + k) k).flatMap (fun n => (membersW (b.drop (i + 1))).map (cur.take i ++ [n] ++ ·)) ∧ J (pre ++ ys) wr ∧ FillSt w0 n₀ H Bb By Bp Bf R l (.slice (some ⟨b1, o1, none⟩) b.length bc) b wr cur' ∧ cur'.take i = cur.take i)
      (fun nv _ => (up + 1 - intOf nv).toNat)
    case atStart => exact ⟨0, [], cur, Nat.zero_le _, by simp, rfl, by simpa using hj, hst, rfl⟩
    case round =>
      obtain ⟨k, ys, cur', hk, rfl, hys, hj2, hst2, hcur⟩ := hrel
      have HYS := Lib.hid hys
      have HCU := Lib.hid hcur
      clear hys hcur hj hst
      have c1 := hst2.cb
      obtain ⟨c2, c3⟩ := HBW.out wr hst2.bl
      have c4 := hst2.cp.cell (j := 0) rfl
      have c5 := hst2.cf.cell (j := 0) rfl
      by_cases hle : lo + (k : Int) ≤ up
      · have g1 := hst2.cr
        have c6 := BlkI.cell g1 (j := i) (by rw [hst2.len]; omega)
        have f6 := Blk.frozen g1 i
        have hst3 := hst2.set (by omega) (by omega) i (lo + k)
        have hj3 := HJ2.out _ _ _ (some R) hj2 (grownBy_set wr ⟨R, i, none⟩ (.int .i64 (lo + k))) (fun r e => by cases e; exact hR)
        have hih := (callsIn_wide (n := N - 1)).2 (HIH.out (i + 1) (by omega) (pre ++ ys) _ _ hst3 hj3)
        have c7 := hst3.cf.cell (j := 0) rfl
        rw [show (((i + 1 : Nat) : Int)) = (i : Int) + 1 from by omega] at hih
        have HIH2 := Lib.hid hih
        clear hih hj2 hj3 hst3 g1
        gi_wp2_with fail
        refine HIH2.out.mono ?_
        have hlenc : (cur'.set i (lo + (k : Int))).take (i + 1) = cur.take i ++ [lo + (k : Int)] := by
          rw [← HCU.out, List.take_add_one, List.take_set_of_le (by omega), List.getElem?_set_self (by rw [hst2.len]; omega)]
          rfl
        have HLC := Lib.hid hlenc
        clear hlenc c1 c2 c3 c4 c5 c6 f6 c7
        rintro e w2 (⟨rfl, ys2, cur3, p1, p2, p3, p4⟩ | ⟨rfl, ys2, p1, p2⟩)
        · have P1 := Lib.hid p1
          have P4 := Lib.hid p4
          clear p1 p4 hst2
          gi_wp2
          go_roundw
          case rel =>
            refine ⟨k + 1, ys ++ ys2, cur3, by omega, ?_, ?_, by rw [← List.append_assoc]; exact p2, p3, ?_⟩
            · rw [show lo + (k : Int) + 1 = lo + ((k + 1 : Nat) : Int) from by omega]
            · rw [List.map_append, HYS.out, P1.out, HLC.out, upto_succ, List.flatMap_append]
              simp
            · have h := congrArg (List.take i) P4.out
              rw [HLC.out, List.take_take, Nat.min_eq_left (by omega), List.take_append_of_le_length (by rw [List.length_take, HST.out]; omega), List.take_take, Nat.min_self] at h
              exact h
          case measure => simp [intOf]; omega
        · have P1 := Lib.hid p1
          clear p1 hst2
          gi_wp2
          go_ret
          refine .inr ⟨rfl, ys ++ ys2, ?_, by rw [← List.append_assoc]; exact p2⟩
          rw [HM.out, List.map_append, HYS.out]
          have h := P1.out
          rw [HLC.out] at h
          have h1 : (upto (fun k : Nat => lo + (k : Int)) (k + 1)).flatMap (fun n => (membersW (b.drop (i + 1))).map (cur.take i ++ [n] ++ ·)) <+: (span lo up).flatMap (fun n => (membersW (b.drop (i + 1))).map (cur.take i ++ [n] ++ ·)) := flatMap_prefix _ (upto_prefix _ (by omega))
          rw [upto_succ, List.flatMap_append] at h1
          refine List.IsPrefix.trans ((List.prefix_append_right_inj _).2 ?_) h1
          simpa using h
      · clear c4 c5
        gi_wp2
        go_ret
        obtain rfl : k = (up + 1 - lo).toNat := by omega
        exact .inl ⟨rfl, ys, cur', by rw [HM.out, HYS.out]; rfl, hj2, hst2, HCU.out⟩

set_option maxHeartbeats 400000 in
theorem members_any (a : Option Addr) (n c : Nat) (w : World) :
    Calls Tryz.prog 109 #[.slice a n c] w fun e w' => e = .returned (.func (.func 148) #[] #[.pointer (some ⟨w.heap.size, 0, none⟩)]) ∧ w.alloc (.cells #[.slice a n c] 67) = w' := by
  go_enter Tryz.func109, Tryz.ntmps109
  go_wp2
  go_ret
  exact ⟨rfl, rfl⟩

set_option maxRecDepth 100000 in
set_option maxHeartbeats 2000000 in
theorem members1_any (w0 : World) (n₀ Bb l N : Nat) (hN : 1 ≤ N) (bv : Value) (b : List (Int × Int)) (hbd : ∀ x ∈ b, -1000 ≤ x.1 ∧ x.1 ≤ 1000 ∧ -1000 ≤ x.2 ∧ x.2 ≤ 1000) (hbl : b.length ≤ 1000000) (hb1 : 0 < b.length) (hbv : Pairs w0 bv b)
    (hn0 : w0.heap.size ≤ n₀) (J Jx : List (Value × List Int) → World → Prop) (W : World) (hbH : Bb < W.heap.size) (hnH : n₀ ≤ W.heap.size) (hW : Below n₀ w0 W) (hcb : W.cell? ⟨Bb, 0, none⟩ = some bv)
    (hJ : ∀ pre A B row, J pre A → A.grownBy B row → (∀ r, row = some r → W.heap.size ≤ r) → J pre B)
    (hY : ∀ pre x V, J pre V → (OwnI 3 n₀ V x.1 x.2 ∧ x.2.length = b.length) → YieldAt Fence.wide (N - 1) Tryz.prog l #[x.1] V fun e W' =>
      (e = .returned (.bool true) ∧ J (pre ++ [x]) W' ∧ KMem n₀ Bb W.heap.size V W') ∨ (e = .returned (.bool false) ∧ Jx (pre ++ [x]) W')) (h0 : J [] W) :
    Calls Tryz.prog 148 #[.func (.yield l) #[] #[], .pointer (some ⟨Bb, 0, none⟩)] W fun e W' => (∃ v, e = .returned v) ∧
      ((∃ ys, ys.map Prod.snd = membersW b ∧ J ys W') ∨ (∃ pre, pre.map Prod.snd <+: membersW b ∧ Jx pre W')) := by
  obtain ⟨ba, bc, rfl, _⟩ := id hbv
  have hmk := run_make_row' (P := Tryz.prog) 26 3 (.int .i64 0) 8 Tryz.underlying26 Tryz.infoInt rfl .i64 .i64 b.length (by omega) (by omega)
  rw [ia_made] at hmk
  have H1 := Lib.hid hbd
  have H2 := Lib.hid hbv
  have H3 := Lib.hid hJ
  have H4 := Lib.hid hY
  have H5 := Lib.hid hW
  clear hbd hbv hJ hY hW
  go_enter Tryz.func148, Tryz.ntmps148
  go_wp2_with fail
  clear hmk
  obtain ⟨v1, hv1⟩ : ∃ v, v = W.alloc (Obj.cells #[Value.func (Fn.yield l) #[] #[]] 212) := ⟨_, rfl⟩
  have k1 : Below W.heap.size W v1 := by rw [hv1]; exact below_new _ _
  have s1 : v1.heap.size = W.heap.size + 1 := by rw [hv1]; simp
  have y1 : Blk v1 W.heap.size 212 [.func (.yield l) #[] #[]] := by rw [hv1]; exact Blk.new _ _ _
  rw [← hv1]
  obtain ⟨v2, hv2⟩ : ∃ v, v = v1.alloc (Obj.cells (ia (List.replicate b.length 0)) 3) := ⟨_, rfl⟩
  have k2 : Below v1.heap.size v1 v2 := by rw [hv2]; exact below_new _ _
  have s2 : v2.heap.size = W.heap.size + 1 + 1 := by rw [hv2]; simp [s1]
  have y2 : BlkI v2 (W.heap.size + 1) 3 (List.replicate b.length 0) := by rw [hv2, ← s1]; exact BlkI.new _ _ _
  rw [← hv2]
  obtain ⟨v3, hv3⟩ : ∃ v, v = v2.alloc (Obj.cells #[Value.slice (some { block := W.heap.size + 1, off := 0 }) b.length b.length] 26) := ⟨_, rfl⟩
  have k3 : Below v2.heap.size v2 v3 := by rw [hv3]; exact below_new _ _
  have s3 : v3.heap.size = W.heap.size + 1 + 1 + 1 := by rw [hv3]; simp [s2]
  have y3 : Blk v3 (W.heap.size + 1 + 1) 26 [.slice (some ⟨W.heap.size + 1, 0, none⟩) b.length b.length] := by rw [hv3, ← s2]; exact Blk.new _ _ _
  rw [← hv3]
  generalize hv4 : v3.alloc _ = v4
  have k4 : Below v3.heap.size v3 v4 := by rw [← hv4]; exact below_new _ _
  have y4 : Blk v4 (W.heap.size + 1 + 1 + 1) 208 [.func (.func 149) #[] #[.pointer (some ⟨Bb, 0, none⟩), .pointer (some ⟨W.heap.size, 0, none⟩), .pointer (some ⟨W.heap.size + 1 + 1, 0, none⟩), .pointer (some ⟨W.heap.size + 1 + 1 + 1, 0, none⟩)]] := by rw [← hv4, ← s3]; exact Blk.new _ _ _
  clear hv1 hv2 hv3 hv4
  have k14 := bthen (bthen (bthen k1 k2) k3) k4
  have hst : FillSt w0 n₀ W.heap.size Bb W.heap.size (W.heap.size + 1 + 1) (W.heap.size + 1 + 1 + 1) (W.heap.size + 1) l (.slice ba b.length bc) b v4 (List.replicate b.length 0) :=
    ⟨cellb hcb k14, H5.out.trans (k14.mono hnH), ((y1.carry k2).carry k3).carry k4, y3.carry k4, y4, (Blk.carry y2 k3).carry k4, by simp⟩
  have hf := fill_any w0 n₀ W.heap.size Bb W.heap.size (W.heap.size + 1 + 1) (W.heap.size + 1 + 1 + 1) (W.heap.size + 1) l N hN (.slice ba b.length bc) b H1.out hbl hb1 H2.out hn0 hnH hbH (by omega) (by omega) (by omega) (by omega) J Jx H3.out H4.out b.length 0 (by omega) [] (List.replicate b.length 0) v4 hst (H3.out _ _ _ none h0 (grown_of_below k14) (fun r e => by cases e))
  rw [show ((0 : Nat) : Int) = 0 from rfl] at hf
  refine hf.mono ?_
  clear hf hst y1 y2 y3 y4 k1 k2 k3 k4 k14 s1 s2 s3 hcb h0
  rintro e w2 (⟨rfl, ys2, cur3, p1, p2, p3, p4⟩ | ⟨rfl, ys2, p1, p2⟩)
  · have P1 := Lib.hid p1
    clear p1 p4 p3
    go_wp2
    go_end0
    exact ⟨⟨_, rfl⟩, .inl ⟨ys2, by rw [P1.out]; simp, by simpa using p2⟩⟩
  · have P1 := Lib.hid p1
    clear p1
    go_wp2
    go_end0
    exact ⟨⟨_, rfl⟩, .inr ⟨ys2, by have := P1.out; simpa using this, by simpa using p2⟩⟩

theorem members_seq (N : Nat) (hN : 1 ≤ N) (w0 : World) (n₀ Bb : Nat) (bv : Value) (b : List (Int × Int)) (hbd : ∀ x ∈ b, -1000 ≤ x.1 ∧ x.1 ≤ 1000 ∧ -1000 ≤ x.2 ∧ x.2 ≤ 1000) (hbl : b.length ≤ 1000000) (hb1 : 0 < b.length) (hbv : Pairs w0 bv b)
    (hn0 : w0.heap.size ≤ n₀) (w : World) (H : Nat) (hH : H = w.heap.size) (hbH : Bb < w.heap.size) (hnH : n₀ ≤ w.heap.size) (hW : Below n₀ w0 w) (hcb : w.cell? ⟨Bb, 0, none⟩ = some bv) :
    SeqX Fence.wide N Tryz.prog 148 #[.pointer (some ⟨Bb, 0, none⟩)] (fun x : Value × List Int => #[x.1]) (fun _ x W => OwnI 3 n₀ W x.1 x.2 ∧ x.2.length = b.length) (KMem n₀ Bb H) (fun xs => xs.map Prod.snd = membersW b) (fun pre => pre.map Prod.snd <+: membersW b) true w :=
  fun l J Jx W hWW hJ _ hY h00 => by
    have hsz := hWW.size
    refine (callsIn_wide (n := N)).2 ((members1_any w0 n₀ Bb l N hN bv b hbd hbl hb1 hbv hn0 J Jx W (by omega) (by omega) (hW.trans (hWW.mono hnH)) (cellb hcb hWW) (fun pre A B row h hg hr => hJ pre A B row h hg (fun r e => ⟨rfl, hr r e⟩)) (fun pre x V h1 h2 => ?_) h00).mono fun _ _ ⟨hv, h⟩ => ⟨hv, h⟩)
    obtain ⟨fn, tmps, assign, body, hy, hR⟩ := hY pre x V h1 h2
    refine ⟨fn, tmps, assign, body, hy, hR.mono ?_⟩
    rintro e W' (⟨h1, h2, h3, h4, h5⟩ | h)
    · exact .inl ⟨h1, h2, h3, h4, fun k c T hk hc => h5 k c T (by omega) hc⟩
    · exact .inr h

end Go.Proofs.YtnlmaildmeihgaaGreatDoor

/- The program's Back, at the spectrum of a pattern. -/
import Derived.Test.YtoihfmndhfnmmaaGreatDoorHsA
namespace Go.Proofs.YtoihfmndhfnmmaaGreatDoor
section
set_option linter.unusedSimpArgs false
set_option linter.unusedVariables false
open Go.RowKit

theorem bkP_all {l : List Int} (hl : l.length = 12) (hb : ∀ x ∈ l, -100 ≤ x ∧ x ≤ 100) (n : Nat) (hn : n < 12) : bkS l n 12 = (12 * (l[n]?.getD 0), 0, 0, 0) := by
  match l, hl with
  | [a0, a1, a2, a3, a4, a5, a6, a7, a8, a9, a10, a11], _ =>
    have h0 := hb a0 (by simp)
    have h1 := hb a1 (by simp)
    have h2 := hb a2 (by simp)
    have h3 := hb a3 (by simp)
    have h4 := hb a4 (by simp)
    have h5 := hb a5 (by simp)
    have h6 := hb a6 (by simp)
    have h7 := hb a7 (by simp)
    have h8 := hb a8 (by simp)
    have h9 := hb a9 (by simp)
    have h10 := hb a10 (by simp)
    have h11 := hb a11 (by simp)
    obtain rfl | rfl | rfl | rfl | rfl | rfl | rfl | rfl | rfl | rfl | rfl | rfl : n = 0 ∨ n = 1 ∨ n = 2 ∨ n = 3 ∨ n = 4 ∨ n = 5 ∨ n = 6 ∨ n = 7 ∨ n = 8 ∨ n = 9 ∨ n = 10 ∨ n = 11 := by omega
    · exact bk0 h0 h1 h2 h3 h4 h5 h6 h7 h8 h9 h10 h11
    · exact bk1 h0 h1 h2 h3 h4 h5 h6 h7 h8 h9 h10 h11
    · exact bk2 h0 h1 h2 h3 h4 h5 h6 h7 h8 h9 h10 h11
    · exact bk3 h0 h1 h2 h3 h4 h5 h6 h7 h8 h9 h10 h11
    · exact bk4 h0 h1 h2 h3 h4 h5 h6 h7 h8 h9 h10 h11
    · exact bk5 h0 h1 h2 h3 h4 h5 h6 h7 h8 h9 h10 h11
    · exact bk6 h0 h1 h2 h3 h4 h5 h6 h7 h8 h9 h10 h11
    · exact bk7 h0 h1 h2 h3 h4 h5 h6 h7 h8 h9 h10 h11
    · exact bk8 h0 h1 h2 h3 h4 h5 h6 h7 h8 h9 h10 h11
    · exact bk9 h0 h1 h2 h3 h4 h5 h6 h7 h8 h9 h10 h11
    · exact bk10 h0 h1 h2 h3 h4 h5 h6 h7 h8 h9 h10 h11
    · exact bk11 h0 h1 h2 h3 h4 h5 h6 h7 h8 h9 h10 h11
/-- a spectrum in a block, as a slice of its numbers. -/
theorem quads_spec {w : World} {B : Nat} {l : List Int} (h : BlkI w B 30 (specL l)) : Quads w (.slice (some ⟨B, 0, none⟩) 12 12) (upto (fun k => orderC l (k : Int)) 12) := by
  have hS : (specL l).length = 48 := upto_length _ _
  refine ⟨some ⟨B, 0, none⟩, 12, by rw [upto_length], by rw [upto_length]; omega, fun _ => ⟨B, 0, rfl, fun j x hj => ?_⟩⟩
  have hjl := (List.getElem?_eq_some_iff.1 hj).1
  rw [upto_length] at hjl
  rw [upto_get, if_pos hjl] at hj
  cases hj
  have c0 := BlkI.cell (l := specL l) h (j := j * 4) (by omega)
  have c1 := BlkI.cell (l := specL l) h (j := j * 4 + 1) (by omega)
  have c2 := BlkI.cell (l := specL l) h (j := j * 4 + 2) (by omega)
  have c3 := BlkI.cell (l := specL l) h (j := j * 4 + 3) (by omega)
  have q0 := specL_get l j 0 hjl (by omega)
  have q1 := specL_get l j 1 hjl (by omega)
  have q2 := specL_get l j 2 hjl (by omega)
  have q3 := specL_get l j 3 hjl (by omega)
  rw [Nat.add_zero] at q0
  rw [q0] at c0
  rw [q1] at c1
  rw [q2] at c2
  rw [q3] at c3
  rw [Nat.zero_add]
  exact ⟨c0, c1, c2, c3⟩
def cycX (x : I4) : Int := cycE x.1 x.2.1 x.2.2.1 x.2.2.2
theorem cyc_all {l : List Int} (hb : ∀ x ∈ l, -100 ≤ x ∧ x ≤ 100) : firstE ((upto (fun k => orderC l (k : Int)) 12).map cycX) = 0 := by
  have key : ∀ m : List I4, (∀ x ∈ m, cycX x = 0) → firstE (m.map cycX) = 0 := by
    intro m hm
    induction m with
    | nil => rfl
    | cons a t ih =>
      rw [List.map_cons]
      simp only [firstE, hm a (by simp), if_pos]
      exact ih fun x hx => hm x (by simp [hx])
  refine key _ fun x hx => ?_
  obtain ⟨k, _, rfl⟩ := List.mem_map.1 hx
  have hd := order_all hb (k : Int)
  generalize orderC l (k : Int) = o at hd
  obtain ⟨o0, o1, o2, o3⟩ := o
  obtain ⟨d0, d1, d2, d3⟩ := hd
  simp only at d0 d1 d2 d3
  refine allE_of fun y hy => ?_
  simp only [List.mem_cons, List.not_mem_nil, or_false] at hy
  rcases hy with rfl | rfl | rfl | rfl <;> omega
theorem Tryz.enterCheckCy (args : Array Value) (w : World) : Sem.run Tryz.prog (callFunc 59 args) w = .ok (.enter 59 args) w :=
  MuLone.run_callFunc_enter Tryz.func59 (by kernel_rfl) rfl args w
theorem neqCyH (a b : Int) (h : a = b) (W : World) : Sem.run Tryz.prog (binOp .neq 29 (.agg #[.int .i64 a, .int .i64 0, .int .i64 0, .int .i64 0]) (.agg #[.int .i64 b, .int .i64 0, .int .i64 0, .int .i64 0])) W = .ok (.bool false) W := by
  subst h
  go_simp

def bkL (l : List Int) (k j : Nat) : Int := if j < k then l[j]?.getD 0 else 0
def cyI (x : Cy) : List Int := [x.1, x.2.1, x.2.2.1, x.2.2.2]
theorem bkL_zero (l : List Int) : List.replicate 12 (0 : Int) = upto (bkL l 0) 12 := by
  rw [zeros_upto]
  exact upto_congr fun j _ => by unfold bkL; rw [if_neg (by omega)]
theorem bkL_set (l : List Int) (k : Nat) (hk : k < 12) : (upto (bkL l k) 12).set k (l[k]?.getD 0) = upto (bkL l (k + 1)) 12 := upto_set1 _ _ 12 k hk _ fun j => by
  unfold bkL
  by_cases c : j = k
  · subst c; rw [if_pos (by omega), if_pos rfl]
  · rw [if_neg c]
    by_cases d : j < k
    · rw [if_pos (by omega), if_pos d]
    · rw [if_neg (by omega), if_neg d]
theorem bkL_all {l : List Int} (hl : l.length = 12) : upto (bkL l 12) 12 = l := by
  apply List.ext_getElem?
  intro j
  rw [upto_get]
  by_cases c : j < 12
  · rw [if_pos c, bkL, if_pos c, List.getElem?_eq_getElem (by omega)]; rfl
  · rw [if_neg c, List.getElem?_eq_none (by omega)]

set_option maxRecDepth 100000 in
set_option maxHeartbeats 8000000 in
theorem Back_any (l : List Int) (w : World) (hl : l.length = 12) (hb : ∀ x ∈ l, -100 ≤ x ∧ x ≤ 100) (hw : Powers w) :
    Calls Tryz.prog 10 #[.agg (ia (specL l))] w fun e w' => e = .returned (.tuple #[.agg (ia l), .int .i64 0]) ∧ Below w.heap.size w w' := by
  have hQ := fun (W : World) (B : Nat) (h : BlkI W B 30 (specL l)) => quads_spec h
  have TF := Lib.hid (fun (u : Value) (W : World) (h : Ints W u ((upto (fun k => orderC l (k : Int)) 12).map cycX)) => firstH_any u _ W (by rw [List.length_map, upto_length]; simp [maxLen]) h)
  rw [cyc_all hb] at TF
  have TM := Lib.hid (fun (u : Value) (W : World) (h : Quads W u (upto (fun k => orderC l (k : Int)) 12)) => mappedCE_any 59 #[] Tryz.enterCheckCy cycX u _ W (by rw [upto_length]; omega) h (fun x _ w1 _ => checkC_any x.1 x.2.1 x.2.2.1 x.2.2.2 w1))
  have HQ := Lib.hid hQ
  have HSG := Lib.hid (fun h i (hh : h < 12) (hi : i < 4) => specL_get l h i hh hi)
  have HBK := Lib.hid (fun n hn => bkP_all hl hb n hn)
  have HBS := Lib.hid (fun n k => bkS_succ l n k)
  have HLB := Lib.hid hb
  have TP := Lib.hid (fun W => by
    have := checkPattern_any l W hl
    rw [patE_of hb] at this
    exact this)
  obtain ⟨S, hS⟩ : ∃ S, S = specL l := ⟨_, rfl⟩
  have hSl : S.length = 48 := by rw [hS]; exact upto_length _ _
  rw [← hS] at HQ HSG ⊢
  have HSL := Lib.hid hSl
  have HL := Lib.hid hl
  clear hQ hS hSl hl hb
  go_enter Tryz.func10, Tryz.ntmps10
  go_upto_region 1 with fail
  obtain ⟨W1, hW1⟩ : ∃ v, v = World.alloc w (Obj.cells (ia S) 30) := ⟨_, rfl⟩
  have kW1 : Below w.heap.size w W1 := by rw [hW1]; exact below_new _ _
  have iW1 : BlkI W1 (w.heap.size) 30 S := by rw [hW1]; exact BlkI.new _ _ _
  have sW1 : W1.heap.size = w.heap.size + 1 := by rw [hW1]; simp
  rw [← hW1]
  clear hW1
  obtain ⟨W2, hW2⟩ : ∃ v, v = World.alloc W1 (Obj.cells #[.int .i64 0, .int .i64 0, .int .i64 0, .int .i64 0, .int .i64 0, .int .i64 0, .int .i64 0, .int .i64 0, .int .i64 0, .int .i64 0, .int .i64 0, .int .i64 0] 22) := ⟨_, rfl⟩
  have kW2 : Below W1.heap.size W1 W2 := by rw [hW2]; exact below_new _ _
  have iW2 : BlkI W2 (w.heap.size + 1) 22 (List.replicate 12 0) := by rw [hW2, ← sW1]; exact BlkI.new W1 22 (List.replicate 12 0)
  have sW2 : W2.heap.size = w.heap.size + 1 + 1 := by rw [hW2]; simp [sW1]
  rw [← hW2]
  clear hW2
  have i1 : BlkI W2 w.heap.size 30 S := iW1.carry kW2
  have i2 := iW2
  have hB := bthen kW1 kW2
  clear kW1 kW2 sW1 sW2 iW1 iW2
  go_wp2_with fail
  refine (TM.out _ W2 (HQ.out W2 _ i1)).mono ?_
  rintro e W3 ⟨⟨u, rfl, hu⟩, hb⟩
  replace i1 := i1.carry hb
  replace i2 := i2.carry hb
  replace hB := bthen hB hb
  clear hb
  go_wp2_with fail
  refine (TF.out u W3 hu).mono ?_
  rintro e W4 ⟨rfl, rfl⟩
  clear hu TF TM HQ
  go_upto_region 5 with fail
  have h25 : w.heap.size + 1 < W3.heap.size := Blk.lt i2
  obtain ⟨W5, hW5⟩ : ∃ v, v = World.alloc W3 (Obj.cells #[.int .i64 0, .int .i64 0, .int .i64 0, .int .i64 0, .int .i64 0, .int .i64 0, .int .i64 0, .int .i64 0, .int .i64 0, .int .i64 0, .int .i64 0, .int .i64 0] 22) := ⟨_, rfl⟩
  have kW5 : Below W3.heap.size W3 W5 := by rw [hW5]; exact below_new _ _
  have iW5 : BlkI W5 (W3.heap.size) 22 (List.replicate 12 0) := by rw [hW5]; exact BlkI.new W3 22 (List.replicate 12 0)
  have sW5 : W5.heap.size = W3.heap.size + 1 := by rw [hW5]; simp
  rw [← hW5]
  clear hW5
  replace i1 := i1.carry kW5
  replace i2 := i2.carry kW5
  replace hB := bthen hB kW5
  have i5 := iW5
  rw [bkL_zero l] at i5
  have hG5 : w.heap.size ≤ W3.heap.size := by omega
  obtain ⟨G5, hG⟩ : ∃ G, G = W3.heap.size := ⟨_, rfl⟩
  rw [← hG] at i5 hG5 h25 ⊢
  clear kW5 iW5 sW5 hG
  have HG5 := Lib.hid (And.intro h25 hG5)
  clear hG5 h25
  go_wp2_with fail
  go_loopw [18] (fun i wr => ∃ k : Nat, k ≤ 12 ∧ i = .int .i64 k ∧ BlkI wr G5 22 (upto (bkL l k) 12) ∧ BlkI wr w.heap.size 30 S ∧ BlkI wr (w.heap.size + 1) 22 (List.replicate 12 0) ∧ Below w.heap.size w wr) (fun i _ => 12 - (intOf i).toNat)
  case atStart => exact ⟨0, by omega, rfl, i5, i1, i2, hB⟩
  case round =>
    clear i5 i1 i2 hB
    obtain ⟨k, hk, rfl, i5, i1, i2, hB⟩ := hrel
    by_cases hlt : k < 12
    · have d1 : (k : Int) < 12 := by omega
      go_upto_region 9 with fail
      obtain ⟨X1, hX1⟩ : ∃ v, v = World.alloc wr (Obj.cells #[.int .i64 0, .int .i64 0, .int .i64 0, .int .i64 0] 29) := ⟨_, rfl⟩
      have kX1 : Below wr.heap.size wr X1 := by rw [hX1]; exact below_new _ _
      have iX1 : BlkI X1 (wr.heap.size) 29 (List.replicate 4 0) := by rw [hX1]; exact BlkI.new wr 29 (List.replicate 4 0)
      have sX1 : X1.heap.size = wr.heap.size + 1 := by rw [hX1]; simp
      rw [← hX1]
      clear hX1
      have hg7 : G5 < wr.heap.size := Blk.lt i5
      have hg8 : w.heap.size + 1 < wr.heap.size := Blk.lt i2
      replace i1 := i1.carry kX1
      replace i2 := i2.carry kX1
      replace i5 := i5.carry kX1
      replace hB := bthen hB kX1
      have i7 : BlkI X1 wr.heap.size 29 (cyI (bkS l k 0)) := iX1
      obtain ⟨G7, hG⟩ : ∃ G, G = wr.heap.size := ⟨_, rfl⟩
      rw [← hG] at i7 hg7 hg8 ⊢
      clear kX1 iX1 sX1 hG
      have HG7 := Lib.hid (And.intro hg7 hg8)
      clear hg7 hg8
      have hld := load48 HSL.out i1
      go_wp2_with (refine wpList_load rfl _ _ rfl hld ?_)
      clear hld
      go_loopw [22] (fun i wr2 => ∃ h : Nat, h ≤ 12 ∧ i = .int .i64 h ∧ BlkI wr2 G7 29 (cyI (bkS l k h)) ∧ BlkI wr2 G5 22 (upto (bkL l k) 12) ∧ BlkI wr2 w.heap.size 30 S ∧ BlkI wr2 (w.heap.size + 1) 22 (List.replicate 12 0) ∧ Below w.heap.size w wr2) (fun i _ => 12 - (intOf i).toNat)
      case atStart => exact ⟨0, by omega, rfl, i7, i5, i1, i2, hB⟩
      case round =>
        clear i7 i5 i1 i2 hB
        obtain ⟨h, hh, rfl, i7, i5, i1, i2, hB⟩ := hrel
        by_cases hlh : h < 12
        · have d2 : (h : Int) < 12 := by omega
          have hix0 := fun W => idx48 HSL.out hlh W
          have q0 := HSG.out h 0 hlh (by omega)
          have q1 := HSG.out h 1 hlh (by omega)
          have q2 := HSG.out h 2 hlh (by omega)
          have q3 := HSG.out h 3 hlh (by omega)
          rw [Nat.add_zero] at q0
          simp only [q0, q1, q2, q3] at hix0
          have hbs := HBS.out k h
          have hbt : bkT l k h = turnC (orderC l (h : Int)) (mod12 (wrap64 ((h : Int) * (k : Int)))) := rfl
          generalize orderC l (h : Int) = o at hix0 hbt
          obtain ⟨o0, o1, o2, o3⟩ := o
          simp only [cyAt] at hix0
          obtain ⟨HK, hHK⟩ : ∃ x, x = wrap64 ((h : Int) * (k : Int)) := ⟨_, rfl⟩
          have e0 : IntKind.i64.wrap ((h : Int) * (k : Int)) = HK := by rw [wrapEq, hHK]
          rw [← hHK] at hbt
          have TT := Lib.hid (fun W hp => turned_any o0 o1 o2 o3 HK (mod12 HK) W hp (mod12_lt _) (mod12_eq _))
          rw [← hbt] at TT
          generalize bkT l k h = tt at TT hbs
          obtain ⟨t0, t1, t2, t3⟩ := tt
          simp only [cyV] at TT
          generalize bkS l k h = ss at i7 hbs
          obtain ⟨s0, s1, s2, s3⟩ := ss
          have TPl := Lib.hid (fun W => plusC_any s0 s1 s2 s3 t0 t1 t2 t3 W)
          simp only [cyAdd] at hbs
          generalize wrap64 (s0 + t0) = n0 at TPl hbs
          generalize wrap64 (s1 + t1) = n1 at TPl hbs
          generalize wrap64 (s2 + t2) = n2 at TPl hbs
          generalize wrap64 (s3 + t3) = n3 at TPl hbs
          have HBSS := Lib.hid hbs
          clear hbs hbt hHK q0 q1 q2 q3
          go_upto_region 12 with (refine wpList_storeA rfl _ _ _ rfl wr.heap.size [o0, o1, o2, o3] (List.replicate 4 0) rfl rfl (BlkI.new wr 29 (List.replicate 4 0)) rfl Tryz.infoCyH4 ?_)
          obtain ⟨Y1, hY1⟩ : ∃ v, v = World.setRow (World.alloc wr (Obj.cells #[.int .i64 0, .int .i64 0, .int .i64 0, .int .i64 0] 29)) wr.heap.size (ia ([o0, o1, o2, o3])) := ⟨_, rfl⟩
          have kY1 : Below wr.heap.size wr Y1 := by rw [hY1]; exact zrow_below _ _ _ _
          have iY1 : BlkI Y1 wr.heap.size 29 ([o0, o1, o2, o3]) := by rw [hY1]; exact zrow_blk wr _ (List.replicate 4 0) _
          rw [← hY1]
          clear hY1
          replace i1 := i1.carry kY1
          replace i2 := i2.carry kY1
          replace i5 := i5.carry kY1
          have i7' : BlkI Y1 G7 29 [s0, s1, s2, s3] := i7.carry kY1
          replace hB := bthen hB kY1
          have i9 := iY1
          generalize wr.heap.size = G9 at i9 ⊢
          clear kY1 iY1 i7 hix0
          have a0 : Y1.cell? ⟨G9, 0, none⟩ = some (.int .i64 o0) := BlkI.cell i9 (j := 0) (by simp)
          have a1 : Y1.cell? ⟨G9, 1, none⟩ = some (.int .i64 o1) := BlkI.cell i9 (j := 1) (by simp)
          have a2 : Y1.cell? ⟨G9, 2, none⟩ = some (.int .i64 o2) := BlkI.cell i9 (j := 2) (by simp)
          have a3 : Y1.cell? ⟨G9, 3, none⟩ = some (.int .i64 o3) := BlkI.cell i9 (j := 3) (by simp)
          have b0 : Y1.cell? ⟨G7, 0, none⟩ = some (.int .i64 s0) := BlkI.cell i7' (j := 0) (by simp)
          have b1 : Y1.cell? ⟨G7, 1, none⟩ = some (.int .i64 s1) := BlkI.cell i7' (j := 1) (by simp)
          have b2 : Y1.cell? ⟨G7, 2, none⟩ = some (.int .i64 s2) := BlkI.cell i7' (j := 2) (by simp)
          have b3 : Y1.cell? ⟨G7, 3, none⟩ = some (.int .i64 s3) := BlkI.cell i7' (j := 3) (by simp)
          clear i9
          obtain ⟨hg7, hg8⟩ := HG7.out
          have hG5 := HG5.out
          refine wp_region_E 7 (by kernel_rfl) ?_
          obtain ⟨wz, hwz⟩ : ∃ v, v = Y1.drew := ⟨_, rfl⟩
          rw [← hwz]
          have hlz : Below Y1.heap.size Y1 wz := by rw [hwz]; exact (Below.refl _ _).drew
          have hbz := bthen hB hlz
          have a0 := cellb a0 hlz
          have a1 := cellb a1 hlz
          have a2 := cellb a2 hlz
          have a3 := cellb a3 hlz
          have b0 := cellb b0 hlz
          have b1 := cellb b1 hlz
          have b2 := cellb b2 hlz
          have b3 := cellb b3 hlz
          have i1 := i1.carry hlz
          have i2 := i2.carry hlz
          have i5 := i5.carry hlz
          have i7' := i7'.carry hlz
          clear hwz hlz
          refine wpAnyE_take (i := 0) (oi := { dst := some 26, op := Op.load 29 (Operand.tmp 7), type := 29, pos := "harmonic.go:219", after := #[], guard := none }) (v := ?_) rfl (by kernel_rfl) (by kernel_rfl) (by kernel_rfl) (by kernel_rfl) (fun _ _ _ h => h) (Or.inl ⟨by rfl, ?_⟩) ?_
          rotate_left
          · (intro w hE; have a0 := cellb a0 hE; have a1 := cellb a1 hE; have a2 := cellb a2 hE; have a3 := cellb a3 hE; have b0 := cellb b0 hE; have b1 := cellb b1 hE; have b2 := cellb b2 hE; have b3 := cellb b3 hE; (try dsimp only); go_simp); (try with_reducible rfl)
          try simp only [Act.put, List.setIfInBounds_toArray, List.set_cons_zero, List.set_cons_succ]
          refine wpAnyE_take (i := 1) (oi := { dst := some 27, op := Op.load 29 (Operand.tmp 9), type := 29, pos := "harmonic.go:219", after := #[], guard := none }) (v := ?_) rfl (by kernel_rfl) (by kernel_rfl) (by kernel_rfl) (by kernel_rfl) (fun _ _ _ h => h) (Or.inl ⟨by rfl, ?_⟩) ?_
          rotate_left
          · (intro w hE; have a0 := cellb a0 hE; have a1 := cellb a1 hE; have a2 := cellb a2 hE; have a3 := cellb a3 hE; have b0 := cellb b0 hE; have b1 := cellb b1 hE; have b2 := cellb b2 hE; have b3 := cellb b3 hE; (try dsimp only); go_simp); (try with_reducible rfl)
          try simp only [Act.put, List.setIfInBounds_toArray, List.set_cons_zero, List.set_cons_succ]
          refine wpAnyE_take (i := 2) (oi := { dst := some 28, op := Op.move (Operand.tmp 8), type := 3, pos := "harmonic.go:219", after := #[], guard := none }) (v := ?_) rfl (by kernel_rfl) (by kernel_rfl) (by kernel_rfl) (by kernel_rfl) (fun _ _ _ h => h) (Or.inl ⟨by rfl, ?_⟩) ?_
          rotate_left
          · (intro w hE; have a0 := cellb a0 hE; have a1 := cellb a1 hE; have a2 := cellb a2 hE; have a3 := cellb a3 hE; have b0 := cellb b0 hE; have b1 := cellb b1 hE; have b2 := cellb b2 hE; have b3 := cellb b3 hE; (try dsimp only); go_simp); (try with_reducible rfl)
          try simp only [Act.put, List.setIfInBounds_toArray, List.set_cons_zero, List.set_cons_succ]
          refine wpAnyE_take (i := 3) (oi := { dst := some 29, op := Op.move (Operand.tmp 6), type := 3, pos := "harmonic.go:219", after := #[], guard := none }) (v := ?_) rfl (by kernel_rfl) (by kernel_rfl) (by kernel_rfl) (by kernel_rfl) (fun _ _ _ h => h) (Or.inl ⟨by rfl, ?_⟩) ?_
          rotate_left
          · (intro w hE; have a0 := cellb a0 hE; have a1 := cellb a1 hE; have a2 := cellb a2 hE; have a3 := cellb a3 hE; have b0 := cellb b0 hE; have b1 := cellb b1 hE; have b2 := cellb b2 hE; have b3 := cellb b3 hE; (try dsimp only); go_simp); (try with_reducible rfl)
          try simp only [Act.put, List.setIfInBounds_toArray, List.set_cons_zero, List.set_cons_succ]
          refine wpAnyE_take (i := 4) (oi := { dst := some 30, op := Op.binOp BinOp.mul 3 (Operand.tmp 28) (Operand.tmp 29) 3, type := 3, pos := "harmonic.go:219", after := #[{ on := 2, ground := Ground.data }, { on := 3, ground := Ground.data }], guard := none }) (v := ?_) rfl (by kernel_rfl) (by kernel_rfl) (by kernel_rfl) (by kernel_rfl) (fun _ _ _ h => h) (Or.inl ⟨by rfl, ?_⟩) ?_
          rotate_left
          · (intro w hE; have a0 := cellb a0 hE; have a1 := cellb a1 hE; have a2 := cellb a2 hE; have a3 := cellb a3 hE; have b0 := cellb b0 hE; have b1 := cellb b1 hE; have b2 := cellb b2 hE; have b3 := cellb b3 hE; (try dsimp only); go_simp); (try with_reducible rfl)
          try simp only [Act.put, List.setIfInBounds_toArray, List.set_cons_zero, List.set_cons_succ]
          refine wpAnyE_call (i := 5) (oi := { dst := some 31, op := Op.call { callee := Callee.value (Operand.func 61), args := #[Operand.tmp 27, Operand.tmp 30], argTypes := #[29, 3] }, type := 29, pos := "harmonic.go:219", after := #[{ on := 1, ground := Ground.data }, { on := 4, ground := Ground.data }], guard := none }) (fun w hE => TT.out w (hw.carry (bthen hbz hE))) rfl (by kernel_rfl) (by kernel_rfl) (by kernel_rfl) (by kernel_rfl) (fun _ _ _ h => h) (by rfl) (fun w hE => by (try dsimp only); go_simp) ?_
          try simp only [Act.put, List.setIfInBounds_toArray, List.set_cons_zero, List.set_cons_succ]
          refine wpAnyE_call (i := 6) (oi := { dst := some 32, op := Op.call { callee := Callee.value (Operand.func 60), args := #[Operand.tmp 26, Operand.tmp 31], argTypes := #[29, 29] }, type := 29, pos := "harmonic.go:219", after := #[{ on := 0, ground := Ground.data }, { on := 5, ground := Ground.data }, { on := 5, ground := Ground.chain }], guard := none }) (fun w hE => TPl.out w) rfl (by kernel_rfl) (by kernel_rfl) (by kernel_rfl) (by kernel_rfl) (fun _ _ _ h => h) (by rfl) (fun w hE => by (try dsimp only); go_simp) ?_
          try simp only [Act.put, List.setIfInBounds_toArray, List.set_cons_zero, List.set_cons_succ]
          refine wpAnyE_one (i := 7) (o := { dst := none, op := Op.store 29 (Operand.tmp 7) (Operand.tmp 32), type := 0, pos := "harmonic.go:219", after := #[{ on := 6, ground := Ground.data }, { on := 6, ground := Ground.chain }, { on := 0, ground := Ground.phase }, { on := 1, ground := Ground.phase }, { on := 2, ground := Ground.phase }, { on := 3, ground := Ground.phase }, { on := 4, ground := Ground.phase }, { on := 5, ground := Ground.phase }, { on := 6, ground := Ground.phase }], guard := none }) (by kernel_rfl) rfl (fun wy1 hE K hK => ?_)
          have a0 := cellb a0 hE
          have a1 := cellb a1 hE
          have a2 := cellb a2 hE
          have a3 := cellb a3 hE
          have b0 := cellb b0 hE
          have b1 := cellb b1 hE
          have b2 := cellb b2 hE
          have b3 := cellb b3 hE
          have i1 := i1.carry hE
          have i2 := i2.carry hE
          have i5 := i5.carry hE
          have i7' := i7'.carry hE
          have hbz1 := bthen hbz hE
          clear hE
          rw [if_pos (by rfl)]
          refine wp_storeA _ _ _ rfl G7 [n0, n1, n2, n3] [s0, s1, s2, s3] rfl rfl i7' rfl Tryz.infoCyH4 ?_
          obtain ⟨wx1, hwz⟩ : ∃ v, v = World.setRow wy1 G7 (ia [n0, n1, n2, n3]) := ⟨_, rfl⟩
          rw [← hwz]
          have hcz1 : Below w.heap.size w wx1 := by rw [hwz]; exact below_rowA hbz1 (by omega) _
          replace i7' := BlkI.setRowA i7' [n0, n1, n2, n3]
          rw [← hwz] at i7'
          replace i1 := BlkI.setRowO i1 (B' := G7) (by omega) (ia [n0, n1, n2, n3])
          rw [← hwz] at i1
          replace i2 := BlkI.setRowO i2 (B' := G7) (by omega) (ia [n0, n1, n2, n3])
          rw [← hwz] at i2
          replace i5 := BlkI.setRowO i5 (B' := G7) (by omega) (ia [n0, n1, n2, n3])
          rw [← hwz] at i5
          clear hwz
          refine hK _ _ (fun h => absurd rfl h) ?_
          clear hK K
          try simp only [Act.put, List.setIfInBounds_toArray, List.set_cons_zero, List.set_cons_succ]
          refine wpAnyE_done (by kernel_rfl) (fun wy2 hE => ?_) _
          have hbz2 := bthen hcz1 hE
          have i1 := i1.carry hE
          have i2 := i2.carry hE
          have i5 := i5.carry hE
          have i7' := i7'.carry hE
          clear hE
          have hB := hbz2
          obtain ⟨Y2, hY2⟩ : ∃ v, v = wy2 := ⟨_, rfl⟩
          rw [← hY2] at hB i1 i2 i5 i7' ⊢
          clear hY2
          clear e0 hg7 hg8 hG5
          go_wp2_with fail
          go_roundw
          case rel => exact ⟨h + 1, by omega, by go_num, by rw [HBSS.out]; exact i7', i5, i1, i2, hB⟩
          case measure => simp [intOf]; omega
        · obtain rfl : h = 12 := by omega
          rw [HBK.out k hlt] at i7
          have hx : -100 ≤ l[k]?.getD 0 ∧ l[k]?.getD 0 ≤ 100 := by
            rw [List.getElem?_eq_getElem (by rw [HL.out]; exact hlt)]; exact HLB.out _ (List.getElem_mem _)
          have hset := bkL_set l k hlt
          generalize l[k]?.getD 0 = x at i7 hx hset
          obtain ⟨y, hy⟩ : ∃ y, y = 12 * x := ⟨_, rfl⟩
          rw [← hy] at i7
          have e0 : IntKind.i64.wrap (y.tdiv 12) = x := by
            rw [hy, Int.mul_tdiv_cancel_left _ (by decide)]; exact IntWalk.i64_in _ (by omega)
          have e1 : IntKind.i64.wrap (x * 12) = y := (IntWalk.i64_in _ (by omega)).trans (by omega)
          have hne := fun W => neqCyH y y rfl W
          have HSET := Lib.hid hset
          clear hset hy
          have b0 : wr.cell? ⟨G7, 0, none⟩ = some (.int .i64 y) := BlkI.cell (l := [y, 0, 0, 0]) i7 (j := 0) (by simp)
          have b1 : wr.cell? ⟨G7, 1, none⟩ = some (.int .i64 0) := BlkI.cell (l := [y, 0, 0, 0]) i7 (j := 1) (by simp)
          have b2 : wr.cell? ⟨G7, 2, none⟩ = some (.int .i64 0) := BlkI.cell (l := [y, 0, 0, 0]) i7 (j := 2) (by simp)
          have b3 : wr.cell? ⟨G7, 3, none⟩ = some (.int .i64 0) := BlkI.cell (l := [y, 0, 0, 0]) i7 (j := 3) (by simp)
          have c5 := BlkI.cell i5 (j := k) (by rw [upto_length]; exact hlt)
          have f5 := Blk.frozen i5 k
          generalize (upto (bkL l k) 12)[k]?.getD 0 = old at c5
          have hz2 : w.heap.size + 1 ≠ G5 := by have := HG5.out.1; omega
          have hz1 : w.heap.size ≠ G5 := by have := HG5.out.1; omega
          go_wp2_with fail
          have i5' := BlkI.set i5 k x
          rw [HSET.out] at i5'
          go_roundw
          case rel => exact ⟨k + 1, by omega, by go_num, i5', i1.other (B' := G5) (j := k) hz1 _, i2.other (B' := G5) (j := k) hz2 _, hB.setCell (by exact HG5.out.2) _⟩
          case measure => simp [intOf]; omega
    · obtain rfl : k = 12 := by omega
      rw [bkL_all HL.out] at i5
      have hld := load12 HL.out i5
      go_wp2_with (refine wpList_load rfl _ _ rfl hld ?_)
      refine (TP.out wr).mono ?_
      rintro e W9 ⟨rfl, hb⟩
      clear hld
      replace i5 := i5.carry hb
      replace i2 := i2.carry hb
      replace hB := bthen hB hb
      clear hb
      have hld := load12 HL.out i5
      go_wp2_with (first | refine wpList_load rfl _ _ rfl hld ?_ | refine wpList_storeA rfl _ _ _ rfl (w.heap.size + 1) l (List.replicate 12 0) rfl rfl i2 (by rw [HL.out]; rfl) (by rw [HL.out]; exact Tryz.infoA12) ?_)
      have i9 := BlkI.setRowA i2 l
      have hld9 := Tryz.loadVar12 HL.out i9
      exact bodyPost_ret (v := .tuple #[.agg (ia l), .int .i64 0]) (results_cell_tmp (p := 2) (q := 3) rfl _ _ (w.heap.size + 1) _ rfl _ rfl hld9) rfl ⟨rfl, below_rowA hB (by omega) _⟩
end

section
set_option linter.unusedSimpArgs false
set_option linter.unusedVariables false
open Go.RowKit

/-- the strength of an order of a pattern. -/
def strS (l : List Int) (h : Nat) : Int × Int := stC (orderC l (h : Int))
theorem strS_nrm {l : List Int} (hl : ∀ x ∈ l, -100 ≤ x ∧ x ≤ 100) (h : Nat) : strS l h = nrm (orderC l (h : Int)) := st_nrm ((order_all hl (h : Int)).mono (by decide))
/-- sums over the orders and over the levels, so far. -/
def sumA (l : List Int) : Nat → Int
  | 0 => 0
  | k + 1 => sumA l k + (strS l k).1
def sumB (l : List Int) : Nat → Int
  | 0 => 0
  | k + 1 => sumB l k + (strS l k).2
def sumQ (l : List Int) : Nat → Int
  | 0 => 0
  | k + 1 => sumQ l k + l[k]?.getD 0 * l[k]?.getD 0
theorem twelve {l : List Int} (hl : l.length = 12) : ∃ a0 a1 a2 a3 a4 a5 a6 a7 a8 a9 a10 a11 : Int, l = [a0, a1, a2, a3, a4, a5, a6, a7, a8, a9, a10, a11] := by
  match l, hl with
  | [a0, a1, a2, a3, a4, a5, a6, a7, a8, a9, a10, a11], _ => exact ⟨a0, a1, a2, a3, a4, a5, a6, a7, a8, a9, a10, a11, rfl⟩

theorem strS_0 {a0 a1 a2 a3 a4 a5 a6 a7 a8 a9 a10 a11 : Int} (h0 : -100 ≤ a0 ∧ a0 ≤ 100) (h1 : -100 ≤ a1 ∧ a1 ≤ 100) (h2 : -100 ≤ a2 ∧ a2 ≤ 100) (h3 : -100 ≤ a3 ∧ a3 ≤ 100) (h4 : -100 ≤ a4 ∧ a4 ≤ 100) (h5 : -100 ≤ a5 ∧ a5 ≤ 100) (h6 : -100 ≤ a6 ∧ a6 ≤ 100) (h7 : -100 ≤ a7 ∧ a7 ≤ 100) (h8 : -100 ≤ a8 ∧ a8 ≤ 100) (h9 : -100 ≤ a9 ∧ a9 ≤ 100) (h10 : -100 ≤ a10 ∧ a10 ≤ 100) (h11 : -100 ≤ a11 ∧ a11 ≤ 100) : strS [a0, a1, a2, a3, a4, a5, a6, a7, a8, a9, a10, a11] 0 = nrm (ord0 a0 a1 a2 a3 a4 a5 a6 a7 a8 a9 a10 a11) := by
  rw [strS_nrm (mem12 h0 h1 h2 h3 h4 h5 h6 h7 h8 h9 h10 h11)]
  congr 1
  exact ord0_eq h0 h1 h2 h3 h4 h5 h6 h7 h8 h9 h10 h11
theorem strS_1 {a0 a1 a2 a3 a4 a5 a6 a7 a8 a9 a10 a11 : Int} (h0 : -100 ≤ a0 ∧ a0 ≤ 100) (h1 : -100 ≤ a1 ∧ a1 ≤ 100) (h2 : -100 ≤ a2 ∧ a2 ≤ 100) (h3 : -100 ≤ a3 ∧ a3 ≤ 100) (h4 : -100 ≤ a4 ∧ a4 ≤ 100) (h5 : -100 ≤ a5 ∧ a5 ≤ 100) (h6 : -100 ≤ a6 ∧ a6 ≤ 100) (h7 : -100 ≤ a7 ∧ a7 ≤ 100) (h8 : -100 ≤ a8 ∧ a8 ≤ 100) (h9 : -100 ≤ a9 ∧ a9 ≤ 100) (h10 : -100 ≤ a10 ∧ a10 ≤ 100) (h11 : -100 ≤ a11 ∧ a11 ≤ 100) : strS [a0, a1, a2, a3, a4, a5, a6, a7, a8, a9, a10, a11] 1 = nrm (ord1 a0 a1 a2 a3 a4 a5 a6 a7 a8 a9 a10 a11) := by
  rw [strS_nrm (mem12 h0 h1 h2 h3 h4 h5 h6 h7 h8 h9 h10 h11)]
  congr 1
  exact ord1_eq h0 h1 h2 h3 h4 h5 h6 h7 h8 h9 h10 h11
theorem strS_2 {a0 a1 a2 a3 a4 a5 a6 a7 a8 a9 a10 a11 : Int} (h0 : -100 ≤ a0 ∧ a0 ≤ 100) (h1 : -100 ≤ a1 ∧ a1 ≤ 100) (h2 : -100 ≤ a2 ∧ a2 ≤ 100) (h3 : -100 ≤ a3 ∧ a3 ≤ 100) (h4 : -100 ≤ a4 ∧ a4 ≤ 100) (h5 : -100 ≤ a5 ∧ a5 ≤ 100) (h6 : -100 ≤ a6 ∧ a6 ≤ 100) (h7 : -100 ≤ a7 ∧ a7 ≤ 100) (h8 : -100 ≤ a8 ∧ a8 ≤ 100) (h9 : -100 ≤ a9 ∧ a9 ≤ 100) (h10 : -100 ≤ a10 ∧ a10 ≤ 100) (h11 : -100 ≤ a11 ∧ a11 ≤ 100) : strS [a0, a1, a2, a3, a4, a5, a6, a7, a8, a9, a10, a11] 2 = nrm (ord2 a0 a1 a2 a3 a4 a5 a6 a7 a8 a9 a10 a11) := by
  rw [strS_nrm (mem12 h0 h1 h2 h3 h4 h5 h6 h7 h8 h9 h10 h11)]
  congr 1
  exact ord2_eq h0 h1 h2 h3 h4 h5 h6 h7 h8 h9 h10 h11
theorem strS_3 {a0 a1 a2 a3 a4 a5 a6 a7 a8 a9 a10 a11 : Int} (h0 : -100 ≤ a0 ∧ a0 ≤ 100) (h1 : -100 ≤ a1 ∧ a1 ≤ 100) (h2 : -100 ≤ a2 ∧ a2 ≤ 100) (h3 : -100 ≤ a3 ∧ a3 ≤ 100) (h4 : -100 ≤ a4 ∧ a4 ≤ 100) (h5 : -100 ≤ a5 ∧ a5 ≤ 100) (h6 : -100 ≤ a6 ∧ a6 ≤ 100) (h7 : -100 ≤ a7 ∧ a7 ≤ 100) (h8 : -100 ≤ a8 ∧ a8 ≤ 100) (h9 : -100 ≤ a9 ∧ a9 ≤ 100) (h10 : -100 ≤ a10 ∧ a10 ≤ 100) (h11 : -100 ≤ a11 ∧ a11 ≤ 100) : strS [a0, a1, a2, a3, a4, a5, a6, a7, a8, a9, a10, a11] 3 = nrm (ord3 a0 a1 a2 a3 a4 a5 a6 a7 a8 a9 a10 a11) := by
  rw [strS_nrm (mem12 h0 h1 h2 h3 h4 h5 h6 h7 h8 h9 h10 h11)]
  congr 1
  exact ord3_eq h0 h1 h2 h3 h4 h5 h6 h7 h8 h9 h10 h11
theorem strS_4 {a0 a1 a2 a3 a4 a5 a6 a7 a8 a9 a10 a11 : Int} (h0 : -100 ≤ a0 ∧ a0 ≤ 100) (h1 : -100 ≤ a1 ∧ a1 ≤ 100) (h2 : -100 ≤ a2 ∧ a2 ≤ 100) (h3 : -100 ≤ a3 ∧ a3 ≤ 100) (h4 : -100 ≤ a4 ∧ a4 ≤ 100) (h5 : -100 ≤ a5 ∧ a5 ≤ 100) (h6 : -100 ≤ a6 ∧ a6 ≤ 100) (h7 : -100 ≤ a7 ∧ a7 ≤ 100) (h8 : -100 ≤ a8 ∧ a8 ≤ 100) (h9 : -100 ≤ a9 ∧ a9 ≤ 100) (h10 : -100 ≤ a10 ∧ a10 ≤ 100) (h11 : -100 ≤ a11 ∧ a11 ≤ 100) : strS [a0, a1, a2, a3, a4, a5, a6, a7, a8, a9, a10, a11] 4 = nrm (ord4 a0 a1 a2 a3 a4 a5 a6 a7 a8 a9 a10 a11) := by
  rw [strS_nrm (mem12 h0 h1 h2 h3 h4 h5 h6 h7 h8 h9 h10 h11)]
  congr 1
  exact ord4_eq h0 h1 h2 h3 h4 h5 h6 h7 h8 h9 h10 h11
theorem strS_5 {a0 a1 a2 a3 a4 a5 a6 a7 a8 a9 a10 a11 : Int} (h0 : -100 ≤ a0 ∧ a0 ≤ 100) (h1 : -100 ≤ a1 ∧ a1 ≤ 100) (h2 : -100 ≤ a2 ∧ a2 ≤ 100) (h3 : -100 ≤ a3 ∧ a3 ≤ 100) (h4 : -100 ≤ a4 ∧ a4 ≤ 100) (h5 : -100 ≤ a5 ∧ a5 ≤ 100) (h6 : -100 ≤ a6 ∧ a6 ≤ 100) (h7 : -100 ≤ a7 ∧ a7 ≤ 100) (h8 : -100 ≤ a8 ∧ a8 ≤ 100) (h9 : -100 ≤ a9 ∧ a9 ≤ 100) (h10 : -100 ≤ a10 ∧ a10 ≤ 100) (h11 : -100 ≤ a11 ∧ a11 ≤ 100) : strS [a0, a1, a2, a3, a4, a5, a6, a7, a8, a9, a10, a11] 5 = nrm (ord5 a0 a1 a2 a3 a4 a5 a6 a7 a8 a9 a10 a11) := by
  rw [strS_nrm (mem12 h0 h1 h2 h3 h4 h5 h6 h7 h8 h9 h10 h11)]
  congr 1
  exact ord5_eq h0 h1 h2 h3 h4 h5 h6 h7 h8 h9 h10 h11
theorem strS_6 {a0 a1 a2 a3 a4 a5 a6 a7 a8 a9 a10 a11 : Int} (h0 : -100 ≤ a0 ∧ a0 ≤ 100) (h1 : -100 ≤ a1 ∧ a1 ≤ 100) (h2 : -100 ≤ a2 ∧ a2 ≤ 100) (h3 : -100 ≤ a3 ∧ a3 ≤ 100) (h4 : -100 ≤ a4 ∧ a4 ≤ 100) (h5 : -100 ≤ a5 ∧ a5 ≤ 100) (h6 : -100 ≤ a6 ∧ a6 ≤ 100) (h7 : -100 ≤ a7 ∧ a7 ≤ 100) (h8 : -100 ≤ a8 ∧ a8 ≤ 100) (h9 : -100 ≤ a9 ∧ a9 ≤ 100) (h10 : -100 ≤ a10 ∧ a10 ≤ 100) (h11 : -100 ≤ a11 ∧ a11 ≤ 100) : strS [a0, a1, a2, a3, a4, a5, a6, a7, a8, a9, a10, a11] 6 = nrm (ord6 a0 a1 a2 a3 a4 a5 a6 a7 a8 a9 a10 a11) := by
  rw [strS_nrm (mem12 h0 h1 h2 h3 h4 h5 h6 h7 h8 h9 h10 h11)]
  congr 1
  exact ord6_eq h0 h1 h2 h3 h4 h5 h6 h7 h8 h9 h10 h11
theorem strS_7 {a0 a1 a2 a3 a4 a5 a6 a7 a8 a9 a10 a11 : Int} (h0 : -100 ≤ a0 ∧ a0 ≤ 100) (h1 : -100 ≤ a1 ∧ a1 ≤ 100) (h2 : -100 ≤ a2 ∧ a2 ≤ 100) (h3 : -100 ≤ a3 ∧ a3 ≤ 100) (h4 : -100 ≤ a4 ∧ a4 ≤ 100) (h5 : -100 ≤ a5 ∧ a5 ≤ 100) (h6 : -100 ≤ a6 ∧ a6 ≤ 100) (h7 : -100 ≤ a7 ∧ a7 ≤ 100) (h8 : -100 ≤ a8 ∧ a8 ≤ 100) (h9 : -100 ≤ a9 ∧ a9 ≤ 100) (h10 : -100 ≤ a10 ∧ a10 ≤ 100) (h11 : -100 ≤ a11 ∧ a11 ≤ 100) : strS [a0, a1, a2, a3, a4, a5, a6, a7, a8, a9, a10, a11] 7 = nrm (ord7 a0 a1 a2 a3 a4 a5 a6 a7 a8 a9 a10 a11) := by
  rw [strS_nrm (mem12 h0 h1 h2 h3 h4 h5 h6 h7 h8 h9 h10 h11)]
  congr 1
  exact ord7_eq h0 h1 h2 h3 h4 h5 h6 h7 h8 h9 h10 h11
theorem strS_8 {a0 a1 a2 a3 a4 a5 a6 a7 a8 a9 a10 a11 : Int} (h0 : -100 ≤ a0 ∧ a0 ≤ 100) (h1 : -100 ≤ a1 ∧ a1 ≤ 100) (h2 : -100 ≤ a2 ∧ a2 ≤ 100) (h3 : -100 ≤ a3 ∧ a3 ≤ 100) (h4 : -100 ≤ a4 ∧ a4 ≤ 100) (h5 : -100 ≤ a5 ∧ a5 ≤ 100) (h6 : -100 ≤ a6 ∧ a6 ≤ 100) (h7 : -100 ≤ a7 ∧ a7 ≤ 100) (h8 : -100 ≤ a8 ∧ a8 ≤ 100) (h9 : -100 ≤ a9 ∧ a9 ≤ 100) (h10 : -100 ≤ a10 ∧ a10 ≤ 100) (h11 : -100 ≤ a11 ∧ a11 ≤ 100) : strS [a0, a1, a2, a3, a4, a5, a6, a7, a8, a9, a10, a11] 8 = nrm (ord8 a0 a1 a2 a3 a4 a5 a6 a7 a8 a9 a10 a11) := by
  rw [strS_nrm (mem12 h0 h1 h2 h3 h4 h5 h6 h7 h8 h9 h10 h11)]
  congr 1
  exact ord8_eq h0 h1 h2 h3 h4 h5 h6 h7 h8 h9 h10 h11
theorem strS_9 {a0 a1 a2 a3 a4 a5 a6 a7 a8 a9 a10 a11 : Int} (h0 : -100 ≤ a0 ∧ a0 ≤ 100) (h1 : -100 ≤ a1 ∧ a1 ≤ 100) (h2 : -100 ≤ a2 ∧ a2 ≤ 100) (h3 : -100 ≤ a3 ∧ a3 ≤ 100) (h4 : -100 ≤ a4 ∧ a4 ≤ 100) (h5 : -100 ≤ a5 ∧ a5 ≤ 100) (h6 : -100 ≤ a6 ∧ a6 ≤ 100) (h7 : -100 ≤ a7 ∧ a7 ≤ 100) (h8 : -100 ≤ a8 ∧ a8 ≤ 100) (h9 : -100 ≤ a9 ∧ a9 ≤ 100) (h10 : -100 ≤ a10 ∧ a10 ≤ 100) (h11 : -100 ≤ a11 ∧ a11 ≤ 100) : strS [a0, a1, a2, a3, a4, a5, a6, a7, a8, a9, a10, a11] 9 = nrm (ord9 a0 a1 a2 a3 a4 a5 a6 a7 a8 a9 a10 a11) := by
  rw [strS_nrm (mem12 h0 h1 h2 h3 h4 h5 h6 h7 h8 h9 h10 h11)]
  congr 1
  exact ord9_eq h0 h1 h2 h3 h4 h5 h6 h7 h8 h9 h10 h11
theorem strS_10 {a0 a1 a2 a3 a4 a5 a6 a7 a8 a9 a10 a11 : Int} (h0 : -100 ≤ a0 ∧ a0 ≤ 100) (h1 : -100 ≤ a1 ∧ a1 ≤ 100) (h2 : -100 ≤ a2 ∧ a2 ≤ 100) (h3 : -100 ≤ a3 ∧ a3 ≤ 100) (h4 : -100 ≤ a4 ∧ a4 ≤ 100) (h5 : -100 ≤ a5 ∧ a5 ≤ 100) (h6 : -100 ≤ a6 ∧ a6 ≤ 100) (h7 : -100 ≤ a7 ∧ a7 ≤ 100) (h8 : -100 ≤ a8 ∧ a8 ≤ 100) (h9 : -100 ≤ a9 ∧ a9 ≤ 100) (h10 : -100 ≤ a10 ∧ a10 ≤ 100) (h11 : -100 ≤ a11 ∧ a11 ≤ 100) : strS [a0, a1, a2, a3, a4, a5, a6, a7, a8, a9, a10, a11] 10 = nrm (ord10 a0 a1 a2 a3 a4 a5 a6 a7 a8 a9 a10 a11) := by
  rw [strS_nrm (mem12 h0 h1 h2 h3 h4 h5 h6 h7 h8 h9 h10 h11)]
  congr 1
  exact ord10_eq h0 h1 h2 h3 h4 h5 h6 h7 h8 h9 h10 h11
theorem strS_11 {a0 a1 a2 a3 a4 a5 a6 a7 a8 a9 a10 a11 : Int} (h0 : -100 ≤ a0 ∧ a0 ≤ 100) (h1 : -100 ≤ a1 ∧ a1 ≤ 100) (h2 : -100 ≤ a2 ∧ a2 ≤ 100) (h3 : -100 ≤ a3 ∧ a3 ≤ 100) (h4 : -100 ≤ a4 ∧ a4 ≤ 100) (h5 : -100 ≤ a5 ∧ a5 ≤ 100) (h6 : -100 ≤ a6 ∧ a6 ≤ 100) (h7 : -100 ≤ a7 ∧ a7 ≤ 100) (h8 : -100 ≤ a8 ∧ a8 ≤ 100) (h9 : -100 ≤ a9 ∧ a9 ≤ 100) (h10 : -100 ≤ a10 ∧ a10 ≤ 100) (h11 : -100 ≤ a11 ∧ a11 ≤ 100) : strS [a0, a1, a2, a3, a4, a5, a6, a7, a8, a9, a10, a11] 11 = nrm (ord11 a0 a1 a2 a3 a4 a5 a6 a7 a8 a9 a10 a11) := by
  rw [strS_nrm (mem12 h0 h1 h2 h3 h4 h5 h6 h7 h8 h9 h10 h11)]
  congr 1
  exact ord11_eq h0 h1 h2 h3 h4 h5 h6 h7 h8 h9 h10 h11
theorem str_conj {l : List Int} (hl : l.length = 12) (hb : ∀ x ∈ l, -100 ≤ x ∧ x ≤ 100) : strS l 5 = ((strS l 1).1, -(strS l 1).2) := by
  obtain ⟨a0, a1, a2, a3, a4, a5, a6, a7, a8, a9, a10, a11, rfl⟩ := twelve hl
  have h0 := hb a0 (by simp)
  have h1 := hb a1 (by simp)
  have h2 := hb a2 (by simp)
  have h3 := hb a3 (by simp)
  have h4 := hb a4 (by simp)
  have h5 := hb a5 (by simp)
  have h6 := hb a6 (by simp)
  have h7 := hb a7 (by simp)
  have h8 := hb a8 (by simp)
  have h9 := hb a9 (by simp)
  have h10 := hb a10 (by simp)
  have h11 := hb a11 (by simp)
  rw [strS_5 h0 h1 h2 h3 h4 h5 h6 h7 h8 h9 h10 h11, strS_1 h0 h1 h2 h3 h4 h5 h6 h7 h8 h9 h10 h11]
  exact nrm_conj a0 a1 a2 a3 a4 a5 a6 a7 a8 a9 a10 a11
theorem str_sym {l : List Int} (hl : l.length = 12) (hb : ∀ x ∈ l, -100 ≤ x ∧ x ≤ 100) (h : Nat) (p1 : 1 ≤ h) (p11 : h ≤ 11) : strS l h = strS l (12 - h) := by
  obtain ⟨a0, a1, a2, a3, a4, a5, a6, a7, a8, a9, a10, a11, rfl⟩ := twelve hl
  have h0 := hb a0 (by simp)
  have h1 := hb a1 (by simp)
  have h2 := hb a2 (by simp)
  have h3 := hb a3 (by simp)
  have h4 := hb a4 (by simp)
  have h5 := hb a5 (by simp)
  have h6 := hb a6 (by simp)
  have h7 := hb a7 (by simp)
  have h8 := hb a8 (by simp)
  have h9 := hb a9 (by simp)
  have h10 := hb a10 (by simp)
  have h11 := hb a11 (by simp)
  obtain rfl | rfl | rfl | rfl | rfl | rfl | rfl | rfl | rfl | rfl | rfl : h = 1 ∨ h = 2 ∨ h = 3 ∨ h = 4 ∨ h = 5 ∨ h = 6 ∨ h = 7 ∨ h = 8 ∨ h = 9 ∨ h = 10 ∨ h = 11 := by omega
  · show strS _ 1 = strS _ 11; rw [strS_1 h0 h1 h2 h3 h4 h5 h6 h7 h8 h9 h10 h11, strS_11 h0 h1 h2 h3 h4 h5 h6 h7 h8 h9 h10 h11]; exact nrm_sym1 a0 a1 a2 a3 a4 a5 a6 a7 a8 a9 a10 a11
  · show strS _ 2 = strS _ 10; rw [strS_2 h0 h1 h2 h3 h4 h5 h6 h7 h8 h9 h10 h11, strS_10 h0 h1 h2 h3 h4 h5 h6 h7 h8 h9 h10 h11]; exact nrm_sym2 a0 a1 a2 a3 a4 a5 a6 a7 a8 a9 a10 a11
  · show strS _ 3 = strS _ 9; rw [strS_3 h0 h1 h2 h3 h4 h5 h6 h7 h8 h9 h10 h11, strS_9 h0 h1 h2 h3 h4 h5 h6 h7 h8 h9 h10 h11]; exact nrm_sym3 a0 a1 a2 a3 a4 a5 a6 a7 a8 a9 a10 a11
  · show strS _ 4 = strS _ 8; rw [strS_4 h0 h1 h2 h3 h4 h5 h6 h7 h8 h9 h10 h11, strS_8 h0 h1 h2 h3 h4 h5 h6 h7 h8 h9 h10 h11]; exact nrm_sym4 a0 a1 a2 a3 a4 a5 a6 a7 a8 a9 a10 a11
  · show strS _ 5 = strS _ 7; rw [strS_5 h0 h1 h2 h3 h4 h5 h6 h7 h8 h9 h10 h11, strS_7 h0 h1 h2 h3 h4 h5 h6 h7 h8 h9 h10 h11]; exact nrm_sym5 a0 a1 a2 a3 a4 a5 a6 a7 a8 a9 a10 a11
  · show strS _ 6 = strS _ 6; rfl
  · show strS _ 7 = strS _ 5; rw [strS_7 h0 h1 h2 h3 h4 h5 h6 h7 h8 h9 h10 h11, strS_5 h0 h1 h2 h3 h4 h5 h6 h7 h8 h9 h10 h11]; exact (nrm_sym5 a0 a1 a2 a3 a4 a5 a6 a7 a8 a9 a10 a11).symm
  · show strS _ 8 = strS _ 4; rw [strS_8 h0 h1 h2 h3 h4 h5 h6 h7 h8 h9 h10 h11, strS_4 h0 h1 h2 h3 h4 h5 h6 h7 h8 h9 h10 h11]; exact (nrm_sym4 a0 a1 a2 a3 a4 a5 a6 a7 a8 a9 a10 a11).symm
  · show strS _ 9 = strS _ 3; rw [strS_9 h0 h1 h2 h3 h4 h5 h6 h7 h8 h9 h10 h11, strS_3 h0 h1 h2 h3 h4 h5 h6 h7 h8 h9 h10 h11]; exact (nrm_sym3 a0 a1 a2 a3 a4 a5 a6 a7 a8 a9 a10 a11).symm
  · show strS _ 10 = strS _ 2; rw [strS_10 h0 h1 h2 h3 h4 h5 h6 h7 h8 h9 h10 h11, strS_2 h0 h1 h2 h3 h4 h5 h6 h7 h8 h9 h10 h11]; exact (nrm_sym2 a0 a1 a2 a3 a4 a5 a6 a7 a8 a9 a10 a11).symm
  · show strS _ 11 = strS _ 1; rw [strS_11 h0 h1 h2 h3 h4 h5 h6 h7 h8 h9 h10 h11, strS_1 h0 h1 h2 h3 h4 h5 h6 h7 h8 h9 h10 h11]; exact (nrm_sym1 a0 a1 a2 a3 a4 a5 a6 a7 a8 a9 a10 a11).symm
theorem str_sumA {l : List Int} (hl : l.length = 12) (hb : ∀ x ∈ l, -100 ≤ x ∧ x ≤ 100) : sumA l 12 = 12 * sumQ l 12 := by
  obtain ⟨a0, a1, a2, a3, a4, a5, a6, a7, a8, a9, a10, a11, rfl⟩ := twelve hl
  have h0 := hb a0 (by simp)
  have h1 := hb a1 (by simp)
  have h2 := hb a2 (by simp)
  have h3 := hb a3 (by simp)
  have h4 := hb a4 (by simp)
  have h5 := hb a5 (by simp)
  have h6 := hb a6 (by simp)
  have h7 := hb a7 (by simp)
  have h8 := hb a8 (by simp)
  have h9 := hb a9 (by simp)
  have h10 := hb a10 (by simp)
  have h11 := hb a11 (by simp)
  have e := nrm_sum a0 a1 a2 a3 a4 a5 a6 a7 a8 a9 a10 a11
  show 0 + (strS [a0, a1, a2, a3, a4, a5, a6, a7, a8, a9, a10, a11] 0).1 + (strS [a0, a1, a2, a3, a4, a5, a6, a7, a8, a9, a10, a11] 1).1 + (strS [a0, a1, a2, a3, a4, a5, a6, a7, a8, a9, a10, a11] 2).1 + (strS [a0, a1, a2, a3, a4, a5, a6, a7, a8, a9, a10, a11] 3).1 + (strS [a0, a1, a2, a3, a4, a5, a6, a7, a8, a9, a10, a11] 4).1 + (strS [a0, a1, a2, a3, a4, a5, a6, a7, a8, a9, a10, a11] 5).1 + (strS [a0, a1, a2, a3, a4, a5, a6, a7, a8, a9, a10, a11] 6).1 + (strS [a0, a1, a2, a3, a4, a5, a6, a7, a8, a9, a10, a11] 7).1 + (strS [a0, a1, a2, a3, a4, a5, a6, a7, a8, a9, a10, a11] 8).1 + (strS [a0, a1, a2, a3, a4, a5, a6, a7, a8, a9, a10, a11] 9).1 + (strS [a0, a1, a2, a3, a4, a5, a6, a7, a8, a9, a10, a11] 10).1 + (strS [a0, a1, a2, a3, a4, a5, a6, a7, a8, a9, a10, a11] 11).1 = 12 * (0 + a0 * a0 + a1 * a1 + a2 * a2 + a3 * a3 + a4 * a4 + a5 * a5 + a6 * a6 + a7 * a7 + a8 * a8 + a9 * a9 + a10 * a10 + a11 * a11)
  rw [strS_0 h0 h1 h2 h3 h4 h5 h6 h7 h8 h9 h10 h11, strS_1 h0 h1 h2 h3 h4 h5 h6 h7 h8 h9 h10 h11, strS_2 h0 h1 h2 h3 h4 h5 h6 h7 h8 h9 h10 h11, strS_3 h0 h1 h2 h3 h4 h5 h6 h7 h8 h9 h10 h11, strS_4 h0 h1 h2 h3 h4 h5 h6 h7 h8 h9 h10 h11, strS_5 h0 h1 h2 h3 h4 h5 h6 h7 h8 h9 h10 h11, strS_6 h0 h1 h2 h3 h4 h5 h6 h7 h8 h9 h10 h11, strS_7 h0 h1 h2 h3 h4 h5 h6 h7 h8 h9 h10 h11, strS_8 h0 h1 h2 h3 h4 h5 h6 h7 h8 h9 h10 h11, strS_9 h0 h1 h2 h3 h4 h5 h6 h7 h8 h9 h10 h11, strS_10 h0 h1 h2 h3 h4 h5 h6 h7 h8 h9 h10 h11, strS_11 h0 h1 h2 h3 h4 h5 h6 h7 h8 h9 h10 h11]
  omega
theorem str_sumB {l : List Int} (hl : l.length = 12) (hb : ∀ x ∈ l, -100 ≤ x ∧ x ≤ 100) : sumB l 12 = 0 := by
  obtain ⟨a0, a1, a2, a3, a4, a5, a6, a7, a8, a9, a10, a11, rfl⟩ := twelve hl
  have h0 := hb a0 (by simp)
  have h1 := hb a1 (by simp)
  have h2 := hb a2 (by simp)
  have h3 := hb a3 (by simp)
  have h4 := hb a4 (by simp)
  have h5 := hb a5 (by simp)
  have h6 := hb a6 (by simp)
  have h7 := hb a7 (by simp)
  have h8 := hb a8 (by simp)
  have h9 := hb a9 (by simp)
  have h10 := hb a10 (by simp)
  have h11 := hb a11 (by simp)
  have e := nrm_sumr a0 a1 a2 a3 a4 a5 a6 a7 a8 a9 a10 a11
  show 0 + (strS [a0, a1, a2, a3, a4, a5, a6, a7, a8, a9, a10, a11] 0).2 + (strS [a0, a1, a2, a3, a4, a5, a6, a7, a8, a9, a10, a11] 1).2 + (strS [a0, a1, a2, a3, a4, a5, a6, a7, a8, a9, a10, a11] 2).2 + (strS [a0, a1, a2, a3, a4, a5, a6, a7, a8, a9, a10, a11] 3).2 + (strS [a0, a1, a2, a3, a4, a5, a6, a7, a8, a9, a10, a11] 4).2 + (strS [a0, a1, a2, a3, a4, a5, a6, a7, a8, a9, a10, a11] 5).2 + (strS [a0, a1, a2, a3, a4, a5, a6, a7, a8, a9, a10, a11] 6).2 + (strS [a0, a1, a2, a3, a4, a5, a6, a7, a8, a9, a10, a11] 7).2 + (strS [a0, a1, a2, a3, a4, a5, a6, a7, a8, a9, a10, a11] 8).2 + (strS [a0, a1, a2, a3, a4, a5, a6, a7, a8, a9, a10, a11] 9).2 + (strS [a0, a1, a2, a3, a4, a5, a6, a7, a8, a9, a10, a11] 10).2 + (strS [a0, a1, a2, a3, a4, a5, a6, a7, a8, a9, a10, a11] 11).2 = 0
  rw [strS_0 h0 h1 h2 h3 h4 h5 h6 h7 h8 h9 h10 h11, strS_1 h0 h1 h2 h3 h4 h5 h6 h7 h8 h9 h10 h11, strS_2 h0 h1 h2 h3 h4 h5 h6 h7 h8 h9 h10 h11, strS_3 h0 h1 h2 h3 h4 h5 h6 h7 h8 h9 h10 h11, strS_4 h0 h1 h2 h3 h4 h5 h6 h7 h8 h9 h10 h11, strS_5 h0 h1 h2 h3 h4 h5 h6 h7 h8 h9 h10 h11, strS_6 h0 h1 h2 h3 h4 h5 h6 h7 h8 h9 h10 h11, strS_7 h0 h1 h2 h3 h4 h5 h6 h7 h8 h9 h10 h11, strS_8 h0 h1 h2 h3 h4 h5 h6 h7 h8 h9 h10 h11, strS_9 h0 h1 h2 h3 h4 h5 h6 h7 h8 h9 h10 h11, strS_10 h0 h1 h2 h3 h4 h5 h6 h7 h8 h9 h10 h11, strS_11 h0 h1 h2 h3 h4 h5 h6 h7 h8 h9 h10 h11]
  omega
theorem del_0 {a0 a1 a2 a3 a4 a5 a6 a7 a8 a9 a10 a11 : Int} {n : Int} (hs : n % 12 = 0) : delL [a0, a1, a2, a3, a4, a5, a6, a7, a8, a9, a10, a11] n = [a0, a1, a2, a3, a4, a5, a6, a7, a8, a9, a10, a11] := by
  have e0 : ((((0 : Nat) : Int) - n) % 12).toNat = 0 := by omega
  have e1 : ((((1 : Nat) : Int) - n) % 12).toNat = 1 := by omega
  have e2 : ((((2 : Nat) : Int) - n) % 12).toNat = 2 := by omega
  have e3 : ((((3 : Nat) : Int) - n) % 12).toNat = 3 := by omega
  have e4 : ((((4 : Nat) : Int) - n) % 12).toNat = 4 := by omega
  have e5 : ((((5 : Nat) : Int) - n) % 12).toNat = 5 := by omega
  have e6 : ((((6 : Nat) : Int) - n) % 12).toNat = 6 := by omega
  have e7 : ((((7 : Nat) : Int) - n) % 12).toNat = 7 := by omega
  have e8 : ((((8 : Nat) : Int) - n) % 12).toNat = 8 := by omega
  have e9 : ((((9 : Nat) : Int) - n) % 12).toNat = 9 := by omega
  have e10 : ((((10 : Nat) : Int) - n) % 12).toNat = 10 := by omega
  have e11 : ((((11 : Nat) : Int) - n) % 12).toNat = 11 := by omega
  show [([a0, a1, a2, a3, a4, a5, a6, a7, a8, a9, a10, a11] : List Int)[((((0 : Nat) : Int) - n) % 12).toNat]?.getD 0, ([a0, a1, a2, a3, a4, a5, a6, a7, a8, a9, a10, a11] : List Int)[((((1 : Nat) : Int) - n) % 12).toNat]?.getD 0, ([a0, a1, a2, a3, a4, a5, a6, a7, a8, a9, a10, a11] : List Int)[((((2 : Nat) : Int) - n) % 12).toNat]?.getD 0, ([a0, a1, a2, a3, a4, a5, a6, a7, a8, a9, a10, a11] : List Int)[((((3 : Nat) : Int) - n) % 12).toNat]?.getD 0, ([a0, a1, a2, a3, a4, a5, a6, a7, a8, a9, a10, a11] : List Int)[((((4 : Nat) : Int) - n) % 12).toNat]?.getD 0, ([a0, a1, a2, a3, a4, a5, a6, a7, a8, a9, a10, a11] : List Int)[((((5 : Nat) : Int) - n) % 12).toNat]?.getD 0, ([a0, a1, a2, a3, a4, a5, a6, a7, a8, a9, a10, a11] : List Int)[((((6 : Nat) : Int) - n) % 12).toNat]?.getD 0, ([a0, a1, a2, a3, a4, a5, a6, a7, a8, a9, a10, a11] : List Int)[((((7 : Nat) : Int) - n) % 12).toNat]?.getD 0, ([a0, a1, a2, a3, a4, a5, a6, a7, a8, a9, a10, a11] : List Int)[((((8 : Nat) : Int) - n) % 12).toNat]?.getD 0, ([a0, a1, a2, a3, a4, a5, a6, a7, a8, a9, a10, a11] : List Int)[((((9 : Nat) : Int) - n) % 12).toNat]?.getD 0, ([a0, a1, a2, a3, a4, a5, a6, a7, a8, a9, a10, a11] : List Int)[((((10 : Nat) : Int) - n) % 12).toNat]?.getD 0, ([a0, a1, a2, a3, a4, a5, a6, a7, a8, a9, a10, a11] : List Int)[((((11 : Nat) : Int) - n) % 12).toNat]?.getD 0] = _
  rw [e0, e1, e2, e3, e4, e5, e6, e7, e8, e9, e10, e11]
  rfl
theorem del_1 {a0 a1 a2 a3 a4 a5 a6 a7 a8 a9 a10 a11 : Int} {n : Int} (hs : n % 12 = 1) : delL [a0, a1, a2, a3, a4, a5, a6, a7, a8, a9, a10, a11] n = [a11, a0, a1, a2, a3, a4, a5, a6, a7, a8, a9, a10] := by
  have e0 : ((((0 : Nat) : Int) - n) % 12).toNat = 11 := by omega
  have e1 : ((((1 : Nat) : Int) - n) % 12).toNat = 0 := by omega
  have e2 : ((((2 : Nat) : Int) - n) % 12).toNat = 1 := by omega
  have e3 : ((((3 : Nat) : Int) - n) % 12).toNat = 2 := by omega
  have e4 : ((((4 : Nat) : Int) - n) % 12).toNat = 3 := by omega
  have e5 : ((((5 : Nat) : Int) - n) % 12).toNat = 4 := by omega
  have e6 : ((((6 : Nat) : Int) - n) % 12).toNat = 5 := by omega
  have e7 : ((((7 : Nat) : Int) - n) % 12).toNat = 6 := by omega
  have e8 : ((((8 : Nat) : Int) - n) % 12).toNat = 7 := by omega
  have e9 : ((((9 : Nat) : Int) - n) % 12).toNat = 8 := by omega
  have e10 : ((((10 : Nat) : Int) - n) % 12).toNat = 9 := by omega
  have e11 : ((((11 : Nat) : Int) - n) % 12).toNat = 10 := by omega
  show [([a0, a1, a2, a3, a4, a5, a6, a7, a8, a9, a10, a11] : List Int)[((((0 : Nat) : Int) - n) % 12).toNat]?.getD 0, ([a0, a1, a2, a3, a4, a5, a6, a7, a8, a9, a10, a11] : List Int)[((((1 : Nat) : Int) - n) % 12).toNat]?.getD 0, ([a0, a1, a2, a3, a4, a5, a6, a7, a8, a9, a10, a11] : List Int)[((((2 : Nat) : Int) - n) % 12).toNat]?.getD 0, ([a0, a1, a2, a3, a4, a5, a6, a7, a8, a9, a10, a11] : List Int)[((((3 : Nat) : Int) - n) % 12).toNat]?.getD 0, ([a0, a1, a2, a3, a4, a5, a6, a7, a8, a9, a10, a11] : List Int)[((((4 : Nat) : Int) - n) % 12).toNat]?.getD 0, ([a0, a1, a2, a3, a4, a5, a6, a7, a8, a9, a10, a11] : List Int)[((((5 : Nat) : Int) - n) % 12).toNat]?.getD 0, ([a0, a1, a2, a3, a4, a5, a6, a7, a8, a9, a10, a11] : List Int)[((((6 : Nat) : Int) - n) % 12).toNat]?.getD 0, ([a0, a1, a2, a3, a4, a5, a6, a7, a8, a9, a10, a11] : List Int)[((((7 : Nat) : Int) - n) % 12).toNat]?.getD 0, ([a0, a1, a2, a3, a4, a5, a6, a7, a8, a9, a10, a11] : List Int)[((((8 : Nat) : Int) - n) % 12).toNat]?.getD 0, ([a0, a1, a2, a3, a4, a5, a6, a7, a8, a9, a10, a11] : List Int)[((((9 : Nat) : Int) - n) % 12).toNat]?.getD 0, ([a0, a1, a2, a3, a4, a5, a6, a7, a8, a9, a10, a11] : List Int)[((((10 : Nat) : Int) - n) % 12).toNat]?.getD 0, ([a0, a1, a2, a3, a4, a5, a6, a7, a8, a9, a10, a11] : List Int)[((((11 : Nat) : Int) - n) % 12).toNat]?.getD 0] = _
  rw [e0, e1, e2, e3, e4, e5, e6, e7, e8, e9, e10, e11]
  rfl
theorem del_2 {a0 a1 a2 a3 a4 a5 a6 a7 a8 a9 a10 a11 : Int} {n : Int} (hs : n % 12 = 2) : delL [a0, a1, a2, a3, a4, a5, a6, a7, a8, a9, a10, a11] n = [a10, a11, a0, a1, a2, a3, a4, a5, a6, a7, a8, a9] := by
  have e0 : ((((0 : Nat) : Int) - n) % 12).toNat = 10 := by omega
  have e1 : ((((1 : Nat) : Int) - n) % 12).toNat = 11 := by omega
  have e2 : ((((2 : Nat) : Int) - n) % 12).toNat = 0 := by omega
  have e3 : ((((3 : Nat) : Int) - n) % 12).toNat = 1 := by omega
  have e4 : ((((4 : Nat) : Int) - n) % 12).toNat = 2 := by omega
  have e5 : ((((5 : Nat) : Int) - n) % 12).toNat = 3 := by omega
  have e6 : ((((6 : Nat) : Int) - n) % 12).toNat = 4 := by omega
  have e7 : ((((7 : Nat) : Int) - n) % 12).toNat = 5 := by omega
  have e8 : ((((8 : Nat) : Int) - n) % 12).toNat = 6 := by omega
  have e9 : ((((9 : Nat) : Int) - n) % 12).toNat = 7 := by omega
  have e10 : ((((10 : Nat) : Int) - n) % 12).toNat = 8 := by omega
  have e11 : ((((11 : Nat) : Int) - n) % 12).toNat = 9 := by omega
  show [([a0, a1, a2, a3, a4, a5, a6, a7, a8, a9, a10, a11] : List Int)[((((0 : Nat) : Int) - n) % 12).toNat]?.getD 0, ([a0, a1, a2, a3, a4, a5, a6, a7, a8, a9, a10, a11] : List Int)[((((1 : Nat) : Int) - n) % 12).toNat]?.getD 0, ([a0, a1, a2, a3, a4, a5, a6, a7, a8, a9, a10, a11] : List Int)[((((2 : Nat) : Int) - n) % 12).toNat]?.getD 0, ([a0, a1, a2, a3, a4, a5, a6, a7, a8, a9, a10, a11] : List Int)[((((3 : Nat) : Int) - n) % 12).toNat]?.getD 0, ([a0, a1, a2, a3, a4, a5, a6, a7, a8, a9, a10, a11] : List Int)[((((4 : Nat) : Int) - n) % 12).toNat]?.getD 0, ([a0, a1, a2, a3, a4, a5, a6, a7, a8, a9, a10, a11] : List Int)[((((5 : Nat) : Int) - n) % 12).toNat]?.getD 0, ([a0, a1, a2, a3, a4, a5, a6, a7, a8, a9, a10, a11] : List Int)[((((6 : Nat) : Int) - n) % 12).toNat]?.getD 0, ([a0, a1, a2, a3, a4, a5, a6, a7, a8, a9, a10, a11] : List Int)[((((7 : Nat) : Int) - n) % 12).toNat]?.getD 0, ([a0, a1, a2, a3, a4, a5, a6, a7, a8, a9, a10, a11] : List Int)[((((8 : Nat) : Int) - n) % 12).toNat]?.getD 0, ([a0, a1, a2, a3, a4, a5, a6, a7, a8, a9, a10, a11] : List Int)[((((9 : Nat) : Int) - n) % 12).toNat]?.getD 0, ([a0, a1, a2, a3, a4, a5, a6, a7, a8, a9, a10, a11] : List Int)[((((10 : Nat) : Int) - n) % 12).toNat]?.getD 0, ([a0, a1, a2, a3, a4, a5, a6, a7, a8, a9, a10, a11] : List Int)[((((11 : Nat) : Int) - n) % 12).toNat]?.getD 0] = _
  rw [e0, e1, e2, e3, e4, e5, e6, e7, e8, e9, e10, e11]
  rfl
theorem del_3 {a0 a1 a2 a3 a4 a5 a6 a7 a8 a9 a10 a11 : Int} {n : Int} (hs : n % 12 = 3) : delL [a0, a1, a2, a3, a4, a5, a6, a7, a8, a9, a10, a11] n = [a9, a10, a11, a0, a1, a2, a3, a4, a5, a6, a7, a8] := by
  have e0 : ((((0 : Nat) : Int) - n) % 12).toNat = 9 := by omega
  have e1 : ((((1 : Nat) : Int) - n) % 12).toNat = 10 := by omega
  have e2 : ((((2 : Nat) : Int) - n) % 12).toNat = 11 := by omega
  have e3 : ((((3 : Nat) : Int) - n) % 12).toNat = 0 := by omega
  have e4 : ((((4 : Nat) : Int) - n) % 12).toNat = 1 := by omega
  have e5 : ((((5 : Nat) : Int) - n) % 12).toNat = 2 := by omega
  have e6 : ((((6 : Nat) : Int) - n) % 12).toNat = 3 := by omega
  have e7 : ((((7 : Nat) : Int) - n) % 12).toNat = 4 := by omega
  have e8 : ((((8 : Nat) : Int) - n) % 12).toNat = 5 := by omega
  have e9 : ((((9 : Nat) : Int) - n) % 12).toNat = 6 := by omega
  have e10 : ((((10 : Nat) : Int) - n) % 12).toNat = 7 := by omega
  have e11 : ((((11 : Nat) : Int) - n) % 12).toNat = 8 := by omega
  show [([a0, a1, a2, a3, a4, a5, a6, a7, a8, a9, a10, a11] : List Int)[((((0 : Nat) : Int) - n) % 12).toNat]?.getD 0, ([a0, a1, a2, a3, a4, a5, a6, a7, a8, a9, a10, a11] : List Int)[((((1 : Nat) : Int) - n) % 12).toNat]?.getD 0, ([a0, a1, a2, a3, a4, a5, a6, a7, a8, a9, a10, a11] : List Int)[((((2 : Nat) : Int) - n) % 12).toNat]?.getD 0, ([a0, a1, a2, a3, a4, a5, a6, a7, a8, a9, a10, a11] : List Int)[((((3 : Nat) : Int) - n) % 12).toNat]?.getD 0, ([a0, a1, a2, a3, a4, a5, a6, a7, a8, a9, a10, a11] : List Int)[((((4 : Nat) : Int) - n) % 12).toNat]?.getD 0, ([a0, a1, a2, a3, a4, a5, a6, a7, a8, a9, a10, a11] : List Int)[((((5 : Nat) : Int) - n) % 12).toNat]?.getD 0, ([a0, a1, a2, a3, a4, a5, a6, a7, a8, a9, a10, a11] : List Int)[((((6 : Nat) : Int) - n) % 12).toNat]?.getD 0, ([a0, a1, a2, a3, a4, a5, a6, a7, a8, a9, a10, a11] : List Int)[((((7 : Nat) : Int) - n) % 12).toNat]?.getD 0, ([a0, a1, a2, a3, a4, a5, a6, a7, a8, a9, a10, a11] : List Int)[((((8 : Nat) : Int) - n) % 12).toNat]?.getD 0, ([a0, a1, a2, a3, a4, a5, a6, a7, a8, a9, a10, a11] : List Int)[((((9 : Nat) : Int) - n) % 12).toNat]?.getD 0, ([a0, a1, a2, a3, a4, a5, a6, a7, a8, a9, a10, a11] : List Int)[((((10 : Nat) : Int) - n) % 12).toNat]?.getD 0, ([a0, a1, a2, a3, a4, a5, a6, a7, a8, a9, a10, a11] : List Int)[((((11 : Nat) : Int) - n) % 12).toNat]?.getD 0] = _
  rw [e0, e1, e2, e3, e4, e5, e6, e7, e8, e9, e10, e11]
  rfl
theorem del_4 {a0 a1 a2 a3 a4 a5 a6 a7 a8 a9 a10 a11 : Int} {n : Int} (hs : n % 12 = 4) : delL [a0, a1, a2, a3, a4, a5, a6, a7, a8, a9, a10, a11] n = [a8, a9, a10, a11, a0, a1, a2, a3, a4, a5, a6, a7] := by
  have e0 : ((((0 : Nat) : Int) - n) % 12).toNat = 8 := by omega
  have e1 : ((((1 : Nat) : Int) - n) % 12).toNat = 9 := by omega
  have e2 : ((((2 : Nat) : Int) - n) % 12).toNat = 10 := by omega
  have e3 : ((((3 : Nat) : Int) - n) % 12).toNat = 11 := by omega
  have e4 : ((((4 : Nat) : Int) - n) % 12).toNat = 0 := by omega
  have e5 : ((((5 : Nat) : Int) - n) % 12).toNat = 1 := by omega
  have e6 : ((((6 : Nat) : Int) - n) % 12).toNat = 2 := by omega
  have e7 : ((((7 : Nat) : Int) - n) % 12).toNat = 3 := by omega
  have e8 : ((((8 : Nat) : Int) - n) % 12).toNat = 4 := by omega
  have e9 : ((((9 : Nat) : Int) - n) % 12).toNat = 5 := by omega
  have e10 : ((((10 : Nat) : Int) - n) % 12).toNat = 6 := by omega
  have e11 : ((((11 : Nat) : Int) - n) % 12).toNat = 7 := by omega
  show [([a0, a1, a2, a3, a4, a5, a6, a7, a8, a9, a10, a11] : List Int)[((((0 : Nat) : Int) - n) % 12).toNat]?.getD 0, ([a0, a1, a2, a3, a4, a5, a6, a7, a8, a9, a10, a11] : List Int)[((((1 : Nat) : Int) - n) % 12).toNat]?.getD 0, ([a0, a1, a2, a3, a4, a5, a6, a7, a8, a9, a10, a11] : List Int)[((((2 : Nat) : Int) - n) % 12).toNat]?.getD 0, ([a0, a1, a2, a3, a4, a5, a6, a7, a8, a9, a10, a11] : List Int)[((((3 : Nat) : Int) - n) % 12).toNat]?.getD 0, ([a0, a1, a2, a3, a4, a5, a6, a7, a8, a9, a10, a11] : List Int)[((((4 : Nat) : Int) - n) % 12).toNat]?.getD 0, ([a0, a1, a2, a3, a4, a5, a6, a7, a8, a9, a10, a11] : List Int)[((((5 : Nat) : Int) - n) % 12).toNat]?.getD 0, ([a0, a1, a2, a3, a4, a5, a6, a7, a8, a9, a10, a11] : List Int)[((((6 : Nat) : Int) - n) % 12).toNat]?.getD 0, ([a0, a1, a2, a3, a4, a5, a6, a7, a8, a9, a10, a11] : List Int)[((((7 : Nat) : Int) - n) % 12).toNat]?.getD 0, ([a0, a1, a2, a3, a4, a5, a6, a7, a8, a9, a10, a11] : List Int)[((((8 : Nat) : Int) - n) % 12).toNat]?.getD 0, ([a0, a1, a2, a3, a4, a5, a6, a7, a8, a9, a10, a11] : List Int)[((((9 : Nat) : Int) - n) % 12).toNat]?.getD 0, ([a0, a1, a2, a3, a4, a5, a6, a7, a8, a9, a10, a11] : List Int)[((((10 : Nat) : Int) - n) % 12).toNat]?.getD 0, ([a0, a1, a2, a3, a4, a5, a6, a7, a8, a9, a10, a11] : List Int)[((((11 : Nat) : Int) - n) % 12).toNat]?.getD 0] = _
  rw [e0, e1, e2, e3, e4, e5, e6, e7, e8, e9, e10, e11]
  rfl
theorem del_5 {a0 a1 a2 a3 a4 a5 a6 a7 a8 a9 a10 a11 : Int} {n : Int} (hs : n % 12 = 5) : delL [a0, a1, a2, a3, a4, a5, a6, a7, a8, a9, a10, a11] n = [a7, a8, a9, a10, a11, a0, a1, a2, a3, a4, a5, a6] := by
  have e0 : ((((0 : Nat) : Int) - n) % 12).toNat = 7 := by omega
  have e1 : ((((1 : Nat) : Int) - n) % 12).toNat = 8 := by omega
  have e2 : ((((2 : Nat) : Int) - n) % 12).toNat = 9 := by omega
  have e3 : ((((3 : Nat) : Int) - n) % 12).toNat = 10 := by omega
  have e4 : ((((4 : Nat) : Int) - n) % 12).toNat = 11 := by omega
  have e5 : ((((5 : Nat) : Int) - n) % 12).toNat = 0 := by omega
  have e6 : ((((6 : Nat) : Int) - n) % 12).toNat = 1 := by omega
  have e7 : ((((7 : Nat) : Int) - n) % 12).toNat = 2 := by omega
  have e8 : ((((8 : Nat) : Int) - n) % 12).toNat = 3 := by omega
  have e9 : ((((9 : Nat) : Int) - n) % 12).toNat = 4 := by omega
  have e10 : ((((10 : Nat) : Int) - n) % 12).toNat = 5 := by omega
  have e11 : ((((11 : Nat) : Int) - n) % 12).toNat = 6 := by omega
  show [([a0, a1, a2, a3, a4, a5, a6, a7, a8, a9, a10, a11] : List Int)[((((0 : Nat) : Int) - n) % 12).toNat]?.getD 0, ([a0, a1, a2, a3, a4, a5, a6, a7, a8, a9, a10, a11] : List Int)[((((1 : Nat) : Int) - n) % 12).toNat]?.getD 0, ([a0, a1, a2, a3, a4, a5, a6, a7, a8, a9, a10, a11] : List Int)[((((2 : Nat) : Int) - n) % 12).toNat]?.getD 0, ([a0, a1, a2, a3, a4, a5, a6, a7, a8, a9, a10, a11] : List Int)[((((3 : Nat) : Int) - n) % 12).toNat]?.getD 0, ([a0, a1, a2, a3, a4, a5, a6, a7, a8, a9, a10, a11] : List Int)[((((4 : Nat) : Int) - n) % 12).toNat]?.getD 0, ([a0, a1, a2, a3, a4, a5, a6, a7, a8, a9, a10, a11] : List Int)[((((5 : Nat) : Int) - n) % 12).toNat]?.getD 0, ([a0, a1, a2, a3, a4, a5, a6, a7, a8, a9, a10, a11] : List Int)[((((6 : Nat) : Int) - n) % 12).toNat]?.getD 0, ([a0, a1, a2, a3, a4, a5, a6, a7, a8, a9, a10, a11] : List Int)[((((7 : Nat) : Int) - n) % 12).toNat]?.getD 0, ([a0, a1, a2, a3, a4, a5, a6, a7, a8, a9, a10, a11] : List Int)[((((8 : Nat) : Int) - n) % 12).toNat]?.getD 0, ([a0, a1, a2, a3, a4, a5, a6, a7, a8, a9, a10, a11] : List Int)[((((9 : Nat) : Int) - n) % 12).toNat]?.getD 0, ([a0, a1, a2, a3, a4, a5, a6, a7, a8, a9, a10, a11] : List Int)[((((10 : Nat) : Int) - n) % 12).toNat]?.getD 0, ([a0, a1, a2, a3, a4, a5, a6, a7, a8, a9, a10, a11] : List Int)[((((11 : Nat) : Int) - n) % 12).toNat]?.getD 0] = _
  rw [e0, e1, e2, e3, e4, e5, e6, e7, e8, e9, e10, e11]
  rfl
theorem del_6 {a0 a1 a2 a3 a4 a5 a6 a7 a8 a9 a10 a11 : Int} {n : Int} (hs : n % 12 = 6) : delL [a0, a1, a2, a3, a4, a5, a6, a7, a8, a9, a10, a11] n = [a6, a7, a8, a9, a10, a11, a0, a1, a2, a3, a4, a5] := by
  have e0 : ((((0 : Nat) : Int) - n) % 12).toNat = 6 := by omega
  have e1 : ((((1 : Nat) : Int) - n) % 12).toNat = 7 := by omega
  have e2 : ((((2 : Nat) : Int) - n) % 12).toNat = 8 := by omega
  have e3 : ((((3 : Nat) : Int) - n) % 12).toNat = 9 := by omega
  have e4 : ((((4 : Nat) : Int) - n) % 12).toNat = 10 := by omega
  have e5 : ((((5 : Nat) : Int) - n) % 12).toNat = 11 := by omega
  have e6 : ((((6 : Nat) : Int) - n) % 12).toNat = 0 := by omega
  have e7 : ((((7 : Nat) : Int) - n) % 12).toNat = 1 := by omega
  have e8 : ((((8 : Nat) : Int) - n) % 12).toNat = 2 := by omega
  have e9 : ((((9 : Nat) : Int) - n) % 12).toNat = 3 := by omega
  have e10 : ((((10 : Nat) : Int) - n) % 12).toNat = 4 := by omega
  have e11 : ((((11 : Nat) : Int) - n) % 12).toNat = 5 := by omega
  show [([a0, a1, a2, a3, a4, a5, a6, a7, a8, a9, a10, a11] : List Int)[((((0 : Nat) : Int) - n) % 12).toNat]?.getD 0, ([a0, a1, a2, a3, a4, a5, a6, a7, a8, a9, a10, a11] : List Int)[((((1 : Nat) : Int) - n) % 12).toNat]?.getD 0, ([a0, a1, a2, a3, a4, a5, a6, a7, a8, a9, a10, a11] : List Int)[((((2 : Nat) : Int) - n) % 12).toNat]?.getD 0, ([a0, a1, a2, a3, a4, a5, a6, a7, a8, a9, a10, a11] : List Int)[((((3 : Nat) : Int) - n) % 12).toNat]?.getD 0, ([a0, a1, a2, a3, a4, a5, a6, a7, a8, a9, a10, a11] : List Int)[((((4 : Nat) : Int) - n) % 12).toNat]?.getD 0, ([a0, a1, a2, a3, a4, a5, a6, a7, a8, a9, a10, a11] : List Int)[((((5 : Nat) : Int) - n) % 12).toNat]?.getD 0, ([a0, a1, a2, a3, a4, a5, a6, a7, a8, a9, a10, a11] : List Int)[((((6 : Nat) : Int) - n) % 12).toNat]?.getD 0, ([a0, a1, a2, a3, a4, a5, a6, a7, a8, a9, a10, a11] : List Int)[((((7 : Nat) : Int) - n) % 12).toNat]?.getD 0, ([a0, a1, a2, a3, a4, a5, a6, a7, a8, a9, a10, a11] : List Int)[((((8 : Nat) : Int) - n) % 12).toNat]?.getD 0, ([a0, a1, a2, a3, a4, a5, a6, a7, a8, a9, a10, a11] : List Int)[((((9 : Nat) : Int) - n) % 12).toNat]?.getD 0, ([a0, a1, a2, a3, a4, a5, a6, a7, a8, a9, a10, a11] : List Int)[((((10 : Nat) : Int) - n) % 12).toNat]?.getD 0, ([a0, a1, a2, a3, a4, a5, a6, a7, a8, a9, a10, a11] : List Int)[((((11 : Nat) : Int) - n) % 12).toNat]?.getD 0] = _
  rw [e0, e1, e2, e3, e4, e5, e6, e7, e8, e9, e10, e11]
  rfl
theorem del_7 {a0 a1 a2 a3 a4 a5 a6 a7 a8 a9 a10 a11 : Int} {n : Int} (hs : n % 12 = 7) : delL [a0, a1, a2, a3, a4, a5, a6, a7, a8, a9, a10, a11] n = [a5, a6, a7, a8, a9, a10, a11, a0, a1, a2, a3, a4] := by
  have e0 : ((((0 : Nat) : Int) - n) % 12).toNat = 5 := by omega
  have e1 : ((((1 : Nat) : Int) - n) % 12).toNat = 6 := by omega
  have e2 : ((((2 : Nat) : Int) - n) % 12).toNat = 7 := by omega
  have e3 : ((((3 : Nat) : Int) - n) % 12).toNat = 8 := by omega
  have e4 : ((((4 : Nat) : Int) - n) % 12).toNat = 9 := by omega
  have e5 : ((((5 : Nat) : Int) - n) % 12).toNat = 10 := by omega
  have e6 : ((((6 : Nat) : Int) - n) % 12).toNat = 11 := by omega
  have e7 : ((((7 : Nat) : Int) - n) % 12).toNat = 0 := by omega
  have e8 : ((((8 : Nat) : Int) - n) % 12).toNat = 1 := by omega
  have e9 : ((((9 : Nat) : Int) - n) % 12).toNat = 2 := by omega
  have e10 : ((((10 : Nat) : Int) - n) % 12).toNat = 3 := by omega
  have e11 : ((((11 : Nat) : Int) - n) % 12).toNat = 4 := by omega
  show [([a0, a1, a2, a3, a4, a5, a6, a7, a8, a9, a10, a11] : List Int)[((((0 : Nat) : Int) - n) % 12).toNat]?.getD 0, ([a0, a1, a2, a3, a4, a5, a6, a7, a8, a9, a10, a11] : List Int)[((((1 : Nat) : Int) - n) % 12).toNat]?.getD 0, ([a0, a1, a2, a3, a4, a5, a6, a7, a8, a9, a10, a11] : List Int)[((((2 : Nat) : Int) - n) % 12).toNat]?.getD 0, ([a0, a1, a2, a3, a4, a5, a6, a7, a8, a9, a10, a11] : List Int)[((((3 : Nat) : Int) - n) % 12).toNat]?.getD 0, ([a0, a1, a2, a3, a4, a5, a6, a7, a8, a9, a10, a11] : List Int)[((((4 : Nat) : Int) - n) % 12).toNat]?.getD 0, ([a0, a1, a2, a3, a4, a5, a6, a7, a8, a9, a10, a11] : List Int)[((((5 : Nat) : Int) - n) % 12).toNat]?.getD 0, ([a0, a1, a2, a3, a4, a5, a6, a7, a8, a9, a10, a11] : List Int)[((((6 : Nat) : Int) - n) % 12).toNat]?.getD 0, ([a0, a1, a2, a3, a4, a5, a6, a7, a8, a9, a10, a11] : List Int)[((((7 : Nat) : Int) - n) % 12).toNat]?.getD 0, ([a0, a1, a2, a3, a4, a5, a6, a7, a8, a9, a10, a11] : List Int)[((((8 : Nat) : Int) - n) % 12).toNat]?.getD 0, ([a0, a1, a2, a3, a4, a5, a6, a7, a8, a9, a10, a11] : List Int)[((((9 : Nat) : Int) - n) % 12).toNat]?.getD 0, ([a0, a1, a2, a3, a4, a5, a6, a7, a8, a9, a10, a11] : List Int)[((((10 : Nat) : Int) - n) % 12).toNat]?.getD 0, ([a0, a1, a2, a3, a4, a5, a6, a7, a8, a9, a10, a11] : List Int)[((((11 : Nat) : Int) - n) % 12).toNat]?.getD 0] = _
  rw [e0, e1, e2, e3, e4, e5, e6, e7, e8, e9, e10, e11]
  rfl
theorem del_8 {a0 a1 a2 a3 a4 a5 a6 a7 a8 a9 a10 a11 : Int} {n : Int} (hs : n % 12 = 8) : delL [a0, a1, a2, a3, a4, a5, a6, a7, a8, a9, a10, a11] n = [a4, a5, a6, a7, a8, a9, a10, a11, a0, a1, a2, a3] := by
  have e0 : ((((0 : Nat) : Int) - n) % 12).toNat = 4 := by omega
  have e1 : ((((1 : Nat) : Int) - n) % 12).toNat = 5 := by omega
  have e2 : ((((2 : Nat) : Int) - n) % 12).toNat = 6 := by omega
  have e3 : ((((3 : Nat) : Int) - n) % 12).toNat = 7 := by omega
  have e4 : ((((4 : Nat) : Int) - n) % 12).toNat = 8 := by omega
  have e5 : ((((5 : Nat) : Int) - n) % 12).toNat = 9 := by omega
  have e6 : ((((6 : Nat) : Int) - n) % 12).toNat = 10 := by omega
  have e7 : ((((7 : Nat) : Int) - n) % 12).toNat = 11 := by omega
  have e8 : ((((8 : Nat) : Int) - n) % 12).toNat = 0 := by omega
  have e9 : ((((9 : Nat) : Int) - n) % 12).toNat = 1 := by omega
  have e10 : ((((10 : Nat) : Int) - n) % 12).toNat = 2 := by omega
  have e11 : ((((11 : Nat) : Int) - n) % 12).toNat = 3 := by omega
  show [([a0, a1, a2, a3, a4, a5, a6, a7, a8, a9, a10, a11] : List Int)[((((0 : Nat) : Int) - n) % 12).toNat]?.getD 0, ([a0, a1, a2, a3, a4, a5, a6, a7, a8, a9, a10, a11] : List Int)[((((1 : Nat) : Int) - n) % 12).toNat]?.getD 0, ([a0, a1, a2, a3, a4, a5, a6, a7, a8, a9, a10, a11] : List Int)[((((2 : Nat) : Int) - n) % 12).toNat]?.getD 0, ([a0, a1, a2, a3, a4, a5, a6, a7, a8, a9, a10, a11] : List Int)[((((3 : Nat) : Int) - n) % 12).toNat]?.getD 0, ([a0, a1, a2, a3, a4, a5, a6, a7, a8, a9, a10, a11] : List Int)[((((4 : Nat) : Int) - n) % 12).toNat]?.getD 0, ([a0, a1, a2, a3, a4, a5, a6, a7, a8, a9, a10, a11] : List Int)[((((5 : Nat) : Int) - n) % 12).toNat]?.getD 0, ([a0, a1, a2, a3, a4, a5, a6, a7, a8, a9, a10, a11] : List Int)[((((6 : Nat) : Int) - n) % 12).toNat]?.getD 0, ([a0, a1, a2, a3, a4, a5, a6, a7, a8, a9, a10, a11] : List Int)[((((7 : Nat) : Int) - n) % 12).toNat]?.getD 0, ([a0, a1, a2, a3, a4, a5, a6, a7, a8, a9, a10, a11] : List Int)[((((8 : Nat) : Int) - n) % 12).toNat]?.getD 0, ([a0, a1, a2, a3, a4, a5, a6, a7, a8, a9, a10, a11] : List Int)[((((9 : Nat) : Int) - n) % 12).toNat]?.getD 0, ([a0, a1, a2, a3, a4, a5, a6, a7, a8, a9, a10, a11] : List Int)[((((10 : Nat) : Int) - n) % 12).toNat]?.getD 0, ([a0, a1, a2, a3, a4, a5, a6, a7, a8, a9, a10, a11] : List Int)[((((11 : Nat) : Int) - n) % 12).toNat]?.getD 0] = _
  rw [e0, e1, e2, e3, e4, e5, e6, e7, e8, e9, e10, e11]
  rfl
theorem del_9 {a0 a1 a2 a3 a4 a5 a6 a7 a8 a9 a10 a11 : Int} {n : Int} (hs : n % 12 = 9) : delL [a0, a1, a2, a3, a4, a5, a6, a7, a8, a9, a10, a11] n = [a3, a4, a5, a6, a7, a8, a9, a10, a11, a0, a1, a2] := by
  have e0 : ((((0 : Nat) : Int) - n) % 12).toNat = 3 := by omega
  have e1 : ((((1 : Nat) : Int) - n) % 12).toNat = 4 := by omega
  have e2 : ((((2 : Nat) : Int) - n) % 12).toNat = 5 := by omega
  have e3 : ((((3 : Nat) : Int) - n) % 12).toNat = 6 := by omega
  have e4 : ((((4 : Nat) : Int) - n) % 12).toNat = 7 := by omega
  have e5 : ((((5 : Nat) : Int) - n) % 12).toNat = 8 := by omega
  have e6 : ((((6 : Nat) : Int) - n) % 12).toNat = 9 := by omega
  have e7 : ((((7 : Nat) : Int) - n) % 12).toNat = 10 := by omega
  have e8 : ((((8 : Nat) : Int) - n) % 12).toNat = 11 := by omega
  have e9 : ((((9 : Nat) : Int) - n) % 12).toNat = 0 := by omega
  have e10 : ((((10 : Nat) : Int) - n) % 12).toNat = 1 := by omega
  have e11 : ((((11 : Nat) : Int) - n) % 12).toNat = 2 := by omega
  show [([a0, a1, a2, a3, a4, a5, a6, a7, a8, a9, a10, a11] : List Int)[((((0 : Nat) : Int) - n) % 12).toNat]?.getD 0, ([a0, a1, a2, a3, a4, a5, a6, a7, a8, a9, a10, a11] : List Int)[((((1 : Nat) : Int) - n) % 12).toNat]?.getD 0, ([a0, a1, a2, a3, a4, a5, a6, a7, a8, a9, a10, a11] : List Int)[((((2 : Nat) : Int) - n) % 12).toNat]?.getD 0, ([a0, a1, a2, a3, a4, a5, a6, a7, a8, a9, a10, a11] : List Int)[((((3 : Nat) : Int) - n) % 12).toNat]?.getD 0, ([a0, a1, a2, a3, a4, a5, a6, a7, a8, a9, a10, a11] : List Int)[((((4 : Nat) : Int) - n) % 12).toNat]?.getD 0, ([a0, a1, a2, a3, a4, a5, a6, a7, a8, a9, a10, a11] : List Int)[((((5 : Nat) : Int) - n) % 12).toNat]?.getD 0, ([a0, a1, a2, a3, a4, a5, a6, a7, a8, a9, a10, a11] : List Int)[((((6 : Nat) : Int) - n) % 12).toNat]?.getD 0, ([a0, a1, a2, a3, a4, a5, a6, a7, a8, a9, a10, a11] : List Int)[((((7 : Nat) : Int) - n) % 12).toNat]?.getD 0, ([a0, a1, a2, a3, a4, a5, a6, a7, a8, a9, a10, a11] : List Int)[((((8 : Nat) : Int) - n) % 12).toNat]?.getD 0, ([a0, a1, a2, a3, a4, a5, a6, a7, a8, a9, a10, a11] : List Int)[((((9 : Nat) : Int) - n) % 12).toNat]?.getD 0, ([a0, a1, a2, a3, a4, a5, a6, a7, a8, a9, a10, a11] : List Int)[((((10 : Nat) : Int) - n) % 12).toNat]?.getD 0, ([a0, a1, a2, a3, a4, a5, a6, a7, a8, a9, a10, a11] : List Int)[((((11 : Nat) : Int) - n) % 12).toNat]?.getD 0] = _
  rw [e0, e1, e2, e3, e4, e5, e6, e7, e8, e9, e10, e11]
  rfl
theorem del_10 {a0 a1 a2 a3 a4 a5 a6 a7 a8 a9 a10 a11 : Int} {n : Int} (hs : n % 12 = 10) : delL [a0, a1, a2, a3, a4, a5, a6, a7, a8, a9, a10, a11] n = [a2, a3, a4, a5, a6, a7, a8, a9, a10, a11, a0, a1] := by
  have e0 : ((((0 : Nat) : Int) - n) % 12).toNat = 2 := by omega
  have e1 : ((((1 : Nat) : Int) - n) % 12).toNat = 3 := by omega
  have e2 : ((((2 : Nat) : Int) - n) % 12).toNat = 4 := by omega
  have e3 : ((((3 : Nat) : Int) - n) % 12).toNat = 5 := by omega
  have e4 : ((((4 : Nat) : Int) - n) % 12).toNat = 6 := by omega
  have e5 : ((((5 : Nat) : Int) - n) % 12).toNat = 7 := by omega
  have e6 : ((((6 : Nat) : Int) - n) % 12).toNat = 8 := by omega
  have e7 : ((((7 : Nat) : Int) - n) % 12).toNat = 9 := by omega
  have e8 : ((((8 : Nat) : Int) - n) % 12).toNat = 10 := by omega
  have e9 : ((((9 : Nat) : Int) - n) % 12).toNat = 11 := by omega
  have e10 : ((((10 : Nat) : Int) - n) % 12).toNat = 0 := by omega
  have e11 : ((((11 : Nat) : Int) - n) % 12).toNat = 1 := by omega
  show [([a0, a1, a2, a3, a4, a5, a6, a7, a8, a9, a10, a11] : List Int)[((((0 : Nat) : Int) - n) % 12).toNat]?.getD 0, ([a0, a1, a2, a3, a4, a5, a6, a7, a8, a9, a10, a11] : List Int)[((((1 : Nat) : Int) - n) % 12).toNat]?.getD 0, ([a0, a1, a2, a3, a4, a5, a6, a7, a8, a9, a10, a11] : List Int)[((((2 : Nat) : Int) - n) % 12).toNat]?.getD 0, ([a0, a1, a2, a3, a4, a5, a6, a7, a8, a9, a10, a11] : List Int)[((((3 : Nat) : Int) - n) % 12).toNat]?.getD 0, ([a0, a1, a2, a3, a4, a5, a6, a7, a8, a9, a10, a11] : List Int)[((((4 : Nat) : Int) - n) % 12).toNat]?.getD 0, ([a0, a1, a2, a3, a4, a5, a6, a7, a8, a9, a10, a11] : List Int)[((((5 : Nat) : Int) - n) % 12).toNat]?.getD 0, ([a0, a1, a2, a3, a4, a5, a6, a7, a8, a9, a10, a11] : List Int)[((((6 : Nat) : Int) - n) % 12).toNat]?.getD 0, ([a0, a1, a2, a3, a4, a5, a6, a7, a8, a9, a10, a11] : List Int)[((((7 : Nat) : Int) - n) % 12).toNat]?.getD 0, ([a0, a1, a2, a3, a4, a5, a6, a7, a8, a9, a10, a11] : List Int)[((((8 : Nat) : Int) - n) % 12).toNat]?.getD 0, ([a0, a1, a2, a3, a4, a5, a6, a7, a8, a9, a10, a11] : List Int)[((((9 : Nat) : Int) - n) % 12).toNat]?.getD 0, ([a0, a1, a2, a3, a4, a5, a6, a7, a8, a9, a10, a11] : List Int)[((((10 : Nat) : Int) - n) % 12).toNat]?.getD 0, ([a0, a1, a2, a3, a4, a5, a6, a7, a8, a9, a10, a11] : List Int)[((((11 : Nat) : Int) - n) % 12).toNat]?.getD 0] = _
  rw [e0, e1, e2, e3, e4, e5, e6, e7, e8, e9, e10, e11]
  rfl
theorem del_11 {a0 a1 a2 a3 a4 a5 a6 a7 a8 a9 a10 a11 : Int} {n : Int} (hs : n % 12 = 11) : delL [a0, a1, a2, a3, a4, a5, a6, a7, a8, a9, a10, a11] n = [a1, a2, a3, a4, a5, a6, a7, a8, a9, a10, a11, a0] := by
  have e0 : ((((0 : Nat) : Int) - n) % 12).toNat = 1 := by omega
  have e1 : ((((1 : Nat) : Int) - n) % 12).toNat = 2 := by omega
  have e2 : ((((2 : Nat) : Int) - n) % 12).toNat = 3 := by omega
  have e3 : ((((3 : Nat) : Int) - n) % 12).toNat = 4 := by omega
  have e4 : ((((4 : Nat) : Int) - n) % 12).toNat = 5 := by omega
  have e5 : ((((5 : Nat) : Int) - n) % 12).toNat = 6 := by omega
  have e6 : ((((6 : Nat) : Int) - n) % 12).toNat = 7 := by omega
  have e7 : ((((7 : Nat) : Int) - n) % 12).toNat = 8 := by omega
  have e8 : ((((8 : Nat) : Int) - n) % 12).toNat = 9 := by omega
  have e9 : ((((9 : Nat) : Int) - n) % 12).toNat = 10 := by omega
  have e10 : ((((10 : Nat) : Int) - n) % 12).toNat = 11 := by omega
  have e11 : ((((11 : Nat) : Int) - n) % 12).toNat = 0 := by omega
  show [([a0, a1, a2, a3, a4, a5, a6, a7, a8, a9, a10, a11] : List Int)[((((0 : Nat) : Int) - n) % 12).toNat]?.getD 0, ([a0, a1, a2, a3, a4, a5, a6, a7, a8, a9, a10, a11] : List Int)[((((1 : Nat) : Int) - n) % 12).toNat]?.getD 0, ([a0, a1, a2, a3, a4, a5, a6, a7, a8, a9, a10, a11] : List Int)[((((2 : Nat) : Int) - n) % 12).toNat]?.getD 0, ([a0, a1, a2, a3, a4, a5, a6, a7, a8, a9, a10, a11] : List Int)[((((3 : Nat) : Int) - n) % 12).toNat]?.getD 0, ([a0, a1, a2, a3, a4, a5, a6, a7, a8, a9, a10, a11] : List Int)[((((4 : Nat) : Int) - n) % 12).toNat]?.getD 0, ([a0, a1, a2, a3, a4, a5, a6, a7, a8, a9, a10, a11] : List Int)[((((5 : Nat) : Int) - n) % 12).toNat]?.getD 0, ([a0, a1, a2, a3, a4, a5, a6, a7, a8, a9, a10, a11] : List Int)[((((6 : Nat) : Int) - n) % 12).toNat]?.getD 0, ([a0, a1, a2, a3, a4, a5, a6, a7, a8, a9, a10, a11] : List Int)[((((7 : Nat) : Int) - n) % 12).toNat]?.getD 0, ([a0, a1, a2, a3, a4, a5, a6, a7, a8, a9, a10, a11] : List Int)[((((8 : Nat) : Int) - n) % 12).toNat]?.getD 0, ([a0, a1, a2, a3, a4, a5, a6, a7, a8, a9, a10, a11] : List Int)[((((9 : Nat) : Int) - n) % 12).toNat]?.getD 0, ([a0, a1, a2, a3, a4, a5, a6, a7, a8, a9, a10, a11] : List Int)[((((10 : Nat) : Int) - n) % 12).toNat]?.getD 0, ([a0, a1, a2, a3, a4, a5, a6, a7, a8, a9, a10, a11] : List Int)[((((11 : Nat) : Int) - n) % 12).toNat]?.getD 0] = _
  rw [e0, e1, e2, e3, e4, e5, e6, e7, e8, e9, e10, e11]
  rfl
/-- a delay leaves the strengths. -/
theorem str_del {l : List Int} (hl : l.length = 12) (hb : ∀ x ∈ l, -100 ≤ x ∧ x ≤ 100) (n : Int) (h : Nat) (p11 : h < 12) : strS (delL l n) h = strS l h := by
  obtain ⟨a0, a1, a2, a3, a4, a5, a6, a7, a8, a9, a10, a11, rfl⟩ := twelve hl
  have h0 := hb a0 (by simp)
  have h1 := hb a1 (by simp)
  have h2 := hb a2 (by simp)
  have h3 := hb a3 (by simp)
  have h4 := hb a4 (by simp)
  have h5 := hb a5 (by simp)
  have h6 := hb a6 (by simp)
  have h7 := hb a7 (by simp)
  have h8 := hb a8 (by simp)
  have h9 := hb a9 (by simp)
  have h10 := hb a10 (by simp)
  have h11 := hb a11 (by simp)
  have hs : n % 12 = 0 ∨ n % 12 = 1 ∨ n % 12 = 2 ∨ n % 12 = 3 ∨ n % 12 = 4 ∨ n % 12 = 5 ∨ n % 12 = 6 ∨ n % 12 = 7 ∨ n % 12 = 8 ∨ n % 12 = 9 ∨ n % 12 = 10 ∨ n % 12 = 11 := by omega
  have hh : h = 0 ∨ h = 1 ∨ h = 2 ∨ h = 3 ∨ h = 4 ∨ h = 5 ∨ h = 6 ∨ h = 7 ∨ h = 8 ∨ h = 9 ∨ h = 10 ∨ h = 11 := by omega
  rcases hs with hs | hs | hs | hs | hs | hs | hs | hs | hs | hs | hs | hs
  · rw [del_0 hs]
  · rw [del_1 hs]
    rcases hh with rfl | rfl | rfl | rfl | rfl | rfl | rfl | rfl | rfl | rfl | rfl | rfl
    · rw [strS_0 h11 h0 h1 h2 h3 h4 h5 h6 h7 h8 h9 h10, strS_0 h0 h1 h2 h3 h4 h5 h6 h7 h8 h9 h10 h11]; exact nrm_del0_1 a0 a1 a2 a3 a4 a5 a6 a7 a8 a9 a10 a11
    · rw [strS_1 h11 h0 h1 h2 h3 h4 h5 h6 h7 h8 h9 h10, strS_1 h0 h1 h2 h3 h4 h5 h6 h7 h8 h9 h10 h11]; exact nrm_del1_1 a0 a1 a2 a3 a4 a5 a6 a7 a8 a9 a10 a11
    · rw [strS_2 h11 h0 h1 h2 h3 h4 h5 h6 h7 h8 h9 h10, strS_2 h0 h1 h2 h3 h4 h5 h6 h7 h8 h9 h10 h11]; exact nrm_del2_1 a0 a1 a2 a3 a4 a5 a6 a7 a8 a9 a10 a11
    · rw [strS_3 h11 h0 h1 h2 h3 h4 h5 h6 h7 h8 h9 h10, strS_3 h0 h1 h2 h3 h4 h5 h6 h7 h8 h9 h10 h11]; exact nrm_del3_1 a0 a1 a2 a3 a4 a5 a6 a7 a8 a9 a10 a11
    · rw [strS_4 h11 h0 h1 h2 h3 h4 h5 h6 h7 h8 h9 h10, strS_4 h0 h1 h2 h3 h4 h5 h6 h7 h8 h9 h10 h11]; exact nrm_del4_1 a0 a1 a2 a3 a4 a5 a6 a7 a8 a9 a10 a11
    · rw [strS_5 h11 h0 h1 h2 h3 h4 h5 h6 h7 h8 h9 h10, strS_5 h0 h1 h2 h3 h4 h5 h6 h7 h8 h9 h10 h11]; exact nrm_del5_1 a0 a1 a2 a3 a4 a5 a6 a7 a8 a9 a10 a11
    · rw [strS_6 h11 h0 h1 h2 h3 h4 h5 h6 h7 h8 h9 h10, strS_6 h0 h1 h2 h3 h4 h5 h6 h7 h8 h9 h10 h11]; exact nrm_del6_1 a0 a1 a2 a3 a4 a5 a6 a7 a8 a9 a10 a11
    · rw [strS_7 h11 h0 h1 h2 h3 h4 h5 h6 h7 h8 h9 h10, strS_7 h0 h1 h2 h3 h4 h5 h6 h7 h8 h9 h10 h11]; exact nrm_del7_1 a0 a1 a2 a3 a4 a5 a6 a7 a8 a9 a10 a11
    · rw [strS_8 h11 h0 h1 h2 h3 h4 h5 h6 h7 h8 h9 h10, strS_8 h0 h1 h2 h3 h4 h5 h6 h7 h8 h9 h10 h11]; exact nrm_del8_1 a0 a1 a2 a3 a4 a5 a6 a7 a8 a9 a10 a11
    · rw [strS_9 h11 h0 h1 h2 h3 h4 h5 h6 h7 h8 h9 h10, strS_9 h0 h1 h2 h3 h4 h5 h6 h7 h8 h9 h10 h11]; exact nrm_del9_1 a0 a1 a2 a3 a4 a5 a6 a7 a8 a9 a10 a11
    · rw [strS_10 h11 h0 h1 h2 h3 h4 h5 h6 h7 h8 h9 h10, strS_10 h0 h1 h2 h3 h4 h5 h6 h7 h8 h9 h10 h11]; exact nrm_del10_1 a0 a1 a2 a3 a4 a5 a6 a7 a8 a9 a10 a11
    · rw [strS_11 h11 h0 h1 h2 h3 h4 h5 h6 h7 h8 h9 h10, strS_11 h0 h1 h2 h3 h4 h5 h6 h7 h8 h9 h10 h11]; exact nrm_del11_1 a0 a1 a2 a3 a4 a5 a6 a7 a8 a9 a10 a11
  · rw [del_2 hs]
    rcases hh with rfl | rfl | rfl | rfl | rfl | rfl | rfl | rfl | rfl | rfl | rfl | rfl
    · rw [strS_0 h10 h11 h0 h1 h2 h3 h4 h5 h6 h7 h8 h9, strS_0 h0 h1 h2 h3 h4 h5 h6 h7 h8 h9 h10 h11]; exact nrm_del0_2 a0 a1 a2 a3 a4 a5 a6 a7 a8 a9 a10 a11
    · rw [strS_1 h10 h11 h0 h1 h2 h3 h4 h5 h6 h7 h8 h9, strS_1 h0 h1 h2 h3 h4 h5 h6 h7 h8 h9 h10 h11]; exact nrm_del1_2 a0 a1 a2 a3 a4 a5 a6 a7 a8 a9 a10 a11
    · rw [strS_2 h10 h11 h0 h1 h2 h3 h4 h5 h6 h7 h8 h9, strS_2 h0 h1 h2 h3 h4 h5 h6 h7 h8 h9 h10 h11]; exact nrm_del2_2 a0 a1 a2 a3 a4 a5 a6 a7 a8 a9 a10 a11
    · rw [strS_3 h10 h11 h0 h1 h2 h3 h4 h5 h6 h7 h8 h9, strS_3 h0 h1 h2 h3 h4 h5 h6 h7 h8 h9 h10 h11]; exact nrm_del3_2 a0 a1 a2 a3 a4 a5 a6 a7 a8 a9 a10 a11
    · rw [strS_4 h10 h11 h0 h1 h2 h3 h4 h5 h6 h7 h8 h9, strS_4 h0 h1 h2 h3 h4 h5 h6 h7 h8 h9 h10 h11]; exact nrm_del4_2 a0 a1 a2 a3 a4 a5 a6 a7 a8 a9 a10 a11
    · rw [strS_5 h10 h11 h0 h1 h2 h3 h4 h5 h6 h7 h8 h9, strS_5 h0 h1 h2 h3 h4 h5 h6 h7 h8 h9 h10 h11]; exact nrm_del5_2 a0 a1 a2 a3 a4 a5 a6 a7 a8 a9 a10 a11
    · rw [strS_6 h10 h11 h0 h1 h2 h3 h4 h5 h6 h7 h8 h9, strS_6 h0 h1 h2 h3 h4 h5 h6 h7 h8 h9 h10 h11]; exact nrm_del6_2 a0 a1 a2 a3 a4 a5 a6 a7 a8 a9 a10 a11
    · rw [strS_7 h10 h11 h0 h1 h2 h3 h4 h5 h6 h7 h8 h9, strS_7 h0 h1 h2 h3 h4 h5 h6 h7 h8 h9 h10 h11]; exact nrm_del7_2 a0 a1 a2 a3 a4 a5 a6 a7 a8 a9 a10 a11
    · rw [strS_8 h10 h11 h0 h1 h2 h3 h4 h5 h6 h7 h8 h9, strS_8 h0 h1 h2 h3 h4 h5 h6 h7 h8 h9 h10 h11]; exact nrm_del8_2 a0 a1 a2 a3 a4 a5 a6 a7 a8 a9 a10 a11
    · rw [strS_9 h10 h11 h0 h1 h2 h3 h4 h5 h6 h7 h8 h9, strS_9 h0 h1 h2 h3 h4 h5 h6 h7 h8 h9 h10 h11]; exact nrm_del9_2 a0 a1 a2 a3 a4 a5 a6 a7 a8 a9 a10 a11
    · rw [strS_10 h10 h11 h0 h1 h2 h3 h4 h5 h6 h7 h8 h9, strS_10 h0 h1 h2 h3 h4 h5 h6 h7 h8 h9 h10 h11]; exact nrm_del10_2 a0 a1 a2 a3 a4 a5 a6 a7 a8 a9 a10 a11
    · rw [strS_11 h10 h11 h0 h1 h2 h3 h4 h5 h6 h7 h8 h9, strS_11 h0 h1 h2 h3 h4 h5 h6 h7 h8 h9 h10 h11]; exact nrm_del11_2 a0 a1 a2 a3 a4 a5 a6 a7 a8 a9 a10 a11
  · rw [del_3 hs]
    rcases hh with rfl | rfl | rfl | rfl | rfl | rfl | rfl | rfl | rfl | rfl | rfl | rfl
    · rw [strS_0 h9 h10 h11 h0 h1 h2 h3 h4 h5 h6 h7 h8, strS_0 h0 h1 h2 h3 h4 h5 h6 h7 h8 h9 h10 h11]; exact nrm_del0_3 a0 a1 a2 a3 a4 a5 a6 a7 a8 a9 a10 a11
    · rw [strS_1 h9 h10 h11 h0 h1 h2 h3 h4 h5 h6 h7 h8, strS_1 h0 h1 h2 h3 h4 h5 h6 h7 h8 h9 h10 h11]; exact nrm_del1_3 a0 a1 a2 a3 a4 a5 a6 a7 a8 a9 a10 a11
    · rw [strS_2 h9 h10 h11 h0 h1 h2 h3 h4 h5 h6 h7 h8, strS_2 h0 h1 h2 h3 h4 h5 h6 h7 h8 h9 h10 h11]; exact nrm_del2_3 a0 a1 a2 a3 a4 a5 a6 a7 a8 a9 a10 a11
    · rw [strS_3 h9 h10 h11 h0 h1 h2 h3 h4 h5 h6 h7 h8, strS_3 h0 h1 h2 h3 h4 h5 h6 h7 h8 h9 h10 h11]; exact nrm_del3_3 a0 a1 a2 a3 a4 a5 a6 a7 a8 a9 a10 a11
    · rw [strS_4 h9 h10 h11 h0 h1 h2 h3 h4 h5 h6 h7 h8, strS_4 h0 h1 h2 h3 h4 h5 h6 h7 h8 h9 h10 h11]; exact nrm_del4_3 a0 a1 a2 a3 a4 a5 a6 a7 a8 a9 a10 a11
    · rw [strS_5 h9 h10 h11 h0 h1 h2 h3 h4 h5 h6 h7 h8, strS_5 h0 h1 h2 h3 h4 h5 h6 h7 h8 h9 h10 h11]; exact nrm_del5_3 a0 a1 a2 a3 a4 a5 a6 a7 a8 a9 a10 a11
    · rw [strS_6 h9 h10 h11 h0 h1 h2 h3 h4 h5 h6 h7 h8, strS_6 h0 h1 h2 h3 h4 h5 h6 h7 h8 h9 h10 h11]; exact nrm_del6_3 a0 a1 a2 a3 a4 a5 a6 a7 a8 a9 a10 a11
    · rw [strS_7 h9 h10 h11 h0 h1 h2 h3 h4 h5 h6 h7 h8, strS_7 h0 h1 h2 h3 h4 h5 h6 h7 h8 h9 h10 h11]; exact nrm_del7_3 a0 a1 a2 a3 a4 a5 a6 a7 a8 a9 a10 a11
    · rw [strS_8 h9 h10 h11 h0 h1 h2 h3 h4 h5 h6 h7 h8, strS_8 h0 h1 h2 h3 h4 h5 h6 h7 h8 h9 h10 h11]; exact nrm_del8_3 a0 a1 a2 a3 a4 a5 a6 a7 a8 a9 a10 a11
    · rw [strS_9 h9 h10 h11 h0 h1 h2 h3 h4 h5 h6 h7 h8, strS_9 h0 h1 h2 h3 h4 h5 h6 h7 h8 h9 h10 h11]; exact nrm_del9_3 a0 a1 a2 a3 a4 a5 a6 a7 a8 a9 a10 a11
    · rw [strS_10 h9 h10 h11 h0 h1 h2 h3 h4 h5 h6 h7 h8, strS_10 h0 h1 h2 h3 h4 h5 h6 h7 h8 h9 h10 h11]; exact nrm_del10_3 a0 a1 a2 a3 a4 a5 a6 a7 a8 a9 a10 a11
    · rw [strS_11 h9 h10 h11 h0 h1 h2 h3 h4 h5 h6 h7 h8, strS_11 h0 h1 h2 h3 h4 h5 h6 h7 h8 h9 h10 h11]; exact nrm_del11_3 a0 a1 a2 a3 a4 a5 a6 a7 a8 a9 a10 a11
  · rw [del_4 hs]
    rcases hh with rfl | rfl | rfl | rfl | rfl | rfl | rfl | rfl | rfl | rfl | rfl | rfl
    · rw [strS_0 h8 h9 h10 h11 h0 h1 h2 h3 h4 h5 h6 h7, strS_0 h0 h1 h2 h3 h4 h5 h6 h7 h8 h9 h10 h11]; exact nrm_del0_4 a0 a1 a2 a3 a4 a5 a6 a7 a8 a9 a10 a11
    · rw [strS_1 h8 h9 h10 h11 h0 h1 h2 h3 h4 h5 h6 h7, strS_1 h0 h1 h2 h3 h4 h5 h6 h7 h8 h9 h10 h11]; exact nrm_del1_4 a0 a1 a2 a3 a4 a5 a6 a7 a8 a9 a10 a11
    · rw [strS_2 h8 h9 h10 h11 h0 h1 h2 h3 h4 h5 h6 h7, strS_2 h0 h1 h2 h3 h4 h5 h6 h7 h8 h9 h10 h11]; exact nrm_del2_4 a0 a1 a2 a3 a4 a5 a6 a7 a8 a9 a10 a11
    · rw [strS_3 h8 h9 h10 h11 h0 h1 h2 h3 h4 h5 h6 h7, strS_3 h0 h1 h2 h3 h4 h5 h6 h7 h8 h9 h10 h11]; exact nrm_del3_4 a0 a1 a2 a3 a4 a5 a6 a7 a8 a9 a10 a11
    · rw [strS_4 h8 h9 h10 h11 h0 h1 h2 h3 h4 h5 h6 h7, strS_4 h0 h1 h2 h3 h4 h5 h6 h7 h8 h9 h10 h11]; exact nrm_del4_4 a0 a1 a2 a3 a4 a5 a6 a7 a8 a9 a10 a11
    · rw [strS_5 h8 h9 h10 h11 h0 h1 h2 h3 h4 h5 h6 h7, strS_5 h0 h1 h2 h3 h4 h5 h6 h7 h8 h9 h10 h11]; exact nrm_del5_4 a0 a1 a2 a3 a4 a5 a6 a7 a8 a9 a10 a11
    · rw [strS_6 h8 h9 h10 h11 h0 h1 h2 h3 h4 h5 h6 h7, strS_6 h0 h1 h2 h3 h4 h5 h6 h7 h8 h9 h10 h11]; exact nrm_del6_4 a0 a1 a2 a3 a4 a5 a6 a7 a8 a9 a10 a11
    · rw [strS_7 h8 h9 h10 h11 h0 h1 h2 h3 h4 h5 h6 h7, strS_7 h0 h1 h2 h3 h4 h5 h6 h7 h8 h9 h10 h11]; exact nrm_del7_4 a0 a1 a2 a3 a4 a5 a6 a7 a8 a9 a10 a11
    · rw [strS_8 h8 h9 h10 h11 h0 h1 h2 h3 h4 h5 h6 h7, strS_8 h0 h1 h2 h3 h4 h5 h6 h7 h8 h9 h10 h11]; exact nrm_del8_4 a0 a1 a2 a3 a4 a5 a6 a7 a8 a9 a10 a11
    · rw [strS_9 h8 h9 h10 h11 h0 h1 h2 h3 h4 h5 h6 h7, strS_9 h0 h1 h2 h3 h4 h5 h6 h7 h8 h9 h10 h11]; exact nrm_del9_4 a0 a1 a2 a3 a4 a5 a6 a7 a8 a9 a10 a11
    · rw [strS_10 h8 h9 h10 h11 h0 h1 h2 h3 h4 h5 h6 h7, strS_10 h0 h1 h2 h3 h4 h5 h6 h7 h8 h9 h10 h11]; exact nrm_del10_4 a0 a1 a2 a3 a4 a5 a6 a7 a8 a9 a10 a11
    · rw [strS_11 h8 h9 h10 h11 h0 h1 h2 h3 h4 h5 h6 h7, strS_11 h0 h1 h2 h3 h4 h5 h6 h7 h8 h9 h10 h11]; exact nrm_del11_4 a0 a1 a2 a3 a4 a5 a6 a7 a8 a9 a10 a11
  · rw [del_5 hs]
    rcases hh with rfl | rfl | rfl | rfl | rfl | rfl | rfl | rfl | rfl | rfl | rfl | rfl
    · rw [strS_0 h7 h8 h9 h10 h11 h0 h1 h2 h3 h4 h5 h6, strS_0 h0 h1 h2 h3 h4 h5 h6 h7 h8 h9 h10 h11]; exact nrm_del0_5 a0 a1 a2 a3 a4 a5 a6 a7 a8 a9 a10 a11
    · rw [strS_1 h7 h8 h9 h10 h11 h0 h1 h2 h3 h4 h5 h6, strS_1 h0 h1 h2 h3 h4 h5 h6 h7 h8 h9 h10 h11]; exact nrm_del1_5 a0 a1 a2 a3 a4 a5 a6 a7 a8 a9 a10 a11
    · rw [strS_2 h7 h8 h9 h10 h11 h0 h1 h2 h3 h4 h5 h6, strS_2 h0 h1 h2 h3 h4 h5 h6 h7 h8 h9 h10 h11]; exact nrm_del2_5 a0 a1 a2 a3 a4 a5 a6 a7 a8 a9 a10 a11
    · rw [strS_3 h7 h8 h9 h10 h11 h0 h1 h2 h3 h4 h5 h6, strS_3 h0 h1 h2 h3 h4 h5 h6 h7 h8 h9 h10 h11]; exact nrm_del3_5 a0 a1 a2 a3 a4 a5 a6 a7 a8 a9 a10 a11
    · rw [strS_4 h7 h8 h9 h10 h11 h0 h1 h2 h3 h4 h5 h6, strS_4 h0 h1 h2 h3 h4 h5 h6 h7 h8 h9 h10 h11]; exact nrm_del4_5 a0 a1 a2 a3 a4 a5 a6 a7 a8 a9 a10 a11
    · rw [strS_5 h7 h8 h9 h10 h11 h0 h1 h2 h3 h4 h5 h6, strS_5 h0 h1 h2 h3 h4 h5 h6 h7 h8 h9 h10 h11]; exact nrm_del5_5 a0 a1 a2 a3 a4 a5 a6 a7 a8 a9 a10 a11
    · rw [strS_6 h7 h8 h9 h10 h11 h0 h1 h2 h3 h4 h5 h6, strS_6 h0 h1 h2 h3 h4 h5 h6 h7 h8 h9 h10 h11]; exact nrm_del6_5 a0 a1 a2 a3 a4 a5 a6 a7 a8 a9 a10 a11
    · rw [strS_7 h7 h8 h9 h10 h11 h0 h1 h2 h3 h4 h5 h6, strS_7 h0 h1 h2 h3 h4 h5 h6 h7 h8 h9 h10 h11]; exact nrm_del7_5 a0 a1 a2 a3 a4 a5 a6 a7 a8 a9 a10 a11
    · rw [strS_8 h7 h8 h9 h10 h11 h0 h1 h2 h3 h4 h5 h6, strS_8 h0 h1 h2 h3 h4 h5 h6 h7 h8 h9 h10 h11]; exact nrm_del8_5 a0 a1 a2 a3 a4 a5 a6 a7 a8 a9 a10 a11
    · rw [strS_9 h7 h8 h9 h10 h11 h0 h1 h2 h3 h4 h5 h6, strS_9 h0 h1 h2 h3 h4 h5 h6 h7 h8 h9 h10 h11]; exact nrm_del9_5 a0 a1 a2 a3 a4 a5 a6 a7 a8 a9 a10 a11
    · rw [strS_10 h7 h8 h9 h10 h11 h0 h1 h2 h3 h4 h5 h6, strS_10 h0 h1 h2 h3 h4 h5 h6 h7 h8 h9 h10 h11]; exact nrm_del10_5 a0 a1 a2 a3 a4 a5 a6 a7 a8 a9 a10 a11
    · rw [strS_11 h7 h8 h9 h10 h11 h0 h1 h2 h3 h4 h5 h6, strS_11 h0 h1 h2 h3 h4 h5 h6 h7 h8 h9 h10 h11]; exact nrm_del11_5 a0 a1 a2 a3 a4 a5 a6 a7 a8 a9 a10 a11
  · rw [del_6 hs]
    rcases hh with rfl | rfl | rfl | rfl | rfl | rfl | rfl | rfl | rfl | rfl | rfl | rfl
    · rw [strS_0 h6 h7 h8 h9 h10 h11 h0 h1 h2 h3 h4 h5, strS_0 h0 h1 h2 h3 h4 h5 h6 h7 h8 h9 h10 h11]; exact nrm_del0_6 a0 a1 a2 a3 a4 a5 a6 a7 a8 a9 a10 a11
    · rw [strS_1 h6 h7 h8 h9 h10 h11 h0 h1 h2 h3 h4 h5, strS_1 h0 h1 h2 h3 h4 h5 h6 h7 h8 h9 h10 h11]; exact nrm_del1_6 a0 a1 a2 a3 a4 a5 a6 a7 a8 a9 a10 a11
    · rw [strS_2 h6 h7 h8 h9 h10 h11 h0 h1 h2 h3 h4 h5, strS_2 h0 h1 h2 h3 h4 h5 h6 h7 h8 h9 h10 h11]; exact nrm_del2_6 a0 a1 a2 a3 a4 a5 a6 a7 a8 a9 a10 a11
    · rw [strS_3 h6 h7 h8 h9 h10 h11 h0 h1 h2 h3 h4 h5, strS_3 h0 h1 h2 h3 h4 h5 h6 h7 h8 h9 h10 h11]; exact nrm_del3_6 a0 a1 a2 a3 a4 a5 a6 a7 a8 a9 a10 a11
    · rw [strS_4 h6 h7 h8 h9 h10 h11 h0 h1 h2 h3 h4 h5, strS_4 h0 h1 h2 h3 h4 h5 h6 h7 h8 h9 h10 h11]; exact nrm_del4_6 a0 a1 a2 a3 a4 a5 a6 a7 a8 a9 a10 a11
    · rw [strS_5 h6 h7 h8 h9 h10 h11 h0 h1 h2 h3 h4 h5, strS_5 h0 h1 h2 h3 h4 h5 h6 h7 h8 h9 h10 h11]; exact nrm_del5_6 a0 a1 a2 a3 a4 a5 a6 a7 a8 a9 a10 a11
    · rw [strS_6 h6 h7 h8 h9 h10 h11 h0 h1 h2 h3 h4 h5, strS_6 h0 h1 h2 h3 h4 h5 h6 h7 h8 h9 h10 h11]; exact nrm_del6_6 a0 a1 a2 a3 a4 a5 a6 a7 a8 a9 a10 a11
    · rw [strS_7 h6 h7 h8 h9 h10 h11 h0 h1 h2 h3 h4 h5, strS_7 h0 h1 h2 h3 h4 h5 h6 h7 h8 h9 h10 h11]; exact nrm_del7_6 a0 a1 a2 a3 a4 a5 a6 a7 a8 a9 a10 a11
    · rw [strS_8 h6 h7 h8 h9 h10 h11 h0 h1 h2 h3 h4 h5, strS_8 h0 h1 h2 h3 h4 h5 h6 h7 h8 h9 h10 h11]; exact nrm_del8_6 a0 a1 a2 a3 a4 a5 a6 a7 a8 a9 a10 a11
    · rw [strS_9 h6 h7 h8 h9 h10 h11 h0 h1 h2 h3 h4 h5, strS_9 h0 h1 h2 h3 h4 h5 h6 h7 h8 h9 h10 h11]; exact nrm_del9_6 a0 a1 a2 a3 a4 a5 a6 a7 a8 a9 a10 a11
    · rw [strS_10 h6 h7 h8 h9 h10 h11 h0 h1 h2 h3 h4 h5, strS_10 h0 h1 h2 h3 h4 h5 h6 h7 h8 h9 h10 h11]; exact nrm_del10_6 a0 a1 a2 a3 a4 a5 a6 a7 a8 a9 a10 a11
    · rw [strS_11 h6 h7 h8 h9 h10 h11 h0 h1 h2 h3 h4 h5, strS_11 h0 h1 h2 h3 h4 h5 h6 h7 h8 h9 h10 h11]; exact nrm_del11_6 a0 a1 a2 a3 a4 a5 a6 a7 a8 a9 a10 a11
  · rw [del_7 hs]
    rcases hh with rfl | rfl | rfl | rfl | rfl | rfl | rfl | rfl | rfl | rfl | rfl | rfl
    · rw [strS_0 h5 h6 h7 h8 h9 h10 h11 h0 h1 h2 h3 h4, strS_0 h0 h1 h2 h3 h4 h5 h6 h7 h8 h9 h10 h11]; exact nrm_del0_7 a0 a1 a2 a3 a4 a5 a6 a7 a8 a9 a10 a11
    · rw [strS_1 h5 h6 h7 h8 h9 h10 h11 h0 h1 h2 h3 h4, strS_1 h0 h1 h2 h3 h4 h5 h6 h7 h8 h9 h10 h11]; exact nrm_del1_7 a0 a1 a2 a3 a4 a5 a6 a7 a8 a9 a10 a11
    · rw [strS_2 h5 h6 h7 h8 h9 h10 h11 h0 h1 h2 h3 h4, strS_2 h0 h1 h2 h3 h4 h5 h6 h7 h8 h9 h10 h11]; exact nrm_del2_7 a0 a1 a2 a3 a4 a5 a6 a7 a8 a9 a10 a11
    · rw [strS_3 h5 h6 h7 h8 h9 h10 h11 h0 h1 h2 h3 h4, strS_3 h0 h1 h2 h3 h4 h5 h6 h7 h8 h9 h10 h11]; exact nrm_del3_7 a0 a1 a2 a3 a4 a5 a6 a7 a8 a9 a10 a11
    · rw [strS_4 h5 h6 h7 h8 h9 h10 h11 h0 h1 h2 h3 h4, strS_4 h0 h1 h2 h3 h4 h5 h6 h7 h8 h9 h10 h11]; exact nrm_del4_7 a0 a1 a2 a3 a4 a5 a6 a7 a8 a9 a10 a11
    · rw [strS_5 h5 h6 h7 h8 h9 h10 h11 h0 h1 h2 h3 h4, strS_5 h0 h1 h2 h3 h4 h5 h6 h7 h8 h9 h10 h11]; exact nrm_del5_7 a0 a1 a2 a3 a4 a5 a6 a7 a8 a9 a10 a11
    · rw [strS_6 h5 h6 h7 h8 h9 h10 h11 h0 h1 h2 h3 h4, strS_6 h0 h1 h2 h3 h4 h5 h6 h7 h8 h9 h10 h11]; exact nrm_del6_7 a0 a1 a2 a3 a4 a5 a6 a7 a8 a9 a10 a11
    · rw [strS_7 h5 h6 h7 h8 h9 h10 h11 h0 h1 h2 h3 h4, strS_7 h0 h1 h2 h3 h4 h5 h6 h7 h8 h9 h10 h11]; exact nrm_del7_7 a0 a1 a2 a3 a4 a5 a6 a7 a8 a9 a10 a11
    · rw [strS_8 h5 h6 h7 h8 h9 h10 h11 h0 h1 h2 h3 h4, strS_8 h0 h1 h2 h3 h4 h5 h6 h7 h8 h9 h10 h11]; exact nrm_del8_7 a0 a1 a2 a3 a4 a5 a6 a7 a8 a9 a10 a11
    · rw [strS_9 h5 h6 h7 h8 h9 h10 h11 h0 h1 h2 h3 h4, strS_9 h0 h1 h2 h3 h4 h5 h6 h7 h8 h9 h10 h11]; exact nrm_del9_7 a0 a1 a2 a3 a4 a5 a6 a7 a8 a9 a10 a11
    · rw [strS_10 h5 h6 h7 h8 h9 h10 h11 h0 h1 h2 h3 h4, strS_10 h0 h1 h2 h3 h4 h5 h6 h7 h8 h9 h10 h11]; exact nrm_del10_7 a0 a1 a2 a3 a4 a5 a6 a7 a8 a9 a10 a11
    · rw [strS_11 h5 h6 h7 h8 h9 h10 h11 h0 h1 h2 h3 h4, strS_11 h0 h1 h2 h3 h4 h5 h6 h7 h8 h9 h10 h11]; exact nrm_del11_7 a0 a1 a2 a3 a4 a5 a6 a7 a8 a9 a10 a11
  · rw [del_8 hs]
    rcases hh with rfl | rfl | rfl | rfl | rfl | rfl | rfl | rfl | rfl | rfl | rfl | rfl
    · rw [strS_0 h4 h5 h6 h7 h8 h9 h10 h11 h0 h1 h2 h3, strS_0 h0 h1 h2 h3 h4 h5 h6 h7 h8 h9 h10 h11]; exact nrm_del0_8 a0 a1 a2 a3 a4 a5 a6 a7 a8 a9 a10 a11
    · rw [strS_1 h4 h5 h6 h7 h8 h9 h10 h11 h0 h1 h2 h3, strS_1 h0 h1 h2 h3 h4 h5 h6 h7 h8 h9 h10 h11]; exact nrm_del1_8 a0 a1 a2 a3 a4 a5 a6 a7 a8 a9 a10 a11
    · rw [strS_2 h4 h5 h6 h7 h8 h9 h10 h11 h0 h1 h2 h3, strS_2 h0 h1 h2 h3 h4 h5 h6 h7 h8 h9 h10 h11]; exact nrm_del2_8 a0 a1 a2 a3 a4 a5 a6 a7 a8 a9 a10 a11
    · rw [strS_3 h4 h5 h6 h7 h8 h9 h10 h11 h0 h1 h2 h3, strS_3 h0 h1 h2 h3 h4 h5 h6 h7 h8 h9 h10 h11]; exact nrm_del3_8 a0 a1 a2 a3 a4 a5 a6 a7 a8 a9 a10 a11
    · rw [strS_4 h4 h5 h6 h7 h8 h9 h10 h11 h0 h1 h2 h3, strS_4 h0 h1 h2 h3 h4 h5 h6 h7 h8 h9 h10 h11]; exact nrm_del4_8 a0 a1 a2 a3 a4 a5 a6 a7 a8 a9 a10 a11
    · rw [strS_5 h4 h5 h6 h7 h8 h9 h10 h11 h0 h1 h2 h3, strS_5 h0 h1 h2 h3 h4 h5 h6 h7 h8 h9 h10 h11]; exact nrm_del5_8 a0 a1 a2 a3 a4 a5 a6 a7 a8 a9 a10 a11
    · rw [strS_6 h4 h5 h6 h7 h8 h9 h10 h11 h0 h1 h2 h3, strS_6 h0 h1 h2 h3 h4 h5 h6 h7 h8 h9 h10 h11]; exact nrm_del6_8 a0 a1 a2 a3 a4 a5 a6 a7 a8 a9 a10 a11
    · rw [strS_7 h4 h5 h6 h7 h8 h9 h10 h11 h0 h1 h2 h3, strS_7 h0 h1 h2 h3 h4 h5 h6 h7 h8 h9 h10 h11]; exact nrm_del7_8 a0 a1 a2 a3 a4 a5 a6 a7 a8 a9 a10 a11
    · rw [strS_8 h4 h5 h6 h7 h8 h9 h10 h11 h0 h1 h2 h3, strS_8 h0 h1 h2 h3 h4 h5 h6 h7 h8 h9 h10 h11]; exact nrm_del8_8 a0 a1 a2 a3 a4 a5 a6 a7 a8 a9 a10 a11
    · rw [strS_9 h4 h5 h6 h7 h8 h9 h10 h11 h0 h1 h2 h3, strS_9 h0 h1 h2 h3 h4 h5 h6 h7 h8 h9 h10 h11]; exact nrm_del9_8 a0 a1 a2 a3 a4 a5 a6 a7 a8 a9 a10 a11
    · rw [strS_10 h4 h5 h6 h7 h8 h9 h10 h11 h0 h1 h2 h3, strS_10 h0 h1 h2 h3 h4 h5 h6 h7 h8 h9 h10 h11]; exact nrm_del10_8 a0 a1 a2 a3 a4 a5 a6 a7 a8 a9 a10 a11
    · rw [strS_11 h4 h5 h6 h7 h8 h9 h10 h11 h0 h1 h2 h3, strS_11 h0 h1 h2 h3 h4 h5 h6 h7 h8 h9 h10 h11]; exact nrm_del11_8 a0 a1 a2 a3 a4 a5 a6 a7 a8 a9 a10 a11
  · rw [del_9 hs]
    rcases hh with rfl | rfl | rfl | rfl | rfl | rfl | rfl | rfl | rfl | rfl | rfl | rfl
    · rw [strS_0 h3 h4 h5 h6 h7 h8 h9 h10 h11 h0 h1 h2, strS_0 h0 h1 h2 h3 h4 h5 h6 h7 h8 h9 h10 h11]; exact nrm_del0_9 a0 a1 a2 a3 a4 a5 a6 a7 a8 a9 a10 a11
    · rw [strS_1 h3 h4 h5 h6 h7 h8 h9 h10 h11 h0 h1 h2, strS_1 h0 h1 h2 h3 h4 h5 h6 h7 h8 h9 h10 h11]; exact nrm_del1_9 a0 a1 a2 a3 a4 a5 a6 a7 a8 a9 a10 a11
    · rw [strS_2 h3 h4 h5 h6 h7 h8 h9 h10 h11 h0 h1 h2, strS_2 h0 h1 h2 h3 h4 h5 h6 h7 h8 h9 h10 h11]; exact nrm_del2_9 a0 a1 a2 a3 a4 a5 a6 a7 a8 a9 a10 a11
    · rw [strS_3 h3 h4 h5 h6 h7 h8 h9 h10 h11 h0 h1 h2, strS_3 h0 h1 h2 h3 h4 h5 h6 h7 h8 h9 h10 h11]; exact nrm_del3_9 a0 a1 a2 a3 a4 a5 a6 a7 a8 a9 a10 a11
    · rw [strS_4 h3 h4 h5 h6 h7 h8 h9 h10 h11 h0 h1 h2, strS_4 h0 h1 h2 h3 h4 h5 h6 h7 h8 h9 h10 h11]; exact nrm_del4_9 a0 a1 a2 a3 a4 a5 a6 a7 a8 a9 a10 a11
    · rw [strS_5 h3 h4 h5 h6 h7 h8 h9 h10 h11 h0 h1 h2, strS_5 h0 h1 h2 h3 h4 h5 h6 h7 h8 h9 h10 h11]; exact nrm_del5_9 a0 a1 a2 a3 a4 a5 a6 a7 a8 a9 a10 a11
    · rw [strS_6 h3 h4 h5 h6 h7 h8 h9 h10 h11 h0 h1 h2, strS_6 h0 h1 h2 h3 h4 h5 h6 h7 h8 h9 h10 h11]; exact nrm_del6_9 a0 a1 a2 a3 a4 a5 a6 a7 a8 a9 a10 a11
    · rw [strS_7 h3 h4 h5 h6 h7 h8 h9 h10 h11 h0 h1 h2, strS_7 h0 h1 h2 h3 h4 h5 h6 h7 h8 h9 h10 h11]; exact nrm_del7_9 a0 a1 a2 a3 a4 a5 a6 a7 a8 a9 a10 a11
    · rw [strS_8 h3 h4 h5 h6 h7 h8 h9 h10 h11 h0 h1 h2, strS_8 h0 h1 h2 h3 h4 h5 h6 h7 h8 h9 h10 h11]; exact nrm_del8_9 a0 a1 a2 a3 a4 a5 a6 a7 a8 a9 a10 a11
    · rw [strS_9 h3 h4 h5 h6 h7 h8 h9 h10 h11 h0 h1 h2, strS_9 h0 h1 h2 h3 h4 h5 h6 h7 h8 h9 h10 h11]; exact nrm_del9_9 a0 a1 a2 a3 a4 a5 a6 a7 a8 a9 a10 a11
    · rw [strS_10 h3 h4 h5 h6 h7 h8 h9 h10 h11 h0 h1 h2, strS_10 h0 h1 h2 h3 h4 h5 h6 h7 h8 h9 h10 h11]; exact nrm_del10_9 a0 a1 a2 a3 a4 a5 a6 a7 a8 a9 a10 a11
    · rw [strS_11 h3 h4 h5 h6 h7 h8 h9 h10 h11 h0 h1 h2, strS_11 h0 h1 h2 h3 h4 h5 h6 h7 h8 h9 h10 h11]; exact nrm_del11_9 a0 a1 a2 a3 a4 a5 a6 a7 a8 a9 a10 a11
  · rw [del_10 hs]
    rcases hh with rfl | rfl | rfl | rfl | rfl | rfl | rfl | rfl | rfl | rfl | rfl | rfl
    · rw [strS_0 h2 h3 h4 h5 h6 h7 h8 h9 h10 h11 h0 h1, strS_0 h0 h1 h2 h3 h4 h5 h6 h7 h8 h9 h10 h11]; exact nrm_del0_10 a0 a1 a2 a3 a4 a5 a6 a7 a8 a9 a10 a11
    · rw [strS_1 h2 h3 h4 h5 h6 h7 h8 h9 h10 h11 h0 h1, strS_1 h0 h1 h2 h3 h4 h5 h6 h7 h8 h9 h10 h11]; exact nrm_del1_10 a0 a1 a2 a3 a4 a5 a6 a7 a8 a9 a10 a11
    · rw [strS_2 h2 h3 h4 h5 h6 h7 h8 h9 h10 h11 h0 h1, strS_2 h0 h1 h2 h3 h4 h5 h6 h7 h8 h9 h10 h11]; exact nrm_del2_10 a0 a1 a2 a3 a4 a5 a6 a7 a8 a9 a10 a11
    · rw [strS_3 h2 h3 h4 h5 h6 h7 h8 h9 h10 h11 h0 h1, strS_3 h0 h1 h2 h3 h4 h5 h6 h7 h8 h9 h10 h11]; exact nrm_del3_10 a0 a1 a2 a3 a4 a5 a6 a7 a8 a9 a10 a11
    · rw [strS_4 h2 h3 h4 h5 h6 h7 h8 h9 h10 h11 h0 h1, strS_4 h0 h1 h2 h3 h4 h5 h6 h7 h8 h9 h10 h11]; exact nrm_del4_10 a0 a1 a2 a3 a4 a5 a6 a7 a8 a9 a10 a11
    · rw [strS_5 h2 h3 h4 h5 h6 h7 h8 h9 h10 h11 h0 h1, strS_5 h0 h1 h2 h3 h4 h5 h6 h7 h8 h9 h10 h11]; exact nrm_del5_10 a0 a1 a2 a3 a4 a5 a6 a7 a8 a9 a10 a11
    · rw [strS_6 h2 h3 h4 h5 h6 h7 h8 h9 h10 h11 h0 h1, strS_6 h0 h1 h2 h3 h4 h5 h6 h7 h8 h9 h10 h11]; exact nrm_del6_10 a0 a1 a2 a3 a4 a5 a6 a7 a8 a9 a10 a11
    · rw [strS_7 h2 h3 h4 h5 h6 h7 h8 h9 h10 h11 h0 h1, strS_7 h0 h1 h2 h3 h4 h5 h6 h7 h8 h9 h10 h11]; exact nrm_del7_10 a0 a1 a2 a3 a4 a5 a6 a7 a8 a9 a10 a11
    · rw [strS_8 h2 h3 h4 h5 h6 h7 h8 h9 h10 h11 h0 h1, strS_8 h0 h1 h2 h3 h4 h5 h6 h7 h8 h9 h10 h11]; exact nrm_del8_10 a0 a1 a2 a3 a4 a5 a6 a7 a8 a9 a10 a11
    · rw [strS_9 h2 h3 h4 h5 h6 h7 h8 h9 h10 h11 h0 h1, strS_9 h0 h1 h2 h3 h4 h5 h6 h7 h8 h9 h10 h11]; exact nrm_del9_10 a0 a1 a2 a3 a4 a5 a6 a7 a8 a9 a10 a11
    · rw [strS_10 h2 h3 h4 h5 h6 h7 h8 h9 h10 h11 h0 h1, strS_10 h0 h1 h2 h3 h4 h5 h6 h7 h8 h9 h10 h11]; exact nrm_del10_10 a0 a1 a2 a3 a4 a5 a6 a7 a8 a9 a10 a11
    · rw [strS_11 h2 h3 h4 h5 h6 h7 h8 h9 h10 h11 h0 h1, strS_11 h0 h1 h2 h3 h4 h5 h6 h7 h8 h9 h10 h11]; exact nrm_del11_10 a0 a1 a2 a3 a4 a5 a6 a7 a8 a9 a10 a11
  · rw [del_11 hs]
    rcases hh with rfl | rfl | rfl | rfl | rfl | rfl | rfl | rfl | rfl | rfl | rfl | rfl
    · rw [strS_0 h1 h2 h3 h4 h5 h6 h7 h8 h9 h10 h11 h0, strS_0 h0 h1 h2 h3 h4 h5 h6 h7 h8 h9 h10 h11]; exact nrm_del0_11 a0 a1 a2 a3 a4 a5 a6 a7 a8 a9 a10 a11
    · rw [strS_1 h1 h2 h3 h4 h5 h6 h7 h8 h9 h10 h11 h0, strS_1 h0 h1 h2 h3 h4 h5 h6 h7 h8 h9 h10 h11]; exact nrm_del1_11 a0 a1 a2 a3 a4 a5 a6 a7 a8 a9 a10 a11
    · rw [strS_2 h1 h2 h3 h4 h5 h6 h7 h8 h9 h10 h11 h0, strS_2 h0 h1 h2 h3 h4 h5 h6 h7 h8 h9 h10 h11]; exact nrm_del2_11 a0 a1 a2 a3 a4 a5 a6 a7 a8 a9 a10 a11
    · rw [strS_3 h1 h2 h3 h4 h5 h6 h7 h8 h9 h10 h11 h0, strS_3 h0 h1 h2 h3 h4 h5 h6 h7 h8 h9 h10 h11]; exact nrm_del3_11 a0 a1 a2 a3 a4 a5 a6 a7 a8 a9 a10 a11
    · rw [strS_4 h1 h2 h3 h4 h5 h6 h7 h8 h9 h10 h11 h0, strS_4 h0 h1 h2 h3 h4 h5 h6 h7 h8 h9 h10 h11]; exact nrm_del4_11 a0 a1 a2 a3 a4 a5 a6 a7 a8 a9 a10 a11
    · rw [strS_5 h1 h2 h3 h4 h5 h6 h7 h8 h9 h10 h11 h0, strS_5 h0 h1 h2 h3 h4 h5 h6 h7 h8 h9 h10 h11]; exact nrm_del5_11 a0 a1 a2 a3 a4 a5 a6 a7 a8 a9 a10 a11
    · rw [strS_6 h1 h2 h3 h4 h5 h6 h7 h8 h9 h10 h11 h0, strS_6 h0 h1 h2 h3 h4 h5 h6 h7 h8 h9 h10 h11]; exact nrm_del6_11 a0 a1 a2 a3 a4 a5 a6 a7 a8 a9 a10 a11
    · rw [strS_7 h1 h2 h3 h4 h5 h6 h7 h8 h9 h10 h11 h0, strS_7 h0 h1 h2 h3 h4 h5 h6 h7 h8 h9 h10 h11]; exact nrm_del7_11 a0 a1 a2 a3 a4 a5 a6 a7 a8 a9 a10 a11
    · rw [strS_8 h1 h2 h3 h4 h5 h6 h7 h8 h9 h10 h11 h0, strS_8 h0 h1 h2 h3 h4 h5 h6 h7 h8 h9 h10 h11]; exact nrm_del8_11 a0 a1 a2 a3 a4 a5 a6 a7 a8 a9 a10 a11
    · rw [strS_9 h1 h2 h3 h4 h5 h6 h7 h8 h9 h10 h11 h0, strS_9 h0 h1 h2 h3 h4 h5 h6 h7 h8 h9 h10 h11]; exact nrm_del9_11 a0 a1 a2 a3 a4 a5 a6 a7 a8 a9 a10 a11
    · rw [strS_10 h1 h2 h3 h4 h5 h6 h7 h8 h9 h10 h11 h0, strS_10 h0 h1 h2 h3 h4 h5 h6 h7 h8 h9 h10 h11]; exact nrm_del10_11 a0 a1 a2 a3 a4 a5 a6 a7 a8 a9 a10 a11
    · rw [strS_11 h1 h2 h3 h4 h5 h6 h7 h8 h9 h10 h11 h0, strS_11 h0 h1 h2 h3 h4 h5 h6 h7 h8 h9 h10 h11]; exact nrm_del11_11 a0 a1 a2 a3 a4 a5 a6 a7 a8 a9 a10 a11
end

section
set_option linter.unusedSimpArgs false
set_option linter.unusedVariables false
open Go.RowKit

/-- the strength, without any wrap, at larger numbers. -/
theorem st_exact2 {x : Cy} (h : Bd 2097152 x) : stC x = nrm x := by
  obtain ⟨x0, x1, x2, x3⟩ := x
  obtain ⟨h0, h1, h2, h3⟩ := h
  simp only at h0 h1 h2 h3
  have b0 : wrap64 (x0 - x1) = x0 - x1 := wrapIn (by omega)
  have b1 : wrap64 (-x1) = -x1 := wrapIn (by omega)
  have c0 : wrap64 (x2 - x3) = x2 - x3 := wrapIn (by omega)
  have c1 : wrap64 (-x3) = -x3 := wrapIn (by omega)
  unfold stC st0 st1 nrm
  simp only
  rw [b0, b1, c0, c1]
  obtain ⟨f1, f2, f3, f4⟩ := ei_exact (a := x0) (b := x1) (c := x0 - x1) (d := -x1) (by omega) (by omega) (by omega) (by omega)
  obtain ⟨g1, g2, g3, g4⟩ := ei_exact (a := x2) (b := x3) (c := x2 - x3) (d := -x3) (by omega) (by omega) (by omega) (by omega)
  obtain ⟨m1, m2, m3, m4⟩ := ei_exact (a := x2) (b := x3) (c := x0 - x1) (d := -x1) (by omega) (by omega) (by omega) (by omega)
  rw [wrapIn (x := eiA x0 x1 (x0 - x1) (-x1) + eiA x2 x3 (x2 - x3) (-x3)) (by omega), wrapIn (x := -(eiB x2 x3 (x0 - x1) (-x1))) (by omega), f1, g1, m2]
  refine Prod.ext ?_ ?_
  · simp only; grind
  · simp only; grind
theorem cycE_ok {o : Cy} (h : Bd 1048576 o) : cycE o.1 o.2.1 o.2.2.1 o.2.2.2 = 0 := by
  obtain ⟨o0, o1, o2, o3⟩ := o
  obtain ⟨h0, h1, h2, h3⟩ := h
  simp only at h0 h1 h2 h3
  refine allE_of fun x hx => ?_
  simp only [List.mem_cons, List.not_mem_nil, or_false] at hx
  rcases hx with rfl | rfl | rfl | rfl <;> omega
/-- the strength of a number that is not too large. -/
theorem strX_ok {o : Cy} (h : Bd 1048576 o) (w : World) :
    Calls Tryz.prog 12 #[.agg #[.int .i64 o.1, .int .i64 o.2.1, .int .i64 o.2.2.1, .int .i64 o.2.2.2]] w fun e w' => e = .returned (.tuple #[.agg (ia [(nrm o).1, (nrm o).2]), .int .i64 0]) ∧ Below w.heap.size w w' := by
  have hc := cycE_ok h
  have hn := st_exact2 (h.mono (show (1048576 : Int) ≤ 2097152 by decide))
  rw [← hn]
  have := StrengthH_any o.1 o.2.1 o.2.2.1 o.2.2.2 w
  rw [hc, twoOr, if_pos rfl] at this
  exact this
theorem nrm_bd {o : Cy} (h : Bd 1200 o) : (-8640000 ≤ (nrm o).1 ∧ (nrm o).1 ≤ 8640000) ∧ (-2880000 ≤ (nrm o).2 ∧ (nrm o).2 ≤ 2880000) := by
  obtain ⟨o0, o1, o2, o3⟩ := o
  obtain ⟨h0, h1, h2, h3⟩ := h
  simp only at h0 h1 h2 h3
  have m1 := mulb h0 h0
  have m2 := mulb h0 h1
  have m3 := mulb h1 h1
  have m4 := mulb h2 h2
  have m5 := mulb h2 h3
  have m6 := mulb h3 h3
  have m7 := mulb h1 h2
  have m8 := mulb h0 h3
  unfold nrm
  simp only
  omega
theorem strS_bd {l : List Int} (hl : ∀ x ∈ l, -100 ≤ x ∧ x ≤ 100) (h : Nat) : (-8640000 ≤ (strS l h).1 ∧ (strS l h).1 ≤ 8640000) ∧ (-2880000 ≤ (strS l h).2 ∧ (strS l h).2 ≤ 2880000) := by
  rw [strS_nrm hl]
  exact nrm_bd (order_all hl (h : Int))
theorem strS_ok {l : List Int} (hl : ∀ x ∈ l, -100 ≤ x ∧ x ≤ 100) (h : Nat) (o : Cy) (ho : o = orderC l (h : Int)) (w : World) :
    Calls Tryz.prog 12 #[.agg #[.int .i64 o.1, .int .i64 o.2.1, .int .i64 o.2.2.1, .int .i64 o.2.2.2]] w fun e w' => e = .returned (.tuple #[.agg (ia [(strS l h).1, (strS l h).2]), .int .i64 0]) ∧ Below w.heap.size w w' := by
  rw [strS_nrm hl, ← ho]
  exact strX_ok (by rw [ho]; exact (order_all hl (h : Int)).mono (by decide)) w
theorem rootE_small {a b : Int} (ha : -8640000 ≤ a ∧ a ≤ 8640000) (hb : -2880000 ≤ b ∧ b ≤ 2880000) : rootE a b = 0 := allE_of (by
  intro x hx
  simp only [List.mem_cons, List.not_mem_nil, or_false] at hx
  rcases hx with rfl | rfl <;> omega)
/-- the product of two numbers of a spectrum, without any wrap. -/
theorem pr_exact {x y : Cy} (hx : Bd 1200 x) (hy : Bd 1200 y) : cyMul x y = prC x y := by
  obtain ⟨x0, x1, x2, x3⟩ := x
  obtain ⟨y0, y1, y2, y3⟩ := y
  obtain ⟨h0, h1, h2, h3⟩ := hx
  obtain ⟨g0, g1, g2, g3⟩ := hy
  simp only at h0 h1 h2 h3 g0 g1 g2 g3
  obtain ⟨a1, a2, a3, a4⟩ := ei_exact (a := x0) (b := x1) (c := y0) (d := y1) (by omega) (by omega) (by omega) (by omega)
  obtain ⟨b1, b2, b3, b4⟩ := ei_exact (a := x2) (b := x3) (c := y2) (d := y3) (by omega) (by omega) (by omega) (by omega)
  obtain ⟨c1, c2, c3, c4⟩ := ei_exact (a := x0) (b := x1) (c := y2) (d := y3) (by omega) (by omega) (by omega) (by omega)
  obtain ⟨d1, d2, d3, d4⟩ := ei_exact (a := x2) (b := x3) (c := y0) (d := y1) (by omega) (by omega) (by omega) (by omega)
  unfold cyMul cy0 cy1 cy2 cy3 prC
  refine Prod.ext ?_ (Prod.ext ?_ (Prod.ext ?_ ?_)) <;> simp only
  · rw [wrapIn (by omega), a1, b1]
  · rw [wrapIn (by omega), a2, b2]
  · rw [wrapIn (by omega), c1, d1]
  · rw [wrapIn (by omega), c2, d2]
theorem lv_bd {l : List Int} (hb : ∀ x ∈ l, -100 ≤ x ∧ x ≤ 100) (k : Nat) : -100 ≤ l[k]?.getD 0 ∧ l[k]?.getD 0 ≤ 100 := by
  rcases Nat.lt_or_ge k l.length with c | c
  · rw [List.getElem?_eq_getElem c]; exact hb _ (List.getElem_mem c)
  · rw [List.getElem?_eq_none c]; exact ⟨by decide, by decide⟩
theorem sumQ_bd {l : List Int} (hb : ∀ x ∈ l, -100 ≤ x ∧ x ≤ 100) : ∀ k : Nat, -(10000 * (k : Int)) ≤ sumQ l k ∧ sumQ l k ≤ 10000 * (k : Int)
  | 0 => by simp [sumQ]
  | k + 1 => by
    have ih := sumQ_bd hb k
    have hx := lv_bd hb k
    have hm := mulb hx hx
    rw [sumQ]
    omega
theorem sumA_bd {l : List Int} (hb : ∀ x ∈ l, -100 ≤ x ∧ x ≤ 100) : ∀ k : Nat, -(8640000 * (k : Int)) ≤ sumA l k ∧ sumA l k ≤ 8640000 * (k : Int)
  | 0 => by simp [sumA]
  | k + 1 => by
    have ih := sumA_bd hb k
    have hx := strS_bd hb k
    rw [sumA]
    omega
theorem sumB_bd {l : List Int} (hb : ∀ x ∈ l, -100 ≤ x ∧ x ≤ 100) : ∀ k : Nat, -(2880000 * (k : Int)) ≤ sumB l k ∧ sumB l k ≤ 2880000 * (k : Int)
  | 0 => by simp [sumB]
  | k + 1 => by
    have ih := sumB_bd hb k
    have hx := strS_bd hb k
    rw [sumB]
    omega
/-- the strengths so far, in a row. -/
def rtF (l : List Int) (k j : Nat) : Int := if j < 2 * k then (if j % 2 = 0 then (strS l (j / 2)).1 else (strS l (j / 2)).2) else 0
theorem rtF_zero (l : List Int) : List.replicate 24 (0 : Int) = upto (rtF l 0) 24 := by
  rw [zeros_upto]
  exact upto_congr fun j _ => by unfold rtF; rw [if_neg (by omega)]
theorem rtF_set (l : List Int) (k : Nat) (hk : k < 12) : ((upto (rtF l k) 24).set (k * 2) (strS l k).1).set (k * 2 + 1) (strS l k).2 = upto (rtF l (k + 1)) 24 := by
  apply List.ext_getElem?
  intro j
  rw [List.getElem?_set, List.getElem?_set, List.length_set, upto_length, upto_get, upto_get]
  by_cases c1 : k * 2 + 1 = j
  · subst c1
    rw [if_pos rfl, if_pos (by omega), if_pos (by omega), rtF, if_pos (by omega), if_neg (by omega), show (k * 2 + 1) / 2 = k by omega]
  · rw [if_neg c1]
    by_cases c2 : k * 2 = j
    · subst c2
      rw [if_pos rfl, if_pos (by omega), if_pos (by omega), rtF, if_pos (by omega), if_pos (by omega), show (k * 2) / 2 = k by omega]
    · rw [if_neg c2]
      by_cases c3 : j < 24
      · rw [if_pos c3, if_pos c3]
        unfold rtF
        by_cases c4 : j < 2 * k
        · rw [if_pos c4, if_pos (show j < 2 * (k + 1) by omega)]
        · rw [if_neg c4, if_neg (by omega)]
      · rw [if_neg c3, if_neg c3]
theorem neqRootH (a b : Int) (W : World) : Sem.run Tryz.prog (binOp .neq 39 (.agg #[.int .i64 a, .int .i64 b]) (.agg #[.int .i64 a, .int .i64 b])) W = .ok (.bool false) W := by
  go_simp
theorem neqRootR (a b : Int) (W : World) : Sem.run Tryz.prog (binOp .neq 37 (.agg #[.int .i64 a, .int .i64 b]) (.agg #[.int .i64 a, .int .i64 b])) W = .ok (.bool false) W := by
  go_simp
end

section
set_option linter.unusedSimpArgs false
set_option linter.unusedVariables false
open Go.RowKit

def sumL (la lb : List Int) : List Int := upto (fun j => la[j]?.getD 0 + lb[j]?.getD 0) 12
theorem sumL_length (la lb : List Int) : (sumL la lb).length = 12 := upto_length _ _
theorem sumL_get (la lb : List Int) {k : Nat} (hk : k < 12) : (sumL la lb)[k]?.getD 0 = la[k]?.getD 0 + lb[k]?.getD 0 := by
  unfold sumL
  rw [upto_get, if_pos hk]
  rfl
@[reducible] def addC (x y : Cy) : Cy := (x.1 + y.1, x.2.1 + y.2.1, x.2.2.1 + y.2.2.1, x.2.2.2 + y.2.2.2)
set_option maxHeartbeats 2000000 in
theorem sum_ord {la lb : List Int} (hla : la.length = 12) (hlb : lb.length = 12) (ha : ∀ x ∈ la, -100 ≤ x ∧ x ≤ 100) (hb : ∀ x ∈ lb, -100 ≤ x ∧ x ≤ 100) (hc : ∀ x ∈ sumL la lb, -100 ≤ x ∧ x ≤ 100) (h : Nat) (hh : h < 12) :
    orderC (sumL la lb) (h : Int) = addC (orderC la (h : Int)) (orderC lb (h : Int)) := by
  obtain ⟨a0, a1, a2, a3, a4, a5, a6, a7, a8, a9, a10, a11, rfl⟩ := twelve hla
  obtain ⟨b0, b1, b2, b3, b4, b5, b6, b7, b8, b9, b10, b11, rfl⟩ := twelve hlb
  have hs : sumL [a0, a1, a2, a3, a4, a5, a6, a7, a8, a9, a10, a11] [b0, b1, b2, b3, b4, b5, b6, b7, b8, b9, b10, b11] = [a0 + b0, a1 + b1, a2 + b2, a3 + b3, a4 + b4, a5 + b5, a6 + b6, a7 + b7, a8 + b8, a9 + b9, a10 + b10, a11 + b11] := rfl
  rw [hs] at hc ⊢
  clear hs
  have h0 := ha a0 (by simp)
  have g0 := hb b0 (by simp)
  have e0 := hc (a0 + b0) (by simp)
  have h1 := ha a1 (by simp)
  have g1 := hb b1 (by simp)
  have e1 := hc (a1 + b1) (by simp)
  have h2 := ha a2 (by simp)
  have g2 := hb b2 (by simp)
  have e2 := hc (a2 + b2) (by simp)
  have h3 := ha a3 (by simp)
  have g3 := hb b3 (by simp)
  have e3 := hc (a3 + b3) (by simp)
  have h4 := ha a4 (by simp)
  have g4 := hb b4 (by simp)
  have e4 := hc (a4 + b4) (by simp)
  have h5 := ha a5 (by simp)
  have g5 := hb b5 (by simp)
  have e5 := hc (a5 + b5) (by simp)
  have h6 := ha a6 (by simp)
  have g6 := hb b6 (by simp)
  have e6 := hc (a6 + b6) (by simp)
  have h7 := ha a7 (by simp)
  have g7 := hb b7 (by simp)
  have e7 := hc (a7 + b7) (by simp)
  have h8 := ha a8 (by simp)
  have g8 := hb b8 (by simp)
  have e8 := hc (a8 + b8) (by simp)
  have h9 := ha a9 (by simp)
  have g9 := hb b9 (by simp)
  have e9 := hc (a9 + b9) (by simp)
  have h10 := ha a10 (by simp)
  have g10 := hb b10 (by simp)
  have e10 := hc (a10 + b10) (by simp)
  have h11 := ha a11 (by simp)
  have g11 := hb b11 (by simp)
  have e11 := hc (a11 + b11) (by simp)
  clear ha hb hc hla hlb
  match h, hh with
  | 0, _ => rw [show ((0 : Nat) : Int) = 0 from rfl, ord0_eq e0 e1 e2 e3 e4 e5 e6 e7 e8 e9 e10 e11, ord0_eq h0 h1 h2 h3 h4 h5 h6 h7 h8 h9 h10 h11, ord0_eq g0 g1 g2 g3 g4 g5 g6 g7 g8 g9 g10 g11]; unfold ord0 addC; refine Prod.ext ?_ (Prod.ext ?_ (Prod.ext ?_ ?_)) <;> simp only <;> omega
  | 1, _ => rw [show ((1 : Nat) : Int) = 1 from rfl, ord1_eq e0 e1 e2 e3 e4 e5 e6 e7 e8 e9 e10 e11, ord1_eq h0 h1 h2 h3 h4 h5 h6 h7 h8 h9 h10 h11, ord1_eq g0 g1 g2 g3 g4 g5 g6 g7 g8 g9 g10 g11]; unfold ord1 addC; refine Prod.ext ?_ (Prod.ext ?_ (Prod.ext ?_ ?_)) <;> simp only <;> omega
  | 2, _ => rw [show ((2 : Nat) : Int) = 2 from rfl, ord2_eq e0 e1 e2 e3 e4 e5 e6 e7 e8 e9 e10 e11, ord2_eq h0 h1 h2 h3 h4 h5 h6 h7 h8 h9 h10 h11, ord2_eq g0 g1 g2 g3 g4 g5 g6 g7 g8 g9 g10 g11]; unfold ord2 addC; refine Prod.ext ?_ (Prod.ext ?_ (Prod.ext ?_ ?_)) <;> simp only <;> omega
  | 3, _ => rw [show ((3 : Nat) : Int) = 3 from rfl, ord3_eq e0 e1 e2 e3 e4 e5 e6 e7 e8 e9 e10 e11, ord3_eq h0 h1 h2 h3 h4 h5 h6 h7 h8 h9 h10 h11, ord3_eq g0 g1 g2 g3 g4 g5 g6 g7 g8 g9 g10 g11]; unfold ord3 addC; refine Prod.ext ?_ (Prod.ext ?_ (Prod.ext ?_ ?_)) <;> simp only <;> omega
  | 4, _ => rw [show ((4 : Nat) : Int) = 4 from rfl, ord4_eq e0 e1 e2 e3 e4 e5 e6 e7 e8 e9 e10 e11, ord4_eq h0 h1 h2 h3 h4 h5 h6 h7 h8 h9 h10 h11, ord4_eq g0 g1 g2 g3 g4 g5 g6 g7 g8 g9 g10 g11]; unfold ord4 addC; refine Prod.ext ?_ (Prod.ext ?_ (Prod.ext ?_ ?_)) <;> simp only <;> omega
  | 5, _ => rw [show ((5 : Nat) : Int) = 5 from rfl, ord5_eq e0 e1 e2 e3 e4 e5 e6 e7 e8 e9 e10 e11, ord5_eq h0 h1 h2 h3 h4 h5 h6 h7 h8 h9 h10 h11, ord5_eq g0 g1 g2 g3 g4 g5 g6 g7 g8 g9 g10 g11]; unfold ord5 addC; refine Prod.ext ?_ (Prod.ext ?_ (Prod.ext ?_ ?_)) <;> simp only <;> omega
  | 6, _ => rw [show ((6 : Nat) : Int) = 6 from rfl, ord6_eq e0 e1 e2 e3 e4 e5 e6 e7 e8 e9 e10 e11, ord6_eq h0 h1 h2 h3 h4 h5 h6 h7 h8 h9 h10 h11, ord6_eq g0 g1 g2 g3 g4 g5 g6 g7 g8 g9 g10 g11]; unfold ord6 addC; refine Prod.ext ?_ (Prod.ext ?_ (Prod.ext ?_ ?_)) <;> simp only <;> omega
  | 7, _ => rw [show ((7 : Nat) : Int) = 7 from rfl, ord7_eq e0 e1 e2 e3 e4 e5 e6 e7 e8 e9 e10 e11, ord7_eq h0 h1 h2 h3 h4 h5 h6 h7 h8 h9 h10 h11, ord7_eq g0 g1 g2 g3 g4 g5 g6 g7 g8 g9 g10 g11]; unfold ord7 addC; refine Prod.ext ?_ (Prod.ext ?_ (Prod.ext ?_ ?_)) <;> simp only <;> omega
  | 8, _ => rw [show ((8 : Nat) : Int) = 8 from rfl, ord8_eq e0 e1 e2 e3 e4 e5 e6 e7 e8 e9 e10 e11, ord8_eq h0 h1 h2 h3 h4 h5 h6 h7 h8 h9 h10 h11, ord8_eq g0 g1 g2 g3 g4 g5 g6 g7 g8 g9 g10 g11]; unfold ord8 addC; refine Prod.ext ?_ (Prod.ext ?_ (Prod.ext ?_ ?_)) <;> simp only <;> omega
  | 9, _ => rw [show ((9 : Nat) : Int) = 9 from rfl, ord9_eq e0 e1 e2 e3 e4 e5 e6 e7 e8 e9 e10 e11, ord9_eq h0 h1 h2 h3 h4 h5 h6 h7 h8 h9 h10 h11, ord9_eq g0 g1 g2 g3 g4 g5 g6 g7 g8 g9 g10 g11]; unfold ord9 addC; refine Prod.ext ?_ (Prod.ext ?_ (Prod.ext ?_ ?_)) <;> simp only <;> omega
  | 10, _ => rw [show ((10 : Nat) : Int) = 10 from rfl, ord10_eq e0 e1 e2 e3 e4 e5 e6 e7 e8 e9 e10 e11, ord10_eq h0 h1 h2 h3 h4 h5 h6 h7 h8 h9 h10 h11, ord10_eq g0 g1 g2 g3 g4 g5 g6 g7 g8 g9 g10 g11]; unfold ord10 addC; refine Prod.ext ?_ (Prod.ext ?_ (Prod.ext ?_ ?_)) <;> simp only <;> omega
  | 11, _ => rw [show ((11 : Nat) : Int) = 11 from rfl, ord11_eq e0 e1 e2 e3 e4 e5 e6 e7 e8 e9 e10 e11, ord11_eq h0 h1 h2 h3 h4 h5 h6 h7 h8 h9 h10 h11, ord11_eq g0 g1 g2 g3 g4 g5 g6 g7 g8 g9 g10 g11]; unfold ord11 addC; refine Prod.ext ?_ (Prod.ext ?_ (Prod.ext ?_ ?_)) <;> simp only <;> omega
/-- a number of a valid product is not too large. -/
theorem cyc_bd {o : Cy} (h : cycE o.1 o.2.1 o.2.2.1 o.2.2.2 = 0) : Bd 1048576 o := by
  have hz := firstE_mapOk (g := fun x => withinE x (-1048576) 1048576) (l := [o.1, o.2.1, o.2.2.1, o.2.2.2]) h
  exact ⟨withinE_zero (hz _ (by simp)), withinE_zero (hz _ (by simp)), withinE_zero (hz _ (by simp)), withinE_zero (hz _ (by simp))⟩
theorem rt_get0 (l : List Int) {k : Nat} (hk : k < 12) : (upto (rtF l 12) 24)[k * 2]?.getD 0 = (strS l k).1 := by
  rw [upto_get, if_pos (by omega)]
  show rtF l 12 (k * 2) = _
  rw [rtF, if_pos (by omega), if_pos (by omega), show k * 2 / 2 = k by omega]
theorem rt_get1 (l : List Int) {k : Nat} (hk : k < 12) : (upto (rtF l 12) 24)[k * 2 + 1]?.getD 0 = (strS l k).2 := by
  rw [upto_get, if_pos (by omega)]
  show rtF l 12 (k * 2 + 1) = _
  rw [rtF, if_pos (by omega), if_neg (by omega), show (k * 2 + 1) / 2 = k by omega]
theorem Tryz.infoCyZ : (Tryz.prog.info? 29).map (·.size) = some 4 := by kernel_rfl
theorem neqCyR (a b c d : Int) (W : World) : Sem.run Tryz.prog (binOp .neq 46 (.agg #[.int .i64 a, .int .i64 b, .int .i64 c, .int .i64 d]) (.agg #[.int .i64 a, .int .i64 b, .int .i64 c, .int .i64 d])) W = .ok (.bool false) W := by
  go_simp
end

end Go.Proofs.YtoihfmndhfnmmaaGreatDoor

/- TopShackleTapped: the fixed example. -/
import Derived.Test.YtpkaoechbmbolaaGreatDoorTapE
namespace Go.Proofs.YtpkaoechbmbolaaGreatDoor
set_option linter.unusedSimpArgs false
set_option linter.unusedVariables false
open Go.RowKit

theorem extract4 {cs : Array Value} {o : Nat} {a b c d : Value} (h0 : cs[o]? = some a) (h1 : cs[o + 1]? = some b) (h2 : cs[o + 2]? = some c) (h3 : cs[o + 3]? = some d) : cs.extract o (o + 4) = #[a, b, c, d] := by
  have hs : o + 3 < cs.size := (Array.getElem?_eq_some_iff.1 h3).1
  apply Array.ext_getElem?
  intro j
  rw [Array.getElem?_extract]
  by_cases hj : j < 4
  · rw [if_pos (by omega)]
    have : j = 0 ∨ j = 1 ∨ j = 2 ∨ j = 3 := by omega
    rcases this with rfl | rfl | rfl | rfl
    · simpa using h0
    · simpa using h1
    · simpa using h2
    · simpa using h3
  · rw [if_neg (by omega)]
    rw [Array.getElem?_eq_none (by simp; omega)]
theorem Tryz.infoCyH4 : (Tryz.prog.info? 68).map (·.size) = some 4 := by kernel_rfl
theorem part4 {T : TypeId} (hT : (Tryz.prog.info? T).map (·.size) = some 4) {fs : Array Field} (hu : Tryz.prog.underlying T = some (.struct fs)) (l : List Int) (k : Nat) (hk : k * 4 + 3 < l.length) (w : World) :
    (part T (ia l) (k * 4)).run Tryz.prog w = .ok (.agg #[.int .i64 (l[k * 4]?.getD 0), .int .i64 (l[k * 4 + 1]?.getD 0), .int .i64 (l[k * 4 + 2]?.getD 0), .int .i64 (l[k * 4 + 3]?.getD 0)]) w := by
  obtain ⟨i, hi⟩ : ∃ i, Tryz.prog.info? T = some i := by
    cases h : Tryz.prog.info? T with
    | none => rw [h] at hT; cases hT
    | some i => exact ⟨i, rfl⟩
  have hs : i.size = 4 := by rw [hi] at hT; simpa using hT
  simp [part, isAgg, run_underlying hu, sizeOf, typeInfo, hi, hs]
  exact extract4 (ia_get l _ (by omega)) (ia_get l _ (by omega)) (ia_get l _ (by omega)) (ia_get l _ (by omega))
theorem Tryz.undCyH : ∃ fs, Tryz.prog.underlying 68 = some (.struct fs) := ⟨_, Tryz.underlying68⟩
/-- an element of a spectrum. -/
theorem idx48 {l : List Int} (hl : l.length = 48) {k : Nat} (hk : k < 12) (w : World) : Sem.run Tryz.prog (Instr.index 69 (.agg (ia l)) (.int .i64 k)) w = .ok (.agg #[.int .i64 (l[k * 4]?.getD 0), .int .i64 (l[k * 4 + 1]?.getD 0), .int .i64 (l[k * 4 + 2]?.getD 0), .int .i64 (l[k * 4 + 3]?.getD 0)]) w := by
  obtain ⟨fs, hu⟩ := Tryz.undCyH
  obtain ⟨i, hi⟩ : ∃ i, Tryz.prog.info? 68 = some i := by
    cases h : Tryz.prog.info? 68 with
    | none => have := Tryz.infoCyH4; rw [h] at this; cases this
    | some i => exact ⟨i, rfl⟩
  have hs : i.size = 4 := by have := Tryz.infoCyH4; rw [hi] at this; simpa using this
  simp [Instr.index, asIntOf, run_underlying Tryz.undSp, sizeOf, typeInfo, hi, hs]
  rw [if_pos hk]
  exact part4 Tryz.infoCyH4 hu l k (by omega) w

def patH : List Int := [64, 32, 0, 0, 0, 0, 0, 0, 0, 0, 0, 0]
def spH : List Int := specL patH
/-- the strengths of the orders. -/
def strH (j : Nat) : Int := st0 (spH[j * 4]?.getD 0) (spH[j * 4 + 1]?.getD 0) (spH[j * 4 + 2]?.getD 0) (spH[j * 4 + 3]?.getD 0)
def strR (j : Nat) : Int := st1 (spH[j * 4]?.getD 0) (spH[j * 4 + 1]?.getD 0) (spH[j * 4 + 2]?.getD 0) (spH[j * 4 + 3]?.getD 0)
def sumH (n : Nat) : Int := (upto strH n).foldl (· + ·) 0
theorem sumH_succ (n : Nat) : sumH (n + 1) = sumH n + strH n := by
  unfold sumH
  rw [show upto strH (n + 1) = upto strH n ++ [strH n] by simp [upto, List.range_succ], List.foldl_append]; rfl
theorem heat_facts : (patE patH = 0 ∧ sumH 12 = 61440) ∧ ∀ j, j < 12 → cycE (spH[j * 4]?.getD 0) (spH[j * 4 + 1]?.getD 0) (spH[j * 4 + 2]?.getD 0) (spH[j * 4 + 3]?.getD 0) = 0 ∧ (0 ≤ strH j ∧ strH j ≤ 100000) ∧ (0 ≤ sumH j ∧ sumH j ≤ 1000000) := by
  decide +kernel
theorem Tryz.sizeSp : (Tryz.prog.info? 69).map (fun x => x.size) = some 48 := by kernel_rfl
theorem eqIv (a b : Int) (w : World) : Sem.run Tryz.prog (binOp .eql 76 (.agg #[.int .i64 a, .int .i64 b]) (.agg #[.int .i64 a, .int .i64 b])) w = .ok (.bool true) w := by
  go_simp
set_option maxRecDepth 100000 in
set_option maxHeartbeats 4000000 in
theorem heat_ok (w : World) (hw : Powers w) : Calls Tryz.prog 8 #[] w fun e w' => e = .returned (.bool true) ∧ Below w.heap.size w w' := by
  obtain ⟨⟨hp, hsum⟩, hfac⟩ := heat_facts
  have HSUM := Lib.hid hsum
  have TS := Lib.hid (show ∀ (W : World), Powers W → Calls Tryz.prog 21 #[.agg #[.int .i64 64, .int .i64 32, .int .i64 0, .int .i64 0, .int .i64 0, .int .i64 0, .int .i64 0, .int .i64 0, .int .i64 0, .int .i64 0, .int .i64 0, .int .i64 0]] W fun e w' => e = .returned (.tuple #[.agg (ia spH), .int .i64 0]) ∧ Below W.heap.size W w' from fun W h => by
    have := SpectrumH_any patH W rfl h
    rw [hp] at this
    exact this)
  have hSl : spH.length = 48 := upto_length _ _
  have TStr := Lib.hid (fun (j : Nat) (hj : j < 12) (W : World) => by
    have := StrengthH_any (spH[j * 4]?.getD 0) (spH[j * 4 + 1]?.getD 0) (spH[j * 4 + 2]?.getD 0) (spH[j * 4 + 3]?.getD 0) W
    rw [(hfac j hj).1] at this
    exact this)
  have HF := Lib.hid hfac
  have TL64 := Lib.hid (fun W => Loss64 W)
  have TL32 := Lib.hid (fun W => Loss32 W)
  obtain ⟨S, hS⟩ : ∃ S, S = spH := ⟨_, rfl⟩
  rw [← hS] at hSl TS TStr
  have HS := Lib.hid hS
  clear hp hsum hfac hS
  go_enter Tryz.func8, Tryz.ntmps8
  go_wp2_with fail
  refine (TS.out w hw).mono ?_
  rintro e w1 ⟨rfl, hb1⟩
  have hB := hb1
  replace hw := hw.carry hb1
  have hz6 : BlkI (w1.alloc (.cells (ia (List.replicate 48 0)) 69)) w1.heap.size 69 (List.replicate 48 0) := BlkI.new w1 _ _
  go_upto_region 2 with (refine wpList_storeA rfl _ _ _ rfl w1.heap.size S (List.replicate 48 0) rfl rfl hz6 (by rw [hSl]; rfl) (by rw [hSl]; exact Tryz.sizeSp) ?_)
  obtain ⟨W2, hW2⟩ : ∃ v, v = World.setRow (World.alloc w1 (Obj.cells #[.int .i64 0, .int .i64 0, .int .i64 0, .int .i64 0, .int .i64 0, .int .i64 0, .int .i64 0, .int .i64 0, .int .i64 0, .int .i64 0, .int .i64 0, .int .i64 0, .int .i64 0, .int .i64 0, .int .i64 0, .int .i64 0, .int .i64 0, .int .i64 0, .int .i64 0, .int .i64 0, .int .i64 0, .int .i64 0, .int .i64 0, .int .i64 0, .int .i64 0, .int .i64 0, .int .i64 0, .int .i64 0, .int .i64 0, .int .i64 0, .int .i64 0, .int .i64 0, .int .i64 0, .int .i64 0, .int .i64 0, .int .i64 0, .int .i64 0, .int .i64 0, .int .i64 0, .int .i64 0, .int .i64 0, .int .i64 0, .int .i64 0, .int .i64 0, .int .i64 0, .int .i64 0, .int .i64 0, .int .i64 0] 69)) w1.heap.size (ia (S)) := ⟨_, rfl⟩
  have kW2 : Below w1.heap.size w1 W2 := by rw [hW2]; exact zrow_below _ _ _ _
  have iW2 : BlkI W2 w1.heap.size 69 (S) := by rw [hW2]; exact zrow_blk w1 _ (List.replicate 48 0) _
  rw [← hW2]
  clear hW2
  replace hB := bthen hB kW2
  have iS := iW2
  clear hz6 iW2 kW2 hb1
  obtain ⟨GS, hGS⟩ : ∃ G, G = w1.heap.size := ⟨_, rfl⟩
  rw [← hGS] at iS ⊢
  clear hGS
  go_upto_region 3 with fail
  obtain ⟨W3, hW3⟩ : ∃ v, v = World.alloc W2 (Obj.cells #[.int .i64 1, .int .i64 32, .int .i64 256] 74) := ⟨_, rfl⟩
  have kW3 : Below W2.heap.size W2 W3 := by rw [hW3]; exact below_new _ _
  have iW3 : Blk W3 (W2.heap.size) 74 [.int .i64 1, .int .i64 32, .int .i64 256] := by rw [hW3]; exact Blk.new _ _ _
  have sW3 : W3.heap.size = W2.heap.size + 1 := by rw [hW3]; simp
  rw [← hW3]
  clear hW3
  have i3 := iW3
  replace hB := bthen hB kW3
  replace iS := Blk.carry iS kW3
  have a0 := i3.cell (j := 0) (v := .int .i64 1) rfl
  have a1 := i3.cell (j := 1) (v := .int .i64 32) rfl
  have a2 := i3.cell (j := 2) (v := .int .i64 256) rfl
  clear iW3 kW3 sW3
  go_wp2_with fail
  refine (TL64.out W3).mono ?_
  rintro e w4 ⟨rfl, hb4⟩
  replace hB := bthen hB hb4
  replace iS := Blk.carry iS hb4
  replace i3 := i3.carry hb4
  clear hb4 a0 a1 a2
  go_upto_region 4 with fail
  obtain ⟨W5, hW5⟩ : ∃ v, v = World.alloc w4 (Obj.cells #[.int .i64 4, .int .i64 4] 76) := ⟨_, rfl⟩
  have kW5 : Below w4.heap.size w4 W5 := by rw [hW5]; exact below_new _ _
  have iW5 : Blk W5 (w4.heap.size) 76 [.int .i64 4, .int .i64 4] := by rw [hW5]; exact Blk.new _ _ _
  have sW5 : W5.heap.size = w4.heap.size + 1 := by rw [hW5]; simp
  rw [← hW5]
  clear hW5
  have i5 := iW5
  replace hB := bthen hB kW5
  replace iS := Blk.carry iS kW5
  replace i3 := i3.carry kW5
  have a0 := i3.cell (j := 0) (v := .int .i64 1) rfl
  have a1 := i3.cell (j := 1) (v := .int .i64 32) rfl
  have a2 := i3.cell (j := 2) (v := .int .i64 256) rfl
  clear iW5 kW5 sW5
  go_wp2_with fail
  refine (TL32.out W5).mono ?_
  rintro e w6 ⟨rfl, hb6⟩
  replace hB := bthen hB hb6
  replace iS := Blk.carry iS hb6
  replace i5 := i5.carry hb6
  clear hb6 a0 a1 a2 i3
  go_upto_region 5 with fail
  obtain ⟨W7, hW7⟩ : ∃ v, v = World.alloc w6 (Obj.cells #[.int .i64 2, .int .i64 3] 76) := ⟨_, rfl⟩
  have kW7 : Below w6.heap.size w6 W7 := by rw [hW7]; exact below_new _ _
  have iW7 : Blk W7 (w6.heap.size) 76 [.int .i64 2, .int .i64 3] := by rw [hW7]; exact Blk.new _ _ _
  have sW7 : W7.heap.size = w6.heap.size + 1 := by rw [hW7]; simp
  rw [← hW7]
  clear hW7
  have i7 := iW7
  replace hB := bthen hB kW7
  replace iS : BlkI W7 GS 69 S := Blk.carry iS kW7
  replace i5 := i5.carry kW7
  clear iW7 kW7 sW7
  have hld := load48 hSl iS
  go_wp2_with (refine wpList_load rfl _ _ rfl hld ?_)
  clear hld iS
  have HI5 := Lib.hid i5
  have HI7 := Lib.hid i7
  clear i5 i7
  go_loopw [8, 40] (fun u i wx => ∃ j : Nat, j ≤ 12 ∧ i = .int .i64 j ∧ u = .int .i64 (sumH j) ∧ Below W7.heap.size W7 wx) (fun _ i _ => 12 - (intOf i).toNat)
  case atStart => exact ⟨0, by omega, rfl, rfl, Below.refl _ _⟩
  case round =>
    obtain ⟨j, hj, rfl, rfl, hbel⟩ := hrel
    by_cases hlt : j < 12
    · have hix := fun W => idx48 (l := S) hSl hlt W
      have TX := Lib.hid (TStr.out j hlt)
      obtain ⟨h1, h2, h3⟩ := HF.out j hlt
      have hsu := sumH_succ j
      have hst : st0 (S[j * 4]?.getD 0) (S[j * 4 + 1]?.getD 0) (S[j * 4 + 2]?.getD 0) (S[j * 4 + 3]?.getD 0) = strH j := by rw [HS.out]; rfl
      rw [hst] at TX
      obtain ⟨x0, hx0⟩ : ∃ x, x = S[j * 4]?.getD 0 := ⟨_, rfl⟩
      obtain ⟨x1, hx1⟩ : ∃ x, x = S[j * 4 + 1]?.getD 0 := ⟨_, rfl⟩
      obtain ⟨x2, hx2⟩ : ∃ x, x = S[j * 4 + 2]?.getD 0 := ⟨_, rfl⟩
      obtain ⟨x3, hx3⟩ : ∃ x, x = S[j * 4 + 3]?.getD 0 := ⟨_, rfl⟩
      rw [← hx0, ← hx1, ← hx2, ← hx3] at TX hix
      obtain ⟨y, hy⟩ : ∃ y, y = st1 x0 x1 x2 x3 := ⟨_, rfl⟩
      rw [← hy] at TX
      obtain ⟨z, hz⟩ : ∃ z, z = strH j := ⟨_, rfl⟩
      obtain ⟨s, hs⟩ : ∃ s, s = sumH j := ⟨_, rfl⟩
      rw [← hz] at TX hsu h2
      rw [← hs] at hsu h3 ⊢
      have HSU := Lib.hid hsu
      have q0 : IntKind.i64.wrap (s + z) = s + z := IntWalk.i64_in _ (by omega)
      have hdj : (j : Int) < 12 := by omega
      clear h1 hst hx0 hx1 hx2 hx3 hy hz hs hsu
      go_upto_region 11 with fail
      obtain ⟨V1, hV1⟩ : ∃ v, v = World.alloc wr (Obj.cells #[.int .i64 x0, .int .i64 x1, .int .i64 x2, .int .i64 x3] 68) := ⟨_, rfl⟩
      have kV1 : Below wr.heap.size wr V1 := by rw [hV1]; exact below_new _ _
      have iV1 : Blk V1 (wr.heap.size) 68 [.int .i64 x0, .int .i64 x1, .int .i64 x2, .int .i64 x3] := by rw [hV1]; exact Blk.new _ _ _
      have sV1 : V1.heap.size = wr.heap.size + 1 := by rw [hV1]; simp
      rw [← hV1]
      clear hV1
      replace hbel := bthen hbel kV1
      have c0 := iV1.cell (j := 0) (v := .int .i64 x0) rfl
      have c1 := iV1.cell (j := 1) (v := .int .i64 x1) rfl
      have c2 := iV1.cell (j := 2) (v := .int .i64 x2) rfl
      have c3 := iV1.cell (j := 3) (v := .int .i64 x3) rfl
      clear iV1 kV1 sV1 hix
      go_wp2_with fail
      refine (TX.out V1).mono ?_
      rintro e v2 ⟨he, hb2⟩
      replace he : e = .returned (.tuple #[.agg #[.int .i64 z, .int .i64 y], .int .i64 0]) := he
      subst he
      replace hbel := bthen hbel hb2
      clear c0 c1 c2 c3 hb2
      go_upto_region 12 with fail
      obtain ⟨V3, hV3⟩ : ∃ v, v = World.alloc v2 (Obj.cells #[.int .i64 z, .int .i64 y] 79) := ⟨_, rfl⟩
      have kV3 : Below v2.heap.size v2 V3 := by rw [hV3]; exact below_new _ _
      have iV3 : Blk V3 (v2.heap.size) 79 [.int .i64 z, .int .i64 y] := by rw [hV3]; exact Blk.new _ _ _
      have sV3 : V3.heap.size = v2.heap.size + 1 := by rw [hV3]; simp
      rw [← hV3]
      clear hV3
      replace hbel := bthen hbel kV3
      have c0 := iV3.cell (j := 0) (v := .int .i64 z) rfl
      clear iV3 kV3 sV3
      go_wp2_with fail
      go_roundw
      case rel => exact ⟨j + 1, by omega, by go_num, by rw [HSU.out], hbel⟩
      case measure => simp [intOf]; omega
    · have hje : j = 12 := by omega
      have hdj : ¬ (j : Int) < 12 := by omega
      have hsu : sumH j = 61440 := by rw [hje]; exact HSUM.out
      rw [hsu]
      have i5 := HI5.out.carry hbel
      have i7 := HI7.out.carry hbel
      have a0 := i5.cell (j := 0) (v := .int .i64 4) rfl
      have a1 := i5.cell (j := 1) (v := .int .i64 4) rfl
      have b0 := i7.cell (j := 0) (v := .int .i64 2) rfl
      have b1 := i7.cell (j := 1) (v := .int .i64 3) rfl
      have e1 := fun W => eqIv 4 4 W
      have e2 := fun W => eqIv 2 3 W
      clear hje hsu hlt hj i5 i7
      go_wp2
      go_ret
      exact ⟨rfl, hB.trans (hbel.mono hB.size)⟩
end Go.Proofs.YtpkaoechbmbolaaGreatDoor

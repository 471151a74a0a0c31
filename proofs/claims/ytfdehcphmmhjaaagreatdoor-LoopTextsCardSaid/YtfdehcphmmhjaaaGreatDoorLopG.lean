/- Texts of loops: the reference's Print. -/
import Derived.Test.YtfdehcphmmhjaaaGreatDoorLopF
import Derived.Test.YtfdehcphmmhjaaaGreatDoorLopE
namespace Go.Proofs.YtfdehcphmmhjaaaGreatDoor
set_option linter.unusedSimpArgs false
set_option linter.unusedVariables false
open Go.RowKit

theorem joinC_snoc (c : UInt8) (x : List UInt8) : ∀ ws : List (List UInt8), ws ≠ [] → joinC c (ws ++ [x]) = joinC c ws ++ c :: x
  | [], h => absurd rfl h
  | [p], _ => rfl
  | p :: q :: r, _ => by
    have ih := joinC_snoc c x (q :: r) (by simp)
    rw [List.cons_append, List.cons_append, joinC, ← List.cons_append, ih, joinC]
    simp
/-- a line as far as it is written. -/
def lineS (k : Nat) (l : List Int) (j : Nat) : ByteArray := ⟨(bodyK k (l.take j)).toArray⟩
theorem lineS_zero (k : Nat) (l : List Int) : lineS k l 0 = ⟨(fldL k).toArray⟩ := rfl
theorem lineS_succ (k : Nat) (l : List Int) (j : Nat) (x : Int) (h : l[j]? = some x) : lineS k l (j + 1) = (lineS k l j ++ ⟨#[32]⟩) ++ word x := by
  apply baEq
  rw [data_append, data_append]
  show bodyK k (l.take (j + 1)) = bodyK k (l.take j) ++ [32] ++ Lib.itoa x
  rw [List.take_add_one, h]
  unfold bodyK
  rw [show (some x).toList = [x] from rfl, List.map_append, ← List.cons_append]
  rw [show [x].map Lib.itoa = [Lib.itoa x] from rfl, joinC_snoc 32 _ _ (by simp)]
  simp
theorem lineS_all (k : Nat) (l : List Int) : lineS k l l.length ++ ⟨#[10]⟩ = lineT k l := by
  apply baEq
  rw [data_append, lineT_data]
  unfold lineS
  rw [List.take_length]
theorem ba_assoc (a b c : ByteArray) : (a ++ b) ++ c = a ++ (b ++ c) := by
  apply baEq
  simp only [data_append, List.append_assoc]
theorem fldL_len (k : Nat) : (fldL k).length ≤ 20 := by
  match k with
  | 0 => decide
  | 1 => decide
  | 2 => decide
  | _ + 3 => exact (by decide : (fldL 3).length ≤ 20)
def accL (tk : ByteArray) (k : Nat) (l : List Int) (j : Nat) : ByteArray := tk ++ lineS k l j
theorem accL_succ (tk : ByteArray) (k : Nat) (l : List Int) (j : Nat) (x : Int) (h : l[j]? = some x) : accL tk k l (j + 1) = (accL tk k l j ++ ⟨#[32]⟩) ++ word x := by
  unfold accL
  rw [lineS_succ k l j x h, ba_assoc, ba_assoc, ba_assoc]
set_option maxRecDepth 100000 in
set_option maxHeartbeats 8000000 in
theorem PrintR_any (va vb vc vd : Value) (a b c d : List Int) (w : World) (ha : Ints w va a) (hb : Ints w vb b) (hc : Ints w vc c) (hd : Ints w vd d) (hE : checkLoopE a b c d = 0) :
    Calls Tryz.prog 11 #[.agg #[va, vb, vc, vd]] w fun e w' => e = .returned (.string (printT 4 (four a b c d))) ∧ Below w.heap.size w w' := by
  have HA := Lib.hid ha
  have HB := Lib.hid hb
  have HC := Lib.hid hc
  have HD := Lib.hid hd
  obtain ⟨xa, ca, rfl, _⟩ := id ha
  obtain ⟨xb, cb, rfl, _⟩ := id hb
  obtain ⟨xc, cc, rfl, _⟩ := id hc
  obtain ⟨xd, cd, rfl, _⟩ := id hd
  have HE := Lib.hid hE
  obtain ⟨na, hna⟩ : ∃ n, n = a.length := ⟨_, rfl⟩
  obtain ⟨nb, hnb⟩ : ∃ n, n = b.length := ⟨_, rfl⟩
  obtain ⟨nc, hnc⟩ : ∃ n, n = c.length := ⟨_, rfl⟩
  obtain ⟨nd, hnd⟩ : ∃ n, n = d.length := ⟨_, rfl⟩
  rw [← hna, ← hnb, ← hnc, ← hnd]
  have HN := Lib.hid (And.intro hna (And.intro hnb (And.intro hnc hnd)))
  clear ha hb hc hd hE hna hnb hnc hnd
  go_enter Tryz.func11, Tryz.ntmps11
  go_upto_region 1 with fail
  obtain ⟨W1, hW1⟩ : ∃ v, v = World.alloc w (Obj.cells #[.slice xa na ca, .slice xb nb cb, .slice xc nc cc, .slice xd nd cd] 24) := ⟨_, rfl⟩
  have kW1 : Below w.heap.size w W1 := by rw [hW1]; exact below_new _ _
  have iW1 : Blk W1 (w.heap.size) 24 [.slice xa na ca, .slice xb nb cb, .slice xc nc cc, .slice xd nd cd] := by rw [hW1]; exact Blk.new _ _ _
  have sW1 : W1.heap.size = w.heap.size + 1 := by rw [hW1]; simp
  rw [← hW1]
  clear hW1
  have e0 := iW1.cell (j := 0) (v := .slice xa na ca) rfl
  have e1 := iW1.cell (j := 1) (v := .slice xb nb cb) rfl
  have e2 := iW1.cell (j := 2) (v := .slice xc nc cc) rfl
  have e3 := iW1.cell (j := 3) (v := .slice xd nd cd) rfl
  go_upto_region 2 with fail
  obtain ⟨W2, hW2⟩ : ∃ v, v = World.alloc W1 (Obj.cells #[.slice xa na ca, .slice xb nb cb, .slice xc nc cc, .slice xd nd cd] 22) := ⟨_, rfl⟩
  have kW2 : Below W1.heap.size W1 W2 := by rw [hW2]; exact below_new _ _
  have iW2 : Blk W2 (w.heap.size + 1) 22 [.slice xa na ca, .slice xb nb cb, .slice xc nc cc, .slice xd nd cd] := by rw [hW2, ← sW1]; exact Blk.new _ _ _
  have sW2 : W2.heap.size = w.heap.size + 1 + 1 := by rw [hW2]; simp [sW1]
  rw [← hW2]
  clear hW2
  have iR := iW2
  have hB := bthen kW1 kW2
  clear iW1 iW2 kW1 kW2 sW1 sW2 e0 e1 e2 e3
  go_wp2_with fail
  go_loopw [4, 5] (fun s i wr => ∃ k : Nat, k ≤ 4 ∧ i = .int .i64 k ∧ s = .string (printT k (four a b c d)) ∧ (printT k (four a b c d)).size ≤ 1000 * k ∧ Below W2.heap.size W2 wr) (fun _ i _ => 4 - (intOf i).toNat)
  case atStart => exact ⟨0, by omega, rfl, rfl, by simp [printT]; rfl, Below.refl _ _⟩
  case round =>
    obtain ⟨k, hk, rfl, rfl, hsz, hbr⟩ := hrel
    by_cases hlt : k < 4
    · have d1 : (k : Int) < 4 := by omega
      have d3 : 0 ≤ (k : Int) := by omega
      have hBr := bthen hB hbr
      have hP := checkPolyE_range (four_poly HE.out hlt)
      have hP2 := checkPolyE_ok (four_poly HE.out hlt)
      obtain ⟨x, n, cp, hv, hints, hnl⟩ : ∃ x n cp, ([.slice xa na ca, .slice xb nb cb, .slice xc nc cc, .slice xd nd cd] : List Value)[k]? = some (.slice x n cp) ∧ Ints wr (.slice x n cp) (four a b c d k) ∧ n = (four a b c d k).length := by
        obtain rfl | rfl | rfl | rfl : k = 0 ∨ k = 1 ∨ k = 2 ∨ k = 3 := by omega
        · exact ⟨_, _, _, rfl, by rw [HN.out.1]; exact HA.out.carry hBr, HN.out.1⟩
        · exact ⟨_, _, _, rfl, by rw [HN.out.2.1]; exact HB.out.carry hBr, HN.out.2.1⟩
        · exact ⟨_, _, _, rfl, by rw [HN.out.2.2.1]; exact HC.out.carry hBr, HN.out.2.2.1⟩
        · exact ⟨_, _, _, rfl, by rw [HN.out.2.2.2]; exact HD.out.carry hBr, HN.out.2.2.2⟩
      have hcv := (iR.carry hbr).cell hv
      have HT : printT (k + 1) (four a b c d) = printT k (four a b c d) ++ lineT k (four a b c d k) := rfl
      obtain ⟨l, hl⟩ : ∃ l, l = four a b c d k := ⟨_, rfl⟩
      rw [← hl] at hP hP2 hints HT hnl
      have HTT := Lib.hid HT
      have HLA := Lib.hid (lineS_all k l)
      obtain ⟨tk, htk⟩ : ∃ t, t = printT k (four a b c d) := ⟨_, rfl⟩
      rw [← htk] at hsz HTT ⊢
      have HLZ := Lib.hid (lineS_zero k l)
      have hfl := fldL_len k
      have hfs := mk_size (fldL k)
      obtain ⟨hP, _⟩ := hP
      obtain ⟨hP1, hP2⟩ := hP2
      clear HT hl htk hv
      go_wp2_with fail
      refine (Words_any wr).mono ?_
      rintro e w4 ⟨rfl, hwd, hb4⟩
      have c7 := hwd k hlt
      have hcz : tk.size + (⟨(fldL k).toArray⟩ : ByteArray).size ≤ 100000 := by omega
      have hbr4 := bthen hbr hb4
      replace hcv := cellb hcv hb4
      have hsa : (accL tk k l 0).size ≤ 1000 * k + 20 := by
        unfold accL
        rw [HLZ.out, ByteArray.size_append]; omega
      have HA0 := Lib.hid (show tk ++ (⟨(fldL k).toArray⟩ : ByteArray) = accL tk k l 0 by unfold accL; rw [HLZ.out])
      have HI := Lib.hid (hints.carry hb4)
      clear hb4 hbr HLZ hwd hints
      go_wp2_with fail
      go_loopw [4, 6] (fun s j wq => ∃ jn : Nat, jn ≤ n ∧ j = .int .i64 jn ∧ s = .string (accL tk k l jn) ∧ (accL tk k l jn).size ≤ 1000 * k + 20 + 30 * jn ∧ Below w4.heap.size w4 wq) (fun _ j _ => n - (intOf j).toNat)
      case atStart => exact ⟨0, by omega, rfl, by rw [HA0.out], by omega, Below.refl _ _⟩
      case round =>
        obtain ⟨jn, hjn, rfl, rfl, hsj, hbq⟩ := hrel
        have hcq := cellb hcv hbq
        by_cases hj : jn < n
        · have d4 : (jn : Int) < (n : Int) := by omega
          have d5 : 0 ≤ (jn : Int) := by omega
          obtain ⟨y, hy⟩ : ∃ y, l[jn]? = some y := ⟨_, List.getElem?_eq_getElem (by omega)⟩
          obtain ⟨b9, o9, c9, he9, hcs9⟩ := HI.out.head (by omega)
          rw [← hnl] at he9
          obtain ⟨rfl, rfl⟩ : x = some ⟨b9, o9, none⟩ ∧ c9 = cp := by
            simp only [Value.slice.injEq, true_and] at he9
            exact ⟨he9.1, he9.2.symm⟩
          have cy := cellb (hcs9 jn (by omega)) hbq
          rw [hy] at cy
          simp only [Option.getD_some] at cy
          have hyb := hP y (List.mem_of_getElem? hy)
          have TX := Lib.hid (TextR_any y wr (by omega) (by omega))
          have hws : (word y).size ≤ 21 := by
            have := word_size y hyb
            rwa [data_len] at this
          have HAS := Lib.hid (accL_succ tk k l jn y hy)
          generalize accL tk k l jn = ac at hsj HAS
          generalize word y = wy at TX hws HAS
          have q2 : (⟨#[32]⟩ : ByteArray).size = 1 := rfl
          have h1 : ac.size + (⟨#[32]⟩ : ByteArray).size ≤ 100000 := by omega
          have h2 : (ac ++ (⟨#[32]⟩ : ByteArray)).size + wy.size ≤ 100000 := by rw [ByteArray.size_append]; omega
          have hn5 : jn ≤ 5 := by omega
          clear hcs9 hy HI
          go_wp2_with fail
          refine TX.out.mono ?_
          rintro e w5 ⟨rfl, hb5⟩
          go_wp2_with fail
          go_roundw
          case rel => exact ⟨jn + 1, by omega, by go_num, by rw [HAS.out], by rw [HAS.out, ByteArray.size_append, ByteArray.size_append]; omega, bthen hbq hb5⟩
          case measure => simp [intOf]; omega
        · obtain rfl : jn = n := by omega
          have hfin : accL tk k l jn ++ (⟨#[10]⟩ : ByteArray) = tk ++ lineT k l := by
            unfold accL
            rw [hnl, ba_assoc, HLA.out]
          have HF := Lib.hid hfin
          have hn5 : jn ≤ 5 := by omega
          generalize accL tk k l jn = ac at hsj HF
          have q2 : (⟨#[10]⟩ : ByteArray).size = 1 := rfl
          have h1 : ac.size + (⟨#[10]⟩ : ByteArray).size ≤ 100000 := by omega
          clear hfin
          go_wp2_with fail
          go_roundw
          case rel => exact ⟨k + 1, by omega, by go_num, by rw [HTT.out, HF.out], by rw [HTT.out, ← HF.out, ByteArray.size_append]; omega, bthen hbr4 hbq⟩
          case measure => simp [intOf]; omega
    · obtain rfl : k = 4 := by omega
      go_wp2
      go_ret
      exact ⟨rfl, bthen hB hbr⟩
end Go.Proofs.YtfdehcphmmhjaaaGreatDoor

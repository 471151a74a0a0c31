/- Rings: Basin, Locks, CheckBasin. -/
import Derived.Test.YtnlmaildmeihgaaGreatDoorRingA
namespace Go.Proofs.YtnlmaildmeihgaaGreatDoor
open Go.RowKit

theorem phaseE_ok {x n : Int} (h : phaseE x n = 0) : 0 ≤ x ∧ x < n := by
  have := whenE_ok h (by decide)
  simp at this
  omega

def basin1E (r : List Int) (phase : Int) : Int := firstE [checkRingE r, phaseE phase r.length]
theorem basin1E_ok {r : List Int} {phase : Int} (h : basin1E r phase = 0) : 1 ≤ r.length ∧ r.length ≤ 64 ∧ RingP r ∧ 0 ≤ phase ∧ phase < r.length := by
  obtain ⟨h1, h2⟩ := firstE_cons_ok h
  obtain ⟨h2, _⟩ := firstE_cons_ok h2
  obtain ⟨a, b, c⟩ := checkRingE_ok h1
  have := phaseE_ok h2
  exact ⟨a, b, c, this.1, this.2⟩
/-- the first k phases that fall. -/
def basinL (r : List Int) (phase : Int) : Nat → List Int
  | 0 => []
  | k + 1 => if (fallsW r k phase).isSome then basinL r phase k ++ [(k : Int)] else basinL r phase k
theorem basinL_length (r : List Int) (phase : Int) (k : Nat) : (basinL r phase k).length ≤ k := by
  induction k with
  | zero => simp [basinL]
  | succ k ih =>
    rw [basinL]
    split
    · rw [List.length_append, List.length_singleton]; omega
    · omega
def basinR (r : List Int) (phase : Int) : List Int := if basin1E r phase ≠ 0 then [] else basinL r phase r.length

set_option maxRecDepth 100000 in
set_option maxHeartbeats 1000000 in
theorem Basin_any (v : Value) (r : List Int) (phase : Int) (w : World) (hv : Ints w v r) (hl : r.length ≤ 1000000) :
    Calls Tryz.prog 44 #[v, .int .i64 phase] w (GivesPoly w (basinR r phase) (basin1E r phase)) := by
  obtain ⟨a, cap, rfl, _⟩ := id hv
  obtain ⟨i0, hi, hz0, hz1, hz2⟩ := info_parts Tryz.infoInt
  go_enter Tryz.func44, Tryz.ntmps44
  go_wp2_with fail
  refine (CheckRing_any _ r w hv hl).mono ?_
  rintro e w1 ⟨rfl, h1⟩
  go_wp2_with fail
  refine (checkPhase_any _ _ _).mono ?_
  rintro e w' ⟨rfl, rfl⟩
  go_wp2_with fail
  refine (first2 _ _ _ _).mono ?_
  rintro e w' ⟨rfl, rfl⟩
  have hV := bthen h1 (below_new w1 (.cells #[.int .i64 (checkRingE r), .int .i64 (phaseE phase r.length)] 27))
  generalize w1.alloc _ = V at hV ⊢
  have hE : firstE [checkRingE r, phaseE phase r.length] = basin1E r phase := rfl
  rw [hE]
  clear h1 hE
  by_cases he : basin1E r phase = 0
  · obtain ⟨r1, r64, hrp, hp1, hp2⟩ := basin1E_ok he
    have HR := Lib.hid (show basinR r phase = basinL r phase r.length by rw [basinR, if_neg (by rw [he]; simp)])
    have HE := Lib.hid he
    have HRP := Lib.hid hrp
    rw [he]
    clear he hrp
    go_wp2_with fail
    go_loopw [7, 24] (fun vo vi wr => ∃ k : Nat, k ≤ r.length ∧ vi = .int .i64 k ∧ wr.ownsRow V.heap.size 3 1 vo (basinL r phase k).length ((basinL r phase k).map (Value.int .i64)) ∧ Below V.heap.size V wr) (fun _ vi _ => r.length - (intOf vi).toNat)
    case atStart => exact ⟨0, by omega, rfl, World.ownsRow_nil _ _ _ _, Below.refl _ _⟩
    case round =>
      obtain ⟨k, hk, rfl, hown, hbr⟩ := hrel
      have hbl := basinL_length r phase k
      by_cases hlt : k < r.length
      · have hs : basinL r phase (k + 1) = if (fallsW r k phase).isSome then basinL r phase k ++ [(k : Int)] else basinL r phase k := rfl
        have HS := Lib.hid hs
        have hfa := Lib.hid (falls_ring_any _ r k phase wr (hv.carry (bthen hV hbr)) hl HRP.out (by omega))
        clear hs
        by_cases hf : (fallsW r k phase).isSome = true
        · rw [hf] at hfa
          have HS2 := Lib.hid (show basinL r phase (k + 1) = basinL r phase k ++ [(k : Int)] by rw [HS.out, if_pos hf])
          clear hf
          generalize basinL r phase k = bl at hown hbl HS2
          go_wp2_with fail
          refine hfa.out.mono ?_
          rintro e w2 ⟨rfl, rfl⟩
          go_wp2_with (at_builtin; refine wpList_append_own _ rfl _ _ 22 rfl V.heap.size 3 i0 (.int .i64 0) 1 8 Tryz.underlying22 hi hz0 hz1 hz2 rfl (by decide) _ _ _ rfl (hown.alloc _) ⟨wr.heap.size, 0, none⟩ 1 1 [.int .i64 k] rfl rfl (cell_one_new _ _ _) (by simp [Value.oneCell']) (by unfold maxLen; omega) (by omega) (by have := hbr.size; simp; omega) ?_; intro v' w3 hown' hgrow _)
          have hb3 := below_own hbr hown hgrow
          have hown2 : w3.ownsRow V.heap.size 3 1 v' (basinL r phase (k + 1)).length ((basinL r phase (k + 1)).map (Value.int .i64)) := by
            rw [HS2.out, List.length_append, List.map_append]; exact hown'
          clear hown hown' hgrow hbr
          go_wp2
          go_roundw
          case rel => exact ⟨k + 1, by omega, by go_num, hown2, hb3⟩
          case measure => simp [intOf]; omega
        · have hf' : (fallsW r k phase).isSome = false := by simpa using hf
          rw [hf'] at hfa
          have HS2 := Lib.hid (show basinL r phase (k + 1) = basinL r phase k by rw [HS.out, if_neg hf])
          clear hf hf'
          go_wp2_with fail
          refine hfa.out.mono ?_
          rintro e w2 ⟨rfl, rfl⟩
          go_wp2
          go_roundw
          case rel => exact ⟨k + 1, by omega, by go_num, by rw [HS2.out]; exact hown, hbr⟩
          case measure => simp [intOf]; omega
      · obtain rfl : k = r.length := by omega
        have hout := Lib.hid (Ints.of_own hown rfl)
        clear hown
        go_wp2
        go_ret2
        exact ⟨⟨_, by rw [HE.out]; rfl, by rw [HR.out]; exact hout.out⟩, bthen hV hbr⟩
  · have HR := Lib.hid (show basinR r phase = [] by rw [basinR, if_pos he])
    go_wp2
    go_ret2
    exact ⟨⟨_, rfl, by rw [HR.out]; exact Ints.nil _⟩, hV⟩

def locks1E (r : List Int) (x phase : Int) : Int := firstE [checkRingE r, phaseE x r.length, phaseE phase r.length]
theorem locks1E_ok {r : List Int} {x phase : Int} (h : locks1E r x phase = 0) : 1 ≤ r.length ∧ r.length ≤ 64 ∧ RingP r ∧ 0 ≤ x ∧ x < r.length := by
  obtain ⟨h1, h2⟩ := firstE_cons_ok h
  obtain ⟨h2, _⟩ := firstE_cons_ok h2
  obtain ⟨a, b, c⟩ := checkRingE_ok h1
  have := phaseE_ok h2
  exact ⟨a, b, c, this.1, this.2⟩
def locksE (r : List Int) (x phase : Int) : Int := if locks1E r x phase ≠ 0 then locks1E r x phase else whenE (fallsW r x phase).isNone 7
def locksR (r : List Int) (x phase : Int) : Int := if locks1E r x phase ≠ 0 then 0 else (((fallsW r x phase).getD 0 : Nat) : Int)

set_option maxRecDepth 100000 in
set_option maxHeartbeats 1000000 in
theorem Locks_any (v : Value) (r : List Int) (x phase : Int) (w : World) (hv : Ints w v r) (hl : r.length ≤ 1000000) :
    Calls Tryz.prog 46 #[v, .int .i64 x, .int .i64 phase] w fun e w' => e = .returned (.tuple #[.int .i64 (locksR r x phase), .int .i64 (locksE r x phase)]) ∧ Below w.heap.size w w' := by
  obtain ⟨a, cap, rfl, _⟩ := id hv
  go_enter Tryz.func46, Tryz.ntmps46
  go_wp2_with fail
  refine (CheckRing_any _ r w hv hl).mono ?_
  rintro e w1 ⟨rfl, h1⟩
  go_wp2_with fail
  refine (checkPhase_any _ _ _).mono ?_
  rintro e w' ⟨rfl, rfl⟩
  go_wp2_with fail
  refine (checkPhase_any _ _ _).mono ?_
  rintro e w' ⟨rfl, rfl⟩
  go_wp2_with fail
  refine (first3 _ _ _ _ _).mono ?_
  rintro e w' ⟨rfl, rfl⟩
  have hV := bthen h1 (below_new w1 (.cells #[.int .i64 (checkRingE r), .int .i64 (phaseE x r.length), .int .i64 (phaseE phase r.length)] 27))
  generalize w1.alloc _ = V at hV ⊢
  have hE : firstE [checkRingE r, phaseE x r.length, phaseE phase r.length] = locks1E r x phase := rfl
  rw [hE]
  clear h1 hE
  by_cases he : locks1E r x phase = 0
  · obtain ⟨r1, r64, hrp, hp1, hp2⟩ := locks1E_ok he
    have HR := Lib.hid (show locksR r x phase = (((fallsW r x phase).getD 0 : Nat) : Int) by rw [locksR, if_neg (by rw [he]; simp)])
    have HE := Lib.hid (show locksE r x phase = whenE (fallsW r x phase).isNone 7 by rw [locksE, if_neg (by rw [he]; simp)])
    have hfa := Lib.hid (falls_ring_any _ r x phase V (hv.carry hV) hl hrp ⟨hp1, hp2⟩)
    rw [he]
    clear he hrp
    go_wp2_with fail
    refine (hfa.out).mono ?_
    rintro e w' ⟨rfl, rfl⟩
    go_wp2_with fail
    refine (when_any _ _ _).mono ?_
    rintro e w' ⟨rfl, rfl⟩
    go_wp2
    go_ret2
    exact ⟨by rw [HR.out, HE.out]; rfl, hV⟩
  · have HR := Lib.hid (show locksR r x phase = 0 by rw [locksR, if_pos he])
    have HE := Lib.hid (show locksE r x phase = locks1E r x phase by rw [locksE, if_pos he])
    go_wp2
    go_ret2
    exact ⟨by rw [HR.out, HE.out]; rfl, hV⟩

/-- does the k-th number prove what it must? -/
def proofB (r : List Int) (phase : Int) (l : List Int) (k : Nat) : Bool :=
  (!decide (l[k]?.getD 0 < 0)) && (decide (l[k]?.getD 0 = 0) == decide ((k : Int) = phase)) && (decide ((k : Int) = phase) || decide (l[(r[k]?.getD 0).toNat]?.getD 0 < l[k]?.getD 0))
def basin2E (r : List Int) (phase : Int) (l : List Int) : Int := firstE [checkRingE r, phaseE phase r.length, whenE ((l.length : Int) != (r.length : Int)) 2]
def checkBasinE (r : List Int) (phase : Int) (l : List Int) : Int := if basin2E r phase l ≠ 0 then basin2E r phase l else if (List.range r.length).all (proofB r phase l) then 0 else 19
theorem basin2E_ok {r : List Int} {phase : Int} {l : List Int} (h : basin2E r phase l = 0) : 1 ≤ r.length ∧ r.length ≤ 64 ∧ RingP r ∧ l.length = r.length := by
  obtain ⟨h1, h2⟩ := firstE_cons_ok h
  obtain ⟨_, h3⟩ := firstE_cons_ok h2
  obtain ⟨h3, _⟩ := firstE_cons_ok h3
  obtain ⟨a, b, c⟩ := checkRingE_ok h1
  have h3 := whenE_ok h3 (by decide)
  rw [bne_eq_false_iff_eq] at h3
  exact ⟨a, b, c, by omega⟩
theorem all_range_succ {f : Nat → Bool} {k : Nat} (h : (List.range k).all f = true) (hf : f k = true) : (List.range (k + 1)).all f = true := by
  rw [List.range_succ, List.all_append, h]; simp [hf]
theorem all_range_no {f : Nat → Bool} {k n : Nat} (hk : k < n) (hf : f k = false) : (List.range n).all f = false := by
  rw [List.all_eq_false]; exact ⟨k, List.mem_range.2 hk, by rw [hf]; simp⟩

set_option maxRecDepth 100000 in
set_option maxHeartbeats 2000000 in
theorem CheckBasin_any (v vl : Value) (r l : List Int) (phase : Int) (w : World) (hv : Ints w v r) (hvl : Ints w vl l) (hl : r.length ≤ 1000000) (hl2 : l.length ≤ 1000000) :
    Calls Tryz.prog 47 #[v, .int .i64 phase, vl] w fun e w' => e = .returned (.int .i64 (checkBasinE r phase l)) ∧ Below w.heap.size w w' := by
  obtain ⟨a, cap, rfl, _⟩ := id hv
  obtain ⟨a2, cap2, rfl, _⟩ := id hvl
  go_enter Tryz.func47, Tryz.ntmps47
  go_wp2_with fail
  refine (CheckRing_any _ r w hv hl).mono ?_
  rintro e w1 ⟨rfl, h1⟩
  go_wp2_with fail
  refine (checkPhase_any _ _ _).mono ?_
  rintro e w' ⟨rfl, rfl⟩
  go_wp2_with fail
  refine (when_any _ _ _).mono ?_
  rintro e w' ⟨rfl, rfl⟩
  go_wp2_with fail
  refine (first3 _ _ _ _ _).mono ?_
  rintro e w' ⟨rfl, rfl⟩
  have hV := bthen h1 (below_new w1 (.cells #[.int .i64 (checkRingE r), .int .i64 (phaseE phase r.length), .int .i64 (whenE ((l.length : Int) != (r.length : Int)) 2)] 27))
  generalize w1.alloc _ = V at hV ⊢
  have hE : firstE [checkRingE r, phaseE phase r.length, whenE ((l.length : Int) != (r.length : Int)) 2] = basin2E r phase l := rfl
  rw [hE]
  clear h1 hE
  by_cases he : basin2E r phase l = 0
  · obtain ⟨r1, r64, hrp, hll⟩ := basin2E_ok he
    have HR := Lib.hid (show checkBasinE r phase l = if (List.range r.length).all (proofB r phase l) then 0 else 19 by rw [checkBasinE, if_neg (by rw [he]; simp)])
    rw [he]
    have HRP := Lib.hid hrp
    have HL := Lib.hid hll
    obtain ⟨b, o, _, hba, hc⟩ := (hv.carry hV).head (by omega)
    cases hba
    obtain ⟨b2, o2, _, hba2, hc2⟩ := (hvl.carry hV).head (by omega)
    cases hba2
    have hC := Lib.hid hc
    have hC2 := Lib.hid hc2
    have l1 : 1 ≤ l.length := by omega
    have l64 : l.length ≤ 64 := by omega
    clear he hrp hll hc hc2
    go_wp2_with fail
    go_loop [29] (fun vi => ∃ k : Nat, k ≤ l.length ∧ vi = .int .i64 k ∧ (List.range k).all (proofB r phase l) = true) (fun vi => l.length - (intOf vi).toNat)
    case atStart => exact ⟨0, by omega, rfl, rfl⟩
    case round =>
      obtain ⟨k, hk, rfl, hall⟩ := hrel
      have HA := Lib.hid hall
      clear hall
      by_cases hlt : k < l.length
      · have c0 := hC2.out k hlt
        have hkr : k < r.length := by rw [← HL.out]; exact hlt
        have hrk : 0 ≤ r[k]?.getD 0 ∧ r[k]?.getD 0 < l.length := by
          rw [List.getElem?_eq_getElem hkr, HL.out]; exact HRP.out _ (List.getElem_mem _)
        have c1 := hC.out k hkr
        have c2 := hC2.out (r[k]?.getD 0).toNat (by omega)
        have hP : proofB r phase l k = ((!decide (l[k]?.getD 0 < 0)) && (decide (l[k]?.getD 0 = 0) == decide ((k : Int) = phase)) && (decide ((k : Int) = phase) || decide (l[(r[k]?.getD 0).toNat]?.getD 0 < l[k]?.getD 0))) := rfl
        have hno := fun h => all_range_no (f := proofB r phase l) hkr h
        generalize l[(r[k]?.getD 0).toNat]?.getD 0 = m at c2 hP
        generalize r[k]?.getD 0 = y at c1 c2 hrk
        generalize l[k]?.getD 0 = n at c0 hP
        obtain ⟨y1, y2⟩ := hrk
        have HP := Lib.hid hP
        have HNO := Lib.hid hno
        have g1 : (k : Int) < (r.length : Int) := by omega
        clear hP hno
        by_cases hn : n < 0
        · have hf := Lib.hid (HNO.out (by rw [HP.out, decide_eq_true hn]; rfl))
          clear c1 c2
          go_wp2
          go_ret
          exact ⟨ret_int (by rw [HR.out, hf.out]; rfl), hV⟩
        · by_cases hn0 : n = 0
          · by_cases hkp : (k : Int) = phase
            · have hf := Lib.hid (all_range_succ HA.out (show proofB r phase l k = true by rw [HP.out]; simp [hkp, hn0]))
              have e1 : (n == 0) = true := by simpa using hn0
              have e2 : ((k : Int) == phase) = true := by simpa using hkp
              have e3 : ((k : Int) != phase) = false := by simpa using hkp
              clear hn0 hkp c1 c2
              go_wp2
              go_round
              case rel => exact ⟨k + 1, by omega, by go_num, hf.out⟩
              case measure => simp [intOf]; omega
            · have hf := Lib.hid (HNO.out (by rw [HP.out, decide_eq_true hn0, decide_eq_false hkp]; simp))
              have e1 : (n == 0) = true := by simpa using hn0
              have e2 : ((k : Int) == phase) = false := by simpa using hkp
              clear hn0 hkp c1 c2
              go_wp2
              go_ret
              exact ⟨ret_int (by rw [HR.out, hf.out]; rfl), hV⟩
          · by_cases hkp : (k : Int) = phase
            · have hf := Lib.hid (HNO.out (by rw [HP.out, decide_eq_false hn0, decide_eq_true hkp]; simp))
              have e1 : (n == 0) = false := by simpa using hn0
              have e2 : ((k : Int) == phase) = true := by simpa using hkp
              clear hn0 hkp c1 c2
              go_wp2
              go_ret
              exact ⟨ret_int (by rw [HR.out, hf.out]; rfl), hV⟩
            · have e1 : (n == 0) = false := by simpa using hn0
              have e2 : ((k : Int) == phase) = false := by simpa using hkp
              have e3 : ((k : Int) != phase) = true := by simpa using hkp
              by_cases hm : m < n
              · have hf := Lib.hid (all_range_succ HA.out (show proofB r phase l k = true by rw [HP.out]; simp [hkp, hn0, hn, hm]))
                clear hn0 hkp
                go_wp2
                go_round
                case rel => exact ⟨k + 1, by omega, by go_num, hf.out⟩
                case measure => simp [intOf]; omega
              · have hf := Lib.hid (HNO.out (by rw [HP.out, decide_eq_false hkp, decide_eq_false hm]; simp))
                clear hn0 hkp
                go_wp2
                go_ret
                exact ⟨ret_int (by rw [HR.out, hf.out]; rfl), hV⟩
      · obtain rfl : k = l.length := by omega
        have h := HA.out
        rw [HL.out] at h
        have H := Lib.hid h
        clear h
        go_wp2
        go_ret
        exact ⟨ret_int (by rw [HR.out, H.out]; rfl), hV⟩
  · have HR := Lib.hid (show checkBasinE r phase l = basin2E r phase l by rw [checkBasinE, if_pos he])
    go_wp2
    go_ret
    exact ⟨ret_int (by rw [HR.out]), hV⟩

end Go.Proofs.YtnlmaildmeihgaaGreatDoor

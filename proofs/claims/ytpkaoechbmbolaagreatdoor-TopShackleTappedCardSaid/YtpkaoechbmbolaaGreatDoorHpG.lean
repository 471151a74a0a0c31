/- The package harmonic: branches and orders are checked; taps are compared. -/
import Derived.Test.YtpkaoechbmbolaaGreatDoorHpF
namespace Go.Proofs.YtpkaoechbmbolaaGreatDoor
section
set_option linter.unusedSimpArgs false
set_option linter.unusedVariables false
open Go.RowKit

def braE (ls : List (Int × Int)) (b : Int) : Int := firstE [fltE ls, whenE (decide (b < 0) || decide ((ls.length : Int) ≤ b)) 10]
theorem braE_zero {ls : List (Int × Int)} {b : Int} (h : braE ls b = 0) : fltE ls = 0 ∧ 0 ≤ b ∧ b < ls.length := by
  unfold braE at h
  obtain ⟨h1, h⟩ := firstE_cons_ok h
  obtain ⟨h2, _⟩ := firstE_cons_ok h
  unfold whenE at h2
  refine ⟨h1, ?_⟩
  by_cases c : b < 0
  · simp [c] at h2
  · by_cases d : (ls.length : Int) ≤ b
    · simp [d] at h2
    · omega
set_option maxRecDepth 100000 in
set_option maxHeartbeats 1000000 in
theorem checkBranch_any (v : Value) (ls : List (Int × Int)) (b : Int) (w : World) (hv : Pairs w v ls) (hl : ls.length ≤ 1000000) :
    Calls Tryz.prog 25 #[.agg #[v], .int .i64 b] w fun e w' => e = .returned (.int .i64 (braE ls b)) ∧ Below w.heap.size w w' := by
  have TC := Lib.hid (fun W hP => CheckFilter_any v ls W hP hl)
  rw [braE]
  generalize fltE ls = e1 at TC ⊢
  obtain ⟨n, hn⟩ : ∃ n : Int, n = (ls.length : Int) := ⟨_, rfl⟩
  have TW := Lib.hid (fun W => whenH_any (decide (b < 0) || decide ((ls.length : Int) ≤ b)) 10 W)
  generalize hbb : (decide (b < 0) || decide ((ls.length : Int) ≤ b)) = bb at TW ⊢
  have HBB := Lib.hid hbb
  generalize whenE bb 10 = e2 at TW ⊢
  have TF := Lib.hid (fun (u : Value) (W : World) (h : Ints W u [e1, e2]) => firstH_any u [e1, e2] W (by simp [maxLen]) h)
  generalize firstE [e1, e2] = E at TF ⊢
  have HV := Lib.hid hv
  obtain ⟨a, cp, rfl, _, _⟩ := id hv
  clear hv hbb hn
  by_cases c : b < 0
  · obtain rfl : bb = true := by rw [← HBB.out]; simp [c]
    go_enter Tryz.func25, Tryz.ntmps25
    go_upto_region 1 with fail
    obtain ⟨W1, hW1⟩ : ∃ v, v = World.alloc w (Obj.cells #[.slice a ls.length cp] 34) := ⟨_, rfl⟩
    have kW1 : Below w.heap.size w W1 := by rw [hW1]; exact below_new _ _
    have iW1 : Blk W1 (w.heap.size) 34 [.slice a ls.length cp] := by rw [hW1]; exact Blk.new _ _ _
    have sW1 : W1.heap.size = w.heap.size + 1 := by rw [hW1]; simp
    rw [← hW1]
    clear hW1
    have a0 := iW1.cell (j := 0) (v := .slice a ls.length cp) rfl
    have hB := kW1
    clear iW1 kW1 sW1
    go_wp2_with fail
    refine (TC.out W1 (HV.out.carry hB)).mono ?_
    rintro e w3 ⟨rfl, hb⟩
    have a0 := cellb a0 hb
    replace hB := bthen hB hb
    clear hb
    go_wp2_with fail
    refine (TW.out w3).mono ?_
    rintro e w' ⟨rfl, rfl⟩
    go_wp2_with fail
    obtain ⟨W4, hW4⟩ : ∃ v, v = World.alloc w3 (Obj.cells #[.int .i64 e1, .int .i64 e2] 39) := ⟨_, rfl⟩
    have kW4 : Below w3.heap.size w3 W4 := by rw [hW4]; exact below_new _ _
    have iW4 : Blk W4 (w3.heap.size) 39 [.int .i64 e1, .int .i64 e2] := by rw [hW4]; exact Blk.new _ _ _
    have sW4 : W4.heap.size = w3.heap.size + 1 := by rw [hW4]; simp
    rw [← hW4]
    clear hW4
    refine (TF.out _ W4 (BlkI.ints (l := [e1, e2]) iW4 rfl)).mono ?_
    rintro e w' ⟨rfl, rfl⟩
    go_wp2_with fail
    go_ret
    exact ⟨rfl, bthen hB kW4⟩
  · have TW2 := Lib.hid (show ∀ W, Calls Tryz.prog 35 #[.bool (decide (b < 0) || decide ((ls.length : Int) ≤ b)), .int .i64 10] W fun r w' => r = .returned (.int .i64 e2) ∧ W = w' by rw [HBB.out]; exact TW.out)
    clear TW
    go_enter Tryz.func25, Tryz.ntmps25
    go_upto_region 1 with fail
    obtain ⟨W1, hW1⟩ : ∃ v, v = World.alloc w (Obj.cells #[.slice a ls.length cp] 34) := ⟨_, rfl⟩
    have kW1 : Below w.heap.size w W1 := by rw [hW1]; exact below_new _ _
    have iW1 : Blk W1 (w.heap.size) 34 [.slice a ls.length cp] := by rw [hW1]; exact Blk.new _ _ _
    have sW1 : W1.heap.size = w.heap.size + 1 := by rw [hW1]; simp
    rw [← hW1]
    clear hW1
    have a0 := iW1.cell (j := 0) (v := .slice a ls.length cp) rfl
    have hB := kW1
    clear iW1 kW1 sW1
    go_wp2_with fail
    refine (TC.out W1 (HV.out.carry hB)).mono ?_
    rintro e w3 ⟨rfl, hb⟩
    have a0 := cellb a0 hb
    replace hB := bthen hB hb
    clear hb
    go_wp2_with fail
    refine (TW2.out w3).mono ?_
    rintro e w' ⟨rfl, rfl⟩
    go_wp2_with fail
    obtain ⟨W4, hW4⟩ : ∃ v, v = World.alloc w3 (Obj.cells #[.int .i64 e1, .int .i64 e2] 39) := ⟨_, rfl⟩
    have kW4 : Below w3.heap.size w3 W4 := by rw [hW4]; exact below_new _ _
    have iW4 : Blk W4 (w3.heap.size) 39 [.int .i64 e1, .int .i64 e2] := by rw [hW4]; exact Blk.new _ _ _
    have sW4 : W4.heap.size = w3.heap.size + 1 := by rw [hW4]; simp
    rw [← hW4]
    clear hW4
    refine (TF.out _ W4 (BlkI.ints (l := [e1, e2]) iW4 rfl)).mono ?_
    rintro e w' ⟨rfl, rfl⟩
    go_wp2_with fail
    go_ret
    exact ⟨rfl, bthen hB kW4⟩

def ordN (l : List Int) : Int := firstE [whenE ((l.length : Int) == 0) 12, whenE (decide ((12 : Int) < l.length)) 5]
def ordS (last h : Int) : Int := firstE [withinE h 1 12, whenE (decide (h ≤ last)) 11]
def ordC (last : Int) : List Int → Int
  | [] => 0
  | h :: t => orE (ordS last h) (ordC h t)
def ordE (l : List Int) : Int := orE (ordN l) (ordC 0 l)
def lastK (l : List Int) : Nat → Int
  | 0 => 0
  | k + 1 => l[k]?.getD 0
theorem ordC_drop (l : List Int) (k : Nat) (h : Int) (hk : l[k]? = some h) : ordC (lastK l k) (l.drop k) = orE (ordS (lastK l k) h) (ordC (lastK l (k + 1)) (l.drop (k + 1))) := by
  have hlt : k < l.length := (List.getElem?_eq_some_iff.1 hk).1
  have he : l[k] = h := (List.getElem?_eq_some_iff.1 hk).2
  rw [List.drop_eq_getElem_cons hlt, he, ordC]
  congr 2
  rw [lastK, hk]; rfl
set_option maxRecDepth 100000 in
set_option maxHeartbeats 2000000 in
theorem checkOrders_any (v : Value) (l : List Int) (w : World) (hv : Ints w v l) (hl : l.length ≤ 1000000) :
    Calls Tryz.prog 27 #[v] w fun e w' => e = .returned (.int .i64 (ordE l)) ∧ Below w.heap.size w w' := by
  obtain ⟨a, cp, rfl, hc0, hcs0⟩ := hv
  have hcs : ∀ k : Nat, k < l.length → ∃ b off h, a = some ⟨b, off, none⟩ ∧ l[k]? = some h ∧ w.cell? ⟨b, off + k, none⟩ = some (.int .i64 h) := fun k hk => by
    obtain ⟨b, off, rfl, hc⟩ := hcs0 (by omega)
    have := hc k hk
    rw [List.getElem?_eq_getElem hk] at this
    exact ⟨b, off, _, rfl, List.getElem?_eq_getElem hk, this⟩
  have HC := Lib.hid hcs
  obtain ⟨E, hE⟩ : ∃ E, E = ordE l := ⟨_, rfl⟩
  rw [← hE]
  rw [ordE, ordN] at hE
  have T1 := Lib.hid (fun W => whenH_any ((l.length : Int) == 0) 12 W)
  have T2 := Lib.hid (fun W => whenH_any (decide ((12 : Int) < l.length)) 5 W)
  generalize whenE ((l.length : Int) == 0) 12 = e1 at T1 hE
  generalize whenE (decide ((12 : Int) < l.length)) 5 = e2 at T2 hE
  have TF := Lib.hid (fun (u : Value) (W : World) (h : Ints W u [e1, e2]) => firstH_any u [e1, e2] W (by simp [maxLen]) h)
  generalize firstE [e1, e2] = eN at TF hE
  have HE := Lib.hid hE
  clear hcs hcs0 hE hc0
  go_enter Tryz.func27, Tryz.ntmps27
  go_wp2_with fail
  refine (T1.out w).mono ?_
  rintro e w' ⟨rfl, rfl⟩
  go_wp2_with fail
  refine (T2.out w).mono ?_
  rintro e w' ⟨rfl, rfl⟩
  go_wp2_with fail
  obtain ⟨W1, hW1⟩ : ∃ v, v = World.alloc w (Obj.cells #[.int .i64 e1, .int .i64 e2] 39) := ⟨_, rfl⟩
  have kW1 : Below w.heap.size w W1 := by rw [hW1]; exact below_new _ _
  have iW1 : Blk W1 (w.heap.size) 39 [.int .i64 e1, .int .i64 e2] := by rw [hW1]; exact Blk.new _ _ _
  have sW1 : W1.heap.size = w.heap.size + 1 := by rw [hW1]; simp
  rw [← hW1]
  clear hW1
  refine (TF.out _ W1 (BlkI.ints (l := [e1, e2]) iW1 rfl)).mono ?_
  rintro e w' ⟨rfl, rfl⟩
  have hB := kW1
  clear kW1 iW1 sW1 T1 T2 TF
  by_cases he : eN = 0
  · subst he
    have hE := HE.out
    rw [orE, if_pos rfl] at hE
    have HE2 := Lib.hid hE
    clear HE hE
    go_wp2_with fail
    go_loopw [4, 23] (fun lt i wr => ∃ k : Nat, k ≤ l.length ∧ i = .int .i64 k ∧ lt = .int .i64 (lastK l k) ∧ E = ordC (lastK l k) (l.drop k) ∧ Below w.heap.size w wr) (fun _ i _ => l.length - (intOf i).toNat)
    case atStart => exact ⟨0, by omega, rfl, rfl, by rw [HE2.out]; rfl, hB⟩
    case round =>
      clear hB
      obtain ⟨k, hk, rfl, rfl, hEk, hB⟩ := hrel
      by_cases hlt : k < l.length
      · obtain ⟨b, off, h, rfl, hx, c0⟩ := HC.out k hlt
        have c0 := cellb c0 hB
        have hd := ordC_drop l k h hx
        rw [← hEk] at hd
        have hl1 : lastK l (k + 1) = h := by rw [lastK, hx]; rfl
        rw [hl1] at hd
        obtain ⟨EN, hEN⟩ : ∃ EN, EN = ordC h (l.drop (k + 1)) := ⟨_, rfl⟩
        rw [← hEN] at hd
        have HEN := Lib.hid hEN
        have HL1 := Lib.hid hl1
        rw [ordS] at hd
        clear hx hEk hEN hl1
        generalize lastK l k = lst at hd ⊢
        have TO := Lib.hid (fun W => checkOrder_any h W)
        generalize withinE h 1 12 = s1 at TO hd
        have T2 := Lib.hid (fun W => whenH_any (decide (h ≤ lst)) 11 W)
        generalize whenE (decide (h ≤ lst)) 11 = s2 at T2 hd
        have TF := Lib.hid (fun (u : Value) (W : World) (h : Ints W u [s1, s2]) => firstH_any u [s1, s2] W (by simp [maxLen]) h)
        generalize firstE [s1, s2] = sN at TF hd
        have HD := Lib.hid hd
        clear hd
        go_wp2_with fail
        refine (TO.out wr).mono ?_
        rintro e w' ⟨rfl, rfl⟩
        go_wp2_with fail
        refine (T2.out wr).mono ?_
        rintro e w' ⟨rfl, rfl⟩
        go_wp2_with fail
        obtain ⟨W4, hW4⟩ : ∃ v, v = World.alloc wr (Obj.cells #[.int .i64 s1, .int .i64 s2] 39) := ⟨_, rfl⟩
        have kW4 : Below wr.heap.size wr W4 := by rw [hW4]; exact below_new _ _
        have iW4 : Blk W4 (wr.heap.size) 39 [.int .i64 s1, .int .i64 s2] := by rw [hW4]; exact Blk.new _ _ _
        have sW4 : W4.heap.size = wr.heap.size + 1 := by rw [hW4]; simp
        rw [← hW4]
        clear hW4
        refine (TF.out _ W4 (BlkI.ints (l := [s1, s2]) iW4 rfl)).mono ?_
        rintro e w' ⟨rfl, rfl⟩
        replace hB := bthen hB kW4
        clear c0 kW4 iW4 sW4
        by_cases hs : sN = 0
        · subst hs
          have hd := HD.out
          rw [orE, if_pos rfl] at hd
          have HD2 := Lib.hid hd
          clear hd
          go_wp2
          go_roundw
          case rel => exact ⟨k + 1, by omega, by go_num, by rw [HL1.out], by rw [HD2.out, HEN.out, HL1.out], hB⟩
          case measure => simp [intOf]; omega
        · have z : (sN == 0) = false := by rw [beq_eq_false_iff_ne]; exact hs
          have hd := HD.out
          rw [orE, if_neg hs] at hd
          have HD2 := Lib.hid hd
          clear hd
          go_wp2
          go_ret
          exact ⟨ret_int HD2.out.symm, hB⟩
      · obtain rfl : k = l.length := by omega
        rw [List.drop_length] at hEk
        have HEK := Lib.hid hEk
        clear hEk
        go_wp2
        go_ret
        exact ⟨ret_int (by rw [HEK.out]; rfl), hB⟩
  · have z : (eN == 0) = false := by rw [beq_eq_false_iff_ne]; exact he
    have HNE := Lib.hid he
    go_wp2_with fail
    go_ret
    exact ⟨ret_int (by rw [HE.out, orE, if_neg HNE.out]), hB⟩
end

section
set_option linter.unusedSimpArgs false
set_option linter.unusedVariables false
open Go.RowKit

/-- cmp.Compare. -/
def cmpI (x y : Int) : Int := if x < y then -1 else if y < x then 1 else 0
theorem isNaN_any (x : Int) (w : World) : Calls Tryz.prog 93 #[.int .i64 x] w fun r w' => r = .returned (.bool false) ∧ w = w' := by
  go_enter Tryz.func93, Tryz.ntmps93
  go_wp2
  go_ret
  exact ⟨ret_bool (by simp), rfl⟩
set_option maxHeartbeats 400000 in
theorem Compare_any (x y : Int) (w : World) : Calls Tryz.prog 66 #[.int .i64 x, .int .i64 y] w fun r w' => r = .returned (.int .i64 (cmpI x y)) ∧ w = w' := by
  by_cases h1 : x < y
  · have H := Lib.hid (show cmpI x y = -1 by simp [cmpI, h1])
    generalize cmpI x y = r at H ⊢
    go_enter Tryz.func66, Tryz.ntmps66
    go_wp2_with fail
    refine (isNaN_any _ _).mono ?_
    rintro e w' ⟨rfl, rfl⟩
    go_wp2_with fail
    refine (isNaN_any _ _).mono ?_
    rintro e w' ⟨rfl, rfl⟩
    go_wp2
    go_ret
    exact ⟨ret_int H.out.symm, rfl⟩
  · by_cases h2 : y < x
    · have H := Lib.hid (show cmpI x y = 1 by simp [cmpI, h1, h2])
      generalize cmpI x y = r at H ⊢
      go_enter Tryz.func66, Tryz.ntmps66
      go_wp2_with fail
      refine (isNaN_any _ _).mono ?_
      rintro e w' ⟨rfl, rfl⟩
      go_wp2_with fail
      refine (isNaN_any _ _).mono ?_
      rintro e w' ⟨rfl, rfl⟩
      go_wp2
      go_ret
      exact ⟨ret_int H.out.symm, rfl⟩
    · have H := Lib.hid (show cmpI x y = 0 by simp [cmpI, h1, h2])
      generalize cmpI x y = r at H ⊢
      go_enter Tryz.func66, Tryz.ntmps66
      go_wp2_with fail
      refine (isNaN_any _ _).mono ?_
      rintro e w' ⟨rfl, rfl⟩
      go_wp2_with fail
      refine (isNaN_any _ _).mono ?_
      rintro e w' ⟨rfl, rfl⟩
      go_wp2
      go_ret
      exact ⟨ret_int H.out.symm, rfl⟩
set_option maxHeartbeats 400000 in
theorem Or_any (v : Value) (l : List Int) (w : World) (hl : l.length ≤ maxLen) (hv : Ints w v l) :
    Calls Tryz.prog 65 #[v] w fun r w' => r = .returned (.int .i64 (firstE l)) ∧ w = w' := by
  unfold maxLen at hl
  obtain ⟨a, cap, rfl, hc, hv⟩ := hv
  rcases Nat.eq_zero_or_pos l.length with h0 | h0
  · obtain rfl : l = [] := List.length_eq_zero_iff.1 h0
    go_enter Tryz.func65, Tryz.ntmps65
    go_wp2
    go_loop [8] (fun i => i = .int .i64 0) (fun _ => 0)
    case atStart => rfl
    case round =>
      obtain rfl := hrel
      go_wp2
      go_ret
      exact ⟨rfl, rfl⟩
  · obtain ⟨b, off, rfl, hcs⟩ := hv h0
    clear hv
    go_enter Tryz.func65, Tryz.ntmps65
    go_wp2
    go_loop [8] (fun i => ∃ k : Nat, k ≤ l.length ∧ i = .int .i64 k ∧ firstE (l.take k) = 0) (fun i => l.length - (intOf i).toNat)
    case atStart => exact ⟨0, by omega, rfl, rfl⟩
    case round =>
      obtain ⟨k, hk, rfl, hf⟩ := hrel
      by_cases hlt : k < l.length
      · have hcell := hcs k hlt
        have hs := firstE_take_succ l k hlt hf
        clear hcs
        generalize l[k]?.getD 0 = x at hcell hs
        have HS := Lib.hid hs
        clear hs hf
        by_cases hz : x = 0
        · go_wp2
          go_round
          case rel => exact ⟨k + 1, by omega, by go_num, by rw [HS.out]; exact hz⟩
          case measure => simp [intOf]; omega
        · go_wp2
          go_ret
          exact ⟨ret_int (by rw [firstE_of_take l (k+1) (by rw [HS.out]; exact hz), HS.out]), rfl⟩
      · have HF := Lib.hid hf
        clear hf
        go_wp2
        go_ret
        have h := HF.out
        rw [List.take_of_length_le (by omega)] at h
        exact ⟨ret_int h.symm, rfl⟩
/-- the absolute value of a tap, as the machine has it. -/
def absT (x : Int) : Int := if x < wrap64 (-x) then wrap64 (-x) else x
def cmpT (x y : Int) : Int := firstE [cmpI (absT x) (absT y), cmpI x y]
set_option maxHeartbeats 1000000 in
theorem compare_any (x y : Int) (w : World) : Calls Tryz.prog 29 #[.int .i64 x, .int .i64 y] w fun r w' => r = .returned (.int .i64 (cmpT x y)) ∧
    w' = w.alloc (.cells #[.int .i64 (cmpI (absT x) (absT y)), .int .i64 (cmpI x y)] 3) := by
  rw [cmpT]
  have hx : absT x = if x < wrap64 (-x) then wrap64 (-x) else x := rfl
  have hy : absT y = if y < wrap64 (-y) then wrap64 (-y) else y := rfl
  have ex : IntKind.i64.wrap (-x) = wrap64 (-x) := by rw [wrapEq]
  have ey : IntKind.i64.wrap (-y) = wrap64 (-y) := by rw [wrapEq]
  generalize wrap64 (-x) = nx at hx ex
  generalize wrap64 (-y) = ny at hy ey
  have TA := Lib.hid (fun W => Compare_any (absT x) (absT y) W)
  have TB := Lib.hid (fun W => Compare_any x y W)
  generalize cmpI (absT x) (absT y) = c1 at TA ⊢
  generalize cmpI x y = c2 at TB ⊢
  generalize absT x = ax at TA hx
  generalize absT y = ay at TA hy
  have TF := Lib.hid (fun (u : Value) (W : World) (h : Ints W u [c1, c2]) => Or_any u [c1, c2] W (by simp [maxLen]) h)
  generalize firstE [c1, c2] = E at TF ⊢
  by_cases h1 : x < nx
  all_goals
    by_cases h2 : y < ny
    all_goals
      simp only [h1, h2, if_true, if_false] at hx hy
      subst hx hy
      go_enter Tryz.func29, Tryz.ntmps29
      go_wp2_with fail
      refine (TA.out w).mono ?_
      rintro e w' ⟨rfl, rfl⟩
      go_wp2_with fail
      refine (TB.out w).mono ?_
      rintro e w' ⟨rfl, rfl⟩
      go_wp2_with fail
      refine (TF.out _ (w.alloc (.cells #[.int .i64 c1, .int .i64 c2] 3)) (Ints.lit w 3 [c1, c2] 2 rfl)).mono ?_
      rintro e w' ⟨rfl, rfl⟩
      go_wp2_with fail
      go_ret
      exact ⟨rfl, rfl⟩
end

end Go.Proofs.YtpkaoechbmbolaaGreatDoor

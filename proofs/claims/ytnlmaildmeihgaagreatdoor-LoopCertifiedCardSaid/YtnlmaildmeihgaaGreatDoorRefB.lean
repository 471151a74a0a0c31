/- The reference's checks (seat .ZD; the same walks as XRefA). -/
import Derived.Test.YtnlmaildmeihgaaGreatDoorBlk
import Derived.Test.YtnlmaildmeihgaaGreatDoorRingE
namespace Go.Proofs.YtnlmaildmeihgaaGreatDoor
open Go.RowKit

set_option maxHeartbeats 400000 in
theorem WhenR_any (c : Bool) (e : Int) (w : World) :
    Calls Tryz.prog 122 #[.bool c, .int .i64 e] w fun r w' => r = .returned (.int .i64 (whenE c e)) ∧ w = w' := by
  cases c
  · go_enter Tryz.func122, Tryz.ntmps122
    go_wp2
    go_ret
    exact ⟨rfl, rfl⟩
  · go_enter Tryz.func122, Tryz.ntmps122
    go_wp2
    go_ret
    exact ⟨rfl, rfl⟩

set_option maxHeartbeats 400000 in
theorem CheckRange_any (n lo hi : Int) (w : World) :
    Calls Tryz.prog 68 #[.int .i64 n, .int .i64 lo, .int .i64 hi] w fun r w' => r = .returned (.int .i64 (withinE n lo hi)) ∧ w = w' := by
  by_cases h1 : n < lo
  · go_enter Tryz.func68, Tryz.ntmps68
    go_wp2_with fail
    refine (WhenR_any _ _ _).mono ?_
    rintro e w' ⟨rfl, rfl⟩
    go_wp2
    go_ret
    exact ⟨by simp [whenE, withinE, h1], rfl⟩
  · by_cases h2 : hi < n
    all_goals
      go_enter Tryz.func68, Tryz.ntmps68
      go_wp2_with fail
      refine (WhenR_any _ _ _).mono ?_
      rintro e w' ⟨rfl, rfl⟩
      go_wp2
      go_ret
      exact ⟨by simp [whenE, withinE, h1, h2], rfl⟩

theorem firstE_map_take (f : Int → Int) (l : List Int) (k : Nat) (h : firstE ((l.take k).map f) ≠ 0) : firstE (l.map f) = firstE ((l.take k).map f) := by
  rw [List.map_take] at h ⊢
  exact firstE_of_take _ _ h
theorem firstE_map_succ (f : Int → Int) (l : List Int) (k : Nat) (x : Int) (hk : l[k]? = some x) (h : firstE ((l.take k).map f) = 0) : firstE ((l.take (k + 1)).map f) = f x := by
  rw [List.map_take] at h ⊢
  rw [firstE_take_succ _ k (by simp; exact (List.getElem?_eq_some_iff.1 hk).1) h, List.getElem?_map, hk]
  rfl

set_option maxHeartbeats 400000 in
theorem checkNumbersR_any (v : Value) (l : List Int) (lo hi : Int) (w : World) (hv : Ints w v l) (hl : l.length ≤ 1000000000) :
    Calls Tryz.prog 114 #[v, .int .i64 lo, .int .i64 hi] w fun r w' => r = .returned (.int .i64 (firstE (l.map fun x => withinE x lo hi))) ∧ w = w' := by
  obtain ⟨a, cap, rfl, hc, hv⟩ := hv
  rcases Nat.eq_zero_or_pos l.length with h0 | h0
  · obtain rfl : l = [] := List.length_eq_zero_iff.1 h0
    go_enter Tryz.func114, Tryz.ntmps114
    go_wp2
    go_loop [7] (fun i => i = .int .i64 0) (fun _ => 0)
    case atStart => rfl
    case round =>
      obtain rfl := hrel
      go_wp2
      go_ret
      exact ⟨rfl, rfl⟩
  · obtain ⟨b, off, rfl, hcs⟩ := hv h0
    clear hv
    go_enter Tryz.func114, Tryz.ntmps114
    go_wp2
    go_loop [7] (fun i => ∃ k : Nat, k ≤ l.length ∧ i = .int .i64 k ∧ firstE ((l.take k).map fun x => withinE x lo hi) = 0) (fun i => l.length - (intOf i).toNat)
    case atStart => exact ⟨0, by omega, rfl, rfl⟩
    case round =>
      obtain ⟨k, hk, rfl, hf⟩ := hrel
      have HF := Lib.hid hf
      clear hf
      by_cases hlt : k < l.length
      · have hcell := hcs k hlt
        clear hcs
        generalize hx : l[k]?.getD 0 = x at hcell
        have HX := Lib.hid (getElem?_of_getD hlt hx)
        clear hx
        by_cases hz : withinE x lo hi = 0
        · have hr := CheckRange_any x lo hi w
          rw [hz] at hr
          have HZ := Lib.hid hz
          clear hz
          go_wp2_with fail
          refine hr.mono ?_
          rintro e w2 ⟨rfl, rfl⟩
          clear hr
          go_wp2
          go_round
          case rel => exact ⟨k + 1, by omega, by go_num, by rw [firstE_map_succ _ _ _ _ HX.out HF.out]; exact HZ.out⟩
          case measure => simp [intOf]; omega
        · have hr := CheckRange_any x lo hi w
          go_wp2_with fail
          refine hr.mono ?_
          rintro e w2 ⟨rfl, rfl⟩
          clear hr
          go_wp2
          go_ret
          have hs := firstE_map_succ (fun x => withinE x lo hi) _ _ _ HX.out HF.out
          exact ⟨ret_int (by rw [firstE_map_take _ l (k + 1) (by rw [hs]; exact hz), hs]), rfl⟩
      · obtain rfl : k = l.length := by omega
        go_wp2
        go_ret
        exact ⟨ret_int (by have := HF.out; rw [List.take_length] at this; rw [this]), rfl⟩

set_option maxHeartbeats 400000 in
theorem CheckPolyR_any (v : Value) (l : List Int) (w : World) (hv : Ints w v l) (hl : l.length ≤ 1000000000) :
    Calls Tryz.prog 60 #[v] w fun r w' => r = .returned (.int .i64 (checkPolyE l)) ∧ w = w' := by
  have tn := checkNumbersR_any v l (-100) 100 w hv hl
  have TN := Lib.hid tn
  clear tn
  obtain ⟨a, cap, rfl, hc, hv⟩ := hv
  by_cases h0 : l.length = 0
  · clear hv
    go_enter Tryz.func60, Tryz.ntmps60
    go_wp2
    go_ret
    exact ⟨ret_int (by rw [checkPolyE, if_pos h0]), rfl⟩
  · have b0 : ((l.length : Int) == 0) = false := by rw [beq_eq_false_iff_ne]; omega
    by_cases h5 : 5 < l.length
    · clear hv
      go_enter Tryz.func60, Tryz.ntmps60
      go_wp2
      go_ret
      exact ⟨ret_int (by rw [checkPolyE, if_neg h0, if_pos h5]), rfl⟩
    · obtain ⟨b, off, rfl, hcs⟩ := hv (by omega)
      have hcell := hcs (l.length - 1) (by omega)
      clear hcs hv
      have hR : checkPolyE l = firstE [firstE (l.map coefE), whenE (l[l.length - 1]?.getD 0 == 0) 6] := by rw [checkPolyE, if_neg h0, if_neg h5]
      generalize l[l.length - 1]?.getD 0 = x at hcell hR
      have HR := Lib.hid hR
      clear hR
      have hm : (l.map fun x => withinE x (-100) 100) = l.map coefE := rfl
      rw [hm] at TN
      clear hm
      generalize hy : firstE (l.map coefE) = y at TN HR
      clear hy
      by_cases hy0 : y = 0
      · subst hy0
        by_cases hx0 : x = 0
        · subst hx0
          go_enter Tryz.func60, Tryz.ntmps60
          go_wp2_with fail
          refine (TN.out).mono ?_
          rintro e w' ⟨rfl, rfl⟩
          go_wp2
          go_ret
          exact ⟨ret_int (by rw [HR.out]; simp [firstE, whenE]), rfl⟩
        · have bx : (x == 0) = false := by rw [beq_eq_false_iff_ne]; exact hx0
          go_enter Tryz.func60, Tryz.ntmps60
          go_wp2_with fail
          refine (TN.out).mono ?_
          rintro e w' ⟨rfl, rfl⟩
          go_wp2
          go_ret
          exact ⟨ret_int (by rw [HR.out]; simp [firstE, whenE, hx0]), rfl⟩
      · go_enter Tryz.func60, Tryz.ntmps60
        go_wp2_with fail
        refine (TN.out).mono ?_
        rintro e w' ⟨rfl, rfl⟩
        go_wp2
        go_ret
        exact ⟨ret_int (by rw [HR.out]; simp [firstE, hy0]), rfl⟩

set_option maxHeartbeats 400000 in
theorem Quarters_any (w : World) :
    Calls Tryz.prog 33 #[] w fun r w' => r = .returned (.slice (some ⟨w.heap.size, 0, none⟩) 4 4) ∧ w.alloc (.cells #[.int .i64 1, .int .i64 0, .int .i64 0, .int .i64 1, .int .i64 (-1), .int .i64 0, .int .i64 0, .int .i64 (-1)] 59) = w' := by
  go_enter Tryz.func33, Tryz.ntmps33
  go_wp2
  go_ret
  exact ⟨rfl, rfl⟩

set_option maxHeartbeats 400000 in
theorem FirstR_any (v : Value) (l : List Int) (w : World) (hl : l.length ≤ 1000000000) (hv : Ints w v l) :
    Calls Tryz.prog 49 #[v] w fun r w' => r = .returned (.int .i64 (firstE l)) ∧ w = w' := by
  obtain ⟨a, cap, rfl, hc, hv⟩ := hv
  rcases Nat.eq_zero_or_pos l.length with h0 | h0
  · obtain rfl : l = [] := List.length_eq_zero_iff.1 h0
    go_enter Tryz.func49, Tryz.ntmps49
    go_wp2
    go_loop [3] (fun i => i = .int .i64 0) (fun _ => 0)
    case atStart => rfl
    case round =>
      obtain rfl := hrel
      go_wp2
      go_ret
      exact ⟨rfl, rfl⟩
  · obtain ⟨b, off, rfl, hcs⟩ := hv h0
    clear hv
    go_enter Tryz.func49, Tryz.ntmps49
    go_wp2
    go_loop [3] (fun i => ∃ k : Nat, k ≤ l.length ∧ i = .int .i64 k ∧ firstE (l.take k) = 0) (fun i => l.length - (intOf i).toNat)
    case atStart => exact ⟨0, by omega, rfl, rfl⟩
    case round =>
      obtain ⟨k, hk, rfl, hf⟩ := hrel
      by_cases hlt : k < l.length
      · have hcell := hcs k hlt
        have hs := firstE_take_succ l k hlt hf
        clear hcs
        generalize l[k]?.getD 0 = x at hcell hs
        have HS := Lib.hid hs
        clear hs hf
        by_cases hz : x = 0
        · subst hz
          go_wp2
          go_round
          case rel => exact ⟨k + 1, by omega, by go_num, HS.out⟩
          case measure => simp [intOf]; omega
        · go_wp2
          go_ret
          exact ⟨ret_int (by rw [firstE_of_take l (k+1) (by rw [HS.out]; exact hz), HS.out]), rfl⟩
      · have HF := Lib.hid hf
        clear hf
        go_wp2
        go_ret
        have h := HF.out
        rw [List.take_of_length_le (by omega)] at h
        exact ⟨ret_int h.symm, rfl⟩

set_option maxHeartbeats 400000 in
theorem powerR_any (a : Int) (n : Nat) (w : World) (hn : n ≤ 1000000) :
    Calls Tryz.prog 115 #[.int .i64 a, .int .i64 n] w fun r w' => r = .returned (.int .i64 (powW a n)) ∧ w = w' := by
  go_enter Tryz.func115, Tryz.ntmps115
  go_wp2
  go_loop [5, 6] (fun o i => ∃ k : Nat, k ≤ n ∧ i = .int .i64 k ∧ o = .int .i64 (powW a k)) (fun _ i => n - (intOf i).toNat)
  case atStart => exact ⟨0, by omega, rfl, rfl⟩
  case round =>
    obtain ⟨k, hk, rfl, rfl⟩ := hrel
    by_cases hlt : k < n
    · have hN : wrap64 (powW a k * a) = powW a (k + 1) := rfl
      have HN := Lib.hid hN
      clear hN
      go_wp2
      go_round
      case rel => exact ⟨k + 1, by omega, by go_num, by rw [HN.out]⟩
      case measure => simp [intOf]; omega
    · obtain rfl : k = n := by omega
      go_wp2
      go_ret
      exact ⟨rfl, rfl⟩
theorem powerR_i (a m : Int) (w : World) (h0 : 0 ≤ m) (h1 : m ≤ 1000000) :
    Calls Tryz.prog 115 #[.int .i64 a, .int .i64 m] w fun r w' => r = .returned (.int .i64 (powW a m.toNat)) ∧ w = w' := by
  obtain ⟨n, rfl⟩ := Int.eq_ofNat_of_zero_le h0
  rw [Int.toNat_natCast]
  exact powerR_any a n w (by omega)

theorem within_inB (x : Int) : withinE x (-1073741824) 1073741824 = if inB x then 0 else 3 := by
  unfold withinE inB
  by_cases h1 : x < -1073741824 <;> by_cases h2 : 1073741824 < x <;> simp [h1, h2]
theorem step2_12 {p l : List Int} {steps : Int} (h : p.length - 1 = 0) : step2E p l steps = 12 := by
  unfold step2E; rw [h]; simp [firstE, whenE]
theorem step2_2 {p l : List Int} {steps : Int} (h : p.length - 1 ≠ 0) (h2 : l.length ≠ p.length - 1) : step2E p l steps = 2 := by
  unfold step2E checkFirstE
  rw [if_pos (by omega)]
  simp [firstE, whenE, h]
theorem step2_ok {p l : List Int} {steps : Int} (h : p.length - 1 ≠ 0) (h2 : l.length = p.length - 1) : step2E p l steps = firstE [firstE (l.map fun x => withinE x (-1000) 1000), withinE steps 0 24] := by
  unfold step2E checkFirstE
  rw [if_neg (by omega)]
  simp [firstE, whenE, h]

set_option maxHeartbeats 4000000 in
set_option maxRecDepth 100000 in
theorem SteppedR_any (vp vl : Value) (p l : List Int) (steps : Int) (w : World) (hp : Ints w vp p) (hl : Ints w vl l) (hl2 : l.length ≤ 100000) (hp2 : p.length ≤ 100000) :
    Calls Tryz.prog 43 #[vp, vl, .int .i64 steps] w (GivesPoly w (steppedR p l steps) (steppedE p l steps)) := by
  have tp := CheckPolyR_any vp p w hp (by omega)
  by_cases hc : checkPolyE p = 0
  · have ⟨p1, p5⟩ := checkPolyE_ok hc
    obtain ⟨n, hn⟩ : ∃ n, p.length = n + 1 := ⟨p.length - 1, by omega⟩
    have hn4 : n ≤ 4 := by omega
    have hn1 : p.length - 1 = n := by omega
    rw [hc] at tp
    have HC := Lib.hid hc
    have HN := Lib.hid hn
    have HN1 := Lib.hid hn1
    have TP := Lib.hid tp
    obtain ⟨ap, cap, rfl, _, hpq⟩ := hp
    obtain ⟨bp, op, rfl, hpc⟩ := hpq (by omega)
    clear hpq hc hn1 tp
    have TN := Lib.hid (checkNumbersR_any vl l (-1000) 1000 w hl (by omega))
    have HI := Lib.hid hl
    obtain ⟨al, cal, rfl, _, hlq⟩ := hl
    have HLQ := Lib.hid hlq
    clear hlq
    have hpl2 : n < p.length := by omega
    have hnn : (p.length : Int) - 1 = (n : Int) := by omega
    clear hn
    by_cases hn0 : n = 0
    · subst hn0
      have HS := Lib.hid (step2_12 (p := p) (l := l) (steps := steps) HN1.out)
      go_enter Tryz.func43, Tryz.ntmps43
      go_wp2_with fail
      refine (TP.out).mono ?_
      rintro e w' ⟨rfl, rfl⟩
      go_wp2
      go_ret2
      exact ⟨⟨_, by rw [steppedE, if_neg (by rw [HC.out]; simp), if_pos (by rw [HS.out]; simp), HS.out]; rfl, by rw [steppedR, if_neg (by rw [HC.out]; simp), if_pos (by rw [HS.out]; simp)]; exact Ints.nil _⟩, Below.refl _ _⟩
    · by_cases hln : l.length = n
      · have hS := step2_ok (p := p) (l := l) (steps := steps) (by rw [HN1.out]; exact hn0) (by rw [HN1.out]; exact hln)
        have tr := CheckRange_any steps 0 24 w
        have HW : Hid (withinE steps 0 24 = 0 → 0 ≤ steps ∧ steps ≤ 24) := Lib.hid withinE_ok
        have tn := TN.out
        rw [hln] at tn ⊢
        generalize firstE (l.map fun x => withinE x (-1000) 1000) = ea at hS tn
        generalize withinE steps 0 24 = eb at hS tr HW
        have tf := FirstR_any (.slice (some ⟨w.heap.size, 0, none⟩) 2 2) [ea, eb] _ (by simp) (Ints.lit w 3 [ea, eb] 2 rfl)
        have TF := Lib.hid tf
        have TR := Lib.hid tr
        have TN := Lib.hid tn
        have HS := Lib.hid hS
        have HLN := Lib.hid hln
        clear tf tr tn hS hln
        go_enter Tryz.func43, Tryz.ntmps43
        go_wp2_with fail
        refine (TP.out).mono ?_
        rintro e w' ⟨rfl, rfl⟩
        go_wp2_with fail
        refine (TN.out).mono ?_
        rintro e w' ⟨rfl, rfl⟩
        go_wp2_with fail
        refine (TR.out).mono ?_
        rintro e w' ⟨rfl, rfl⟩
        go_wp2_with fail
        refine TF.out.mono ?_
        rintro e w' ⟨rfl, rfl⟩
        have h3 := below_new w (.cells #[.int .i64 ea, .int .i64 eb] 3)
        obtain ⟨V, hV⟩ : ∃ V, V = w.alloc (.cells #[.int .i64 ea, .int .i64 eb] 3) := ⟨_, rfl⟩
        clear TF
        rw [show w.alloc (.cells (([ea, eb] : List Int).map (Value.int .i64)).toArray 3) = V from hV.symm]
        rw [← hV] at h3
        clear hV
        by_cases he : firstE [ea, eb] = 0
        · have HE := Lib.hid (HS.out.trans he)
          obtain ⟨e1, e2⟩ := firstE_cons_ok he
          obtain ⟨e2, _⟩ := firstE_cons_ok e2
          have hs := HW.out e2
          obtain ⟨st, rfl⟩ := Int.eq_ofNat_of_zero_le hs.1
          have hst : st ≤ 24 := by omega
          rw [he]
          clear e1 e2 he hs HW TN TR TP HS
          obtain ⟨bl, ol, rfl, hlc⟩ := HLQ.out (by rw [HLN.out]; omega)
          clear HLQ
          have hlc : ∀ j, j < n → w.cell? ⟨bl, ol + j, none⟩ = some (.int .i64 (l[j]?.getD 0)) := fun j hj => hlc j (by rw [HLN.out]; exact hj)
          obtain ⟨i0, hi, hz0, hz1, hz2⟩ := info_parts Tryz.infoInt
          go_wp2
          go_loopw [11, 12] (fun o i wr => ∃ (t : Nat) (out : List Int), t ≤ n + st ∧ i = .int .i64 t ∧ stepL p l n t = some out ∧ out.length = t ∧ wr.ownsRow w.heap.size 3 1 o t (out.map (Value.int .i64)) ∧ Below w.heap.size w wr) (fun _ i _ => n + st - (intOf i).toNat)
          case atStart => exact ⟨0, [], by omega, rfl, rfl, rfl, World.ownsRow_nil _ _ _ _, h3⟩
          case round =>
            obtain ⟨t, out, ht, rfl, hO, hlen, hown, hbel⟩ := hrel
            have HO := Lib.hid hO
            have HLE := Lib.hid hlen
            clear hO hlen h3
            by_cases hlt : t < n + st
            · by_cases htn : t < n
              · have ca := cellb (hlc t htn) hbel
                have cb := cellb (hpc n (by omega)) hbel
                have hq : stepVal p l out n t = wrap64 (l[t]?.getD 0 * powW (p[n]?.getD 0) t) := by rw [stepVal, if_pos htn]
                generalize l[t]?.getD 0 = a at ca hq
                generalize p[n]?.getD 0 = b at cb hq
                have HQ0 := Lib.hid hq
                clear hq
                go_wp2_with fail
                refine wp_region_held_drew (S := (fun w' => w'.cell? ⟨bl, ol + t, none⟩ = some (.int .i64 a) ∧ w'.cell? ⟨bp, op + n, none⟩ = some (.int .i64 b))) (by kernel_rfl) ?_ (fun hHeld0 => ?_)
                · (try dsimp only); go_keep
                refine wpAnyH_take (i := 0) (oi := { dst := some 48, op := Op.move (Operand.tmp 1), type := 22, pos := "ref.go:403", after := #[], guard := none }) (v := ?_) rfl (by kernel_rfl) (by kernel_rfl) (by kernel_rfl) (fun _ _ _ h => h) (Or.inl ⟨by rfl, ?_⟩) (by assumption) ?_
                rotate_left
                · (intro w hSw; (try dsimp only at hSw); go_simp); (try with_reducible rfl)
                try simp only [Act.put, List.setIfInBounds_toArray, List.set_cons_zero, List.set_cons_succ]
                refine wpAnyH_take (i := 1) (oi := { dst := some 49, op := Op.move (Operand.tmp 12), type := 3, pos := "ref.go:403", after := #[], guard := none }) (v := ?_) rfl (by kernel_rfl) (by kernel_rfl) (by kernel_rfl) (fun _ _ _ h => h) (Or.inl ⟨by rfl, ?_⟩) (by assumption) ?_
                rotate_left
                · (intro w hSw; (try dsimp only at hSw); go_simp); (try with_reducible rfl)
                try simp only [Act.put, List.setIfInBounds_toArray, List.set_cons_zero, List.set_cons_succ]
                refine wpAnyH_take (i := 2) (oi := { dst := some 50, op := Op.indexAddr 22 (Operand.tmp 48) (Operand.tmp 49), type := 0, pos := "ref.go:403", after := #[{ on := 0, ground := Ground.data }, { on := 1, ground := Ground.data }], guard := none }) (v := ?_) rfl (by kernel_rfl) (by kernel_rfl) (by kernel_rfl) (fun _ _ _ h => h) (Or.inl ⟨by rfl, ?_⟩) (by assumption) ?_
                rotate_left
                · (intro w hSw; (try dsimp only at hSw); go_simp); (try with_reducible rfl)
                try simp only [Act.put, List.setIfInBounds_toArray, List.set_cons_zero, List.set_cons_succ]
                refine wpAnyH_take (i := 3) (oi := { dst := some 51, op := Op.load 3 (Operand.tmp 50), type := 3, pos := "ref.go:403", after := #[{ on := 2, ground := Ground.data }], guard := none }) (v := ?_) rfl (by kernel_rfl) (by kernel_rfl) (by kernel_rfl) (fun _ _ _ h => h) (Or.inl ⟨by rfl, ?_⟩) (by assumption) ?_
                rotate_left
                · (intro w hSw; (try dsimp only at hSw); go_simp); (try with_reducible rfl)
                try simp only [Act.put, List.setIfInBounds_toArray, List.set_cons_zero, List.set_cons_succ]
                refine wpAnyH_take (i := 4) (oi := { dst := some 52, op := Op.move (Operand.tmp 0), type := 22, pos := "ref.go:403", after := #[], guard := none }) (v := ?_) rfl (by kernel_rfl) (by kernel_rfl) (by kernel_rfl) (fun _ _ _ h => h) (Or.inl ⟨by rfl, ?_⟩) (by assumption) ?_
                rotate_left
                · (intro w hSw; (try dsimp only at hSw); go_simp); (try with_reducible rfl)
                try simp only [Act.put, List.setIfInBounds_toArray, List.set_cons_zero, List.set_cons_succ]
                refine wpAnyH_take (i := 5) (oi := { dst := some 53, op := Op.move (Operand.tmp 9), type := 3, pos := "ref.go:403", after := #[], guard := none }) (v := ?_) rfl (by kernel_rfl) (by kernel_rfl) (by kernel_rfl) (fun _ _ _ h => h) (Or.inl ⟨by rfl, ?_⟩) (by assumption) ?_
                rotate_left
                · (intro w hSw; (try dsimp only at hSw); go_simp); (try with_reducible rfl)
                try simp only [Act.put, List.setIfInBounds_toArray, List.set_cons_zero, List.set_cons_succ]
                refine wpAnyH_take (i := 6) (oi := { dst := some 54, op := Op.indexAddr 22 (Operand.tmp 52) (Operand.tmp 53), type := 0, pos := "ref.go:403", after := #[{ on := 4, ground := Ground.data }, { on := 5, ground := Ground.data }], guard := none }) (v := ?_) rfl (by kernel_rfl) (by kernel_rfl) (by kernel_rfl) (fun _ _ _ h => h) (Or.inl ⟨by rfl, ?_⟩) (by assumption) ?_
                rotate_left
                · (intro w hSw; (try dsimp only at hSw); go_simp); (try with_reducible rfl)
                try simp only [Act.put, List.setIfInBounds_toArray, List.set_cons_zero, List.set_cons_succ]
                refine wpAnyH_take (i := 7) (oi := { dst := some 55, op := Op.load 3 (Operand.tmp 54), type := 3, pos := "ref.go:403", after := #[{ on := 6, ground := Ground.data }], guard := none }) (v := ?_) rfl (by kernel_rfl) (by kernel_rfl) (by kernel_rfl) (fun _ _ _ h => h) (Or.inl ⟨by rfl, ?_⟩) (by assumption) ?_
                rotate_left
                · (intro w hSw; (try dsimp only at hSw); go_simp); (try with_reducible rfl)
                try simp only [Act.put, List.setIfInBounds_toArray, List.set_cons_zero, List.set_cons_succ]
                refine wpAnyH_take (i := 8) (oi := { dst := some 56, op := Op.move (Operand.tmp 12), type := 3, pos := "ref.go:403", after := #[], guard := none }) (v := ?_) rfl (by kernel_rfl) (by kernel_rfl) (by kernel_rfl) (fun _ _ _ h => h) (Or.inl ⟨by rfl, ?_⟩) (by assumption) ?_
                rotate_left
                · (intro w hSw; (try dsimp only at hSw); go_simp); (try with_reducible rfl)
                try simp only [Act.put, List.setIfInBounds_toArray, List.set_cons_zero, List.set_cons_succ]
                refine wpAnyH_ready (rs := [9]) (by kernel_rfl) (by simp) ?_
                refine (AllReadyH.cons (o := { dst := some 57, op := Op.call { callee := Callee.value (Operand.func 115), args := #[Operand.tmp 55, Operand.tmp 56], argTypes := #[3, 3] }, type := 3, pos := "ref.go:403", after := #[{ on := 7, ground := Ground.data }, { on := 8, ground := Ground.data }], guard := none }) rfl (fun K hK => ?_) AllReadyH.nil)
                go_simp
                (go_at_call 115; (with_reducible refine (powerR_any _ _ _ (by omega)).mono ?_); rintro e w' ⟨rfl, rfl⟩)
                (try go_wp2_with fail)
                refine hK.out _ _ ?_ (fun hHeld1 => ?_)
                · (try dsimp only); go_keep
                clear hK K hHeld0
                try simp only [Act.put, List.setIfInBounds_toArray, List.set_cons_zero, List.set_cons_succ]
                refine wpAnyH_take (i := 10) (oi := { dst := some 58, op := Op.binOp BinOp.mul 3 (Operand.tmp 51) (Operand.tmp 57) 3, type := 3, pos := "ref.go:403", after := #[{ on := 3, ground := Ground.data }, { on := 9, ground := Ground.data }], guard := none }) (v := ?_) rfl (by kernel_rfl) (by kernel_rfl) (by kernel_rfl) (fun _ _ _ h => h) (Or.inl ⟨by rfl, ?_⟩) (by assumption) ?_
                rotate_left
                · (intro w hSw; (try dsimp only at hSw); go_simp); (try with_reducible rfl)
                try simp only [Act.put, List.setIfInBounds_toArray, List.set_cons_zero, List.set_cons_succ]
                refine wpAnyH_take (i := 11) (oi := { dst := some 13, op := Op.assign (Operand.tmp 58), type := 3, pos := "ref.go:403", after := #[{ on := 10, ground := Ground.data }, { on := 9, ground := Ground.chain }, { on := 0, ground := Ground.phase }, { on := 1, ground := Ground.phase }, { on := 2, ground := Ground.phase }, { on := 3, ground := Ground.phase }, { on := 4, ground := Ground.phase }, { on := 5, ground := Ground.phase }, { on := 6, ground := Ground.phase }, { on := 7, ground := Ground.phase }, { on := 8, ground := Ground.phase }, { on := 9, ground := Ground.phase }, { on := 10, ground := Ground.phase }], guard := none }) (v := ?_) rfl (by kernel_rfl) (by kernel_rfl) (by kernel_rfl) (fun _ _ _ h => h) (Or.inl ⟨by rfl, ?_⟩) (by assumption) ?_
                rotate_left
                · (intro w hSw; (try dsimp only at hSw); go_simp); (try with_reducible rfl)
                try simp only [Act.put, List.setIfInBounds_toArray, List.set_cons_zero, List.set_cons_succ]
                refine wpAnyH_done (by kernel_rfl) ?_ _
                clear hHeld1
                rw [wrapEq]
                have hq := HQ0.out
                generalize wrap64 (a * powW b t) = x at hq ⊢
                have hbx : Below w.heap.size w wr.drew := hbel.drew
                have hownx : wr.drew.ownsRow w.heap.size 3 1 u11 t (out.map (Value.int .i64)) := own_below hown (Below.refl _ _).drew
                clear HQ0 ca cb hown hbel
                obtain ⟨wx, hwx⟩ : ∃ wx, wx = wr.drew := ⟨_, rfl⟩
                rw [← hwx] at hbx hownx ⊢
                clear hwx
                have HQ := Lib.hid hq
                clear hq
                go_wp2
                go_loopw [13, 14] (fun vx j wr2 => vx = .int .i64 x ∧ j = .int .i64 0 ∧ Below wx.heap.size wx wr2) (fun _ _ _ => 0)
                case atStart => exact ⟨rfl, rfl, Below.refl _ _⟩
                case round =>
                  obtain ⟨rfl, rfl, hbj⟩ := hrel
                  have hownx := own_below hownx hbj
                  have hbx := bthen hbx hbj
                  clear hbj
                  by_cases hin : inB x
                  · have hr := CheckRange_any x (-1073741824) 1073741824 wr
                    rw [within_inB, if_pos hin] at hr
                    have hyes : stepL p l n (t + 1) = some (out ++ [x]) := by have := stepL_yes HO.out (by rw [HQ.out]; exact hin); rw [HQ.out] at this; exact this
                    have HY := Lib.hid hyes
                    clear hyes hin
                    go_wp2_with fail
                    refine hr.mono ?_
                    rintro e w9 ⟨rfl, rfl⟩
                    clear hr
                    have hsx := hbx.size
                    go_wp2_with (at_builtin; refine wpList_append_own _ rfl _ _ 22 rfl w.heap.size 3 i0 (.int .i64 0) 1 8 Tryz.underlying22 hi hz0 hz1 hz2 rfl (by decide) _ _ _ rfl (hownx.alloc _) ⟨wr.heap.size, 0, none⟩ 1 1 [.int .i64 x] rfl rfl (cell_one_new _ _ _) (by simp [Value.oneCell']) (by unfold maxLen; omega) (by omega) (by simp; omega) ?_; intro v' w5 hown5 hgrow5 _)
                    have hb5 := below_own hbx hownx hgrow5
                    clear hownx hgrow5 hbx
                    go_wp2
                    go_roundw
                    case rel => exact ⟨t + 1, out ++ [x], by omega, by go_num, HY.out, by simp [HLE.out], by simpa using hown5, hb5⟩
                    case measure => simp [intOf]; omega
                  · have hr := CheckRange_any x (-1073741824) 1073741824 wr
                    rw [within_inB, if_neg hin] at hr
                    have hno : stepL p l n (n + st) = none := stepL_none (stepL_no HO.out (by rw [HQ.out]; exact hin)) (by omega)
                    have HNO := Lib.hid hno
                    clear hno hin
                    go_wp2_with fail
                    refine hr.mono ?_
                    rintro e w9 ⟨rfl, rfl⟩
                    clear hr
                    go_wp2
                    go_ret2
                    exact ⟨⟨_, by rw [steppedE, if_neg (by rw [HC.out]; simp), if_neg (by rw [HE.out]; simp), HN1.out, Int.toNat_natCast, HNO.out]; rfl, by rw [steppedR, if_neg (by rw [HC.out]; simp), if_neg (by rw [HE.out]; simp), HN1.out, Int.toNat_natCast, HNO.out]; exact Ints.nil _⟩, hbx⟩
              · obtain rfl : out.length = t := HLE.out
                have hge : (n : Int) ≤ (out.length : Int) := by omega
                obtain ⟨g, cg, rfl, hgb, hgc⟩ := own_cells hown (by omega)
                obtain ⟨wo, rfl⟩ : ∃ wo, wo = wr := ⟨_, rfl⟩
                have hq0 : stepVal p l out n out.length = stepIn p out n out.length n := by rw [stepVal, if_neg htn]
                have HQ0 := Lib.hid hq0
                clear hq0
                go_wp2
                go_loopw [13, 14] (fun val j wr2 => ∃ k : Nat, k ≤ n ∧ j = .int .i64 k ∧ val = .int .i64 (stepIn p out n out.length k) ∧ Below wo.heap.size wo wr2) (fun _ j _ => n - (intOf j).toNat)
                case atStart => exact ⟨0, by omega, rfl, rfl, Below.refl _ _⟩
                case round =>
                  obtain ⟨k, hk, rfl, rfl, hb2⟩ := hrel
                  have hbx : Below w.heap.size w wr := bthen hbel hb2
                  by_cases hkn : k < n
                  · have c1 := cellb (hpc k (by omega)) hbx
                    have c2 := cellb (hpc n (by omega)) hbx
                    have c3 := (hb2.cell (p := ⟨g, out.length - n + k, none⟩) (lt_of_cellSome (hgc (out.length - n + k) (by omega)))).trans (hgc (out.length - n + k) (by omega))
                    have hN : wrap64 (stepIn p out n out.length k - wrap64 (wrap64 (p[k]?.getD 0 * out[out.length - n + k]?.getD 0) * powW (p[n]?.getD 0) (n - k - 1))) = stepIn p out n out.length (k + 1) := rfl
                    generalize p[k]?.getD 0 = a at c1 hN
                    generalize p[n]?.getD 0 = b at c2 hN
                    generalize out[out.length - n + k]?.getD 0 = c at c3 hN
                    generalize stepIn p out n out.length k = y at hN ⊢
                    have HNN := Lib.hid hN
                    clear hN
                    have a1 : IntKind.i64.wrap ((out.length : Int) - (n : Int)) = (out.length : Int) - (n : Int) := IntWalk.i64_in _ (by omega)
                    have a2 : IntKind.i64.wrap ((out.length : Int) - (n : Int) + (k : Int)) = (out.length : Int) - (n : Int) + (k : Int) := IntWalk.i64_in _ (by omega)
                    have a3 : (0 : Int) ≤ (out.length : Int) - (n : Int) + (k : Int) := by omega
                    have a4 : (out.length : Int) - (n : Int) + (k : Int) < (out.length : Int) := by omega
                    have a5 : ((out.length : Int) - (n : Int) + (k : Int)).toNat = out.length - n + k := by omega
                    have a6 : IntKind.i64.wrap ((n : Int) - (k : Int)) = (n : Int) - (k : Int) := IntWalk.i64_in _ (by omega)
                    have a7 : IntKind.i64.wrap ((n : Int) - (k : Int) - 1) = (n : Int) - (k : Int) - 1 := IntWalk.i64_in _ (by omega)
                    have a8 : ((n : Int) - (k : Int) - 1).toNat = n - k - 1 := by omega
                    have a9 : (k : Int) < (p.length : Int) := by omega
                    have HA8 := Lib.hid a8
                    clear a8
                    go_wp2_with fail
                    refine wp_region_held_drew (S := (fun w' => w'.cell? ⟨bp, op + k, none⟩ = some (.int .i64 a) ∧ w'.cell? ⟨g, out.length - n + k, none⟩ = some (.int .i64 c) ∧ w'.cell? ⟨bp, op + n, none⟩ = some (.int .i64 b))) (by kernel_rfl) ?_ (fun hHeld0 => ?_)
                    · (try dsimp only); go_keep
                    refine wpAnyH_take (i := 0) (oi := { dst := some 69, op := Op.move (Operand.tmp 13), type := 3, pos := "ref.go:406", after := #[], guard := none }) (v := ?_) rfl (by kernel_rfl) (by kernel_rfl) (by kernel_rfl) (fun _ _ _ h => h) (Or.inl ⟨by rfl, ?_⟩) (by assumption) ?_
                    rotate_left
                    · (intro w hSw; (try dsimp only at hSw); go_simp); (try with_reducible rfl)
                    try simp only [Act.put, List.setIfInBounds_toArray, List.set_cons_zero, List.set_cons_succ]
                    refine wpAnyH_take (i := 1) (oi := { dst := some 70, op := Op.move (Operand.tmp 0), type := 22, pos := "ref.go:406", after := #[], guard := none }) (v := ?_) rfl (by kernel_rfl) (by kernel_rfl) (by kernel_rfl) (fun _ _ _ h => h) (Or.inl ⟨by rfl, ?_⟩) (by assumption) ?_
                    rotate_left
                    · (intro w hSw; (try dsimp only at hSw); go_simp); (try with_reducible rfl)
                    try simp only [Act.put, List.setIfInBounds_toArray, List.set_cons_zero, List.set_cons_succ]
                    refine wpAnyH_take (i := 2) (oi := { dst := some 71, op := Op.move (Operand.tmp 14), type := 3, pos := "ref.go:406", after := #[], guard := none }) (v := ?_) rfl (by kernel_rfl) (by kernel_rfl) (by kernel_rfl) (fun _ _ _ h => h) (Or.inl ⟨by rfl, ?_⟩) (by assumption) ?_
                    rotate_left
                    · (intro w hSw; (try dsimp only at hSw); go_simp); (try with_reducible rfl)
                    try simp only [Act.put, List.setIfInBounds_toArray, List.set_cons_zero, List.set_cons_succ]
                    refine wpAnyH_take (i := 3) (oi := { dst := some 72, op := Op.indexAddr 22 (Operand.tmp 70) (Operand.tmp 71), type := 0, pos := "ref.go:406", after := #[{ on := 1, ground := Ground.data }, { on := 2, ground := Ground.data }], guard := none }) (v := ?_) rfl (by kernel_rfl) (by kernel_rfl) (by kernel_rfl) (fun _ _ _ h => h) (Or.inl ⟨by rfl, ?_⟩) (by assumption) ?_
                    rotate_left
                    · (intro w hSw; (try dsimp only at hSw); go_simp); (try with_reducible rfl)
                    try simp only [Act.put, List.setIfInBounds_toArray, List.set_cons_zero, List.set_cons_succ]
                    refine wpAnyH_take (i := 4) (oi := { dst := some 73, op := Op.load 3 (Operand.tmp 72), type := 3, pos := "ref.go:406", after := #[{ on := 3, ground := Ground.data }], guard := none }) (v := ?_) rfl (by kernel_rfl) (by kernel_rfl) (by kernel_rfl) (fun _ _ _ h => h) (Or.inl ⟨by rfl, ?_⟩) (by assumption) ?_
                    rotate_left
                    · (intro w hSw; (try dsimp only at hSw); go_simp); (try with_reducible rfl)
                    try simp only [Act.put, List.setIfInBounds_toArray, List.set_cons_zero, List.set_cons_succ]
                    refine wpAnyH_take (i := 5) (oi := { dst := some 74, op := Op.move (Operand.tmp 11), type := 22, pos := "ref.go:406", after := #[], guard := none }) (v := ?_) rfl (by kernel_rfl) (by kernel_rfl) (by kernel_rfl) (fun _ _ _ h => h) (Or.inl ⟨by rfl, ?_⟩) (by assumption) ?_
                    rotate_left
                    · (intro w hSw; (try dsimp only at hSw); go_simp); (try with_reducible rfl)
                    try simp only [Act.put, List.setIfInBounds_toArray, List.set_cons_zero, List.set_cons_succ]
                    refine wpAnyH_take (i := 6) (oi := { dst := some 75, op := Op.move (Operand.tmp 12), type := 3, pos := "ref.go:406", after := #[], guard := none }) (v := ?_) rfl (by kernel_rfl) (by kernel_rfl) (by kernel_rfl) (fun _ _ _ h => h) (Or.inl ⟨by rfl, ?_⟩) (by assumption) ?_
                    rotate_left
                    · (intro w hSw; (try dsimp only at hSw); go_simp); (try with_reducible rfl)
                    try simp only [Act.put, List.setIfInBounds_toArray, List.set_cons_zero, List.set_cons_succ]
                    refine wpAnyH_take (i := 7) (oi := { dst := some 76, op := Op.move (Operand.tmp 9), type := 3, pos := "ref.go:406", after := #[], guard := none }) (v := ?_) rfl (by kernel_rfl) (by kernel_rfl) (by kernel_rfl) (fun _ _ _ h => h) (Or.inl ⟨by rfl, ?_⟩) (by assumption) ?_
                    rotate_left
                    · (intro w hSw; (try dsimp only at hSw); go_simp); (try with_reducible rfl)
                    try simp only [Act.put, List.setIfInBounds_toArray, List.set_cons_zero, List.set_cons_succ]
                    refine wpAnyH_take (i := 8) (oi := { dst := some 77, op := Op.binOp BinOp.sub 3 (Operand.tmp 75) (Operand.tmp 76) 3, type := 3, pos := "ref.go:406", after := #[{ on := 6, ground := Ground.data }, { on := 7, ground := Ground.data }], guard := none }) (v := ?_) rfl (by kernel_rfl) (by kernel_rfl) (by kernel_rfl) (fun _ _ _ h => h) (Or.inl ⟨by rfl, ?_⟩) (by assumption) ?_
                    rotate_left
                    · (intro w hSw; (try dsimp only at hSw); go_simp); (try with_reducible rfl)
                    try simp only [Act.put, List.setIfInBounds_toArray, List.set_cons_zero, List.set_cons_succ]
                    refine wpAnyH_take (i := 9) (oi := { dst := some 78, op := Op.move (Operand.tmp 14), type := 3, pos := "ref.go:406", after := #[], guard := none }) (v := ?_) rfl (by kernel_rfl) (by kernel_rfl) (by kernel_rfl) (fun _ _ _ h => h) (Or.inl ⟨by rfl, ?_⟩) (by assumption) ?_
                    rotate_left
                    · (intro w hSw; (try dsimp only at hSw); go_simp); (try with_reducible rfl)
                    try simp only [Act.put, List.setIfInBounds_toArray, List.set_cons_zero, List.set_cons_succ]
                    refine wpAnyH_take (i := 10) (oi := { dst := some 79, op := Op.binOp BinOp.add 3 (Operand.tmp 77) (Operand.tmp 78) 3, type := 3, pos := "ref.go:406", after := #[{ on := 8, ground := Ground.data }, { on := 9, ground := Ground.data }], guard := none }) (v := ?_) rfl (by kernel_rfl) (by kernel_rfl) (by kernel_rfl) (fun _ _ _ h => h) (Or.inl ⟨by rfl, ?_⟩) (by assumption) ?_
                    rotate_left
                    · (intro w hSw; (try dsimp only at hSw); go_simp); (try with_reducible rfl)
                    try simp only [Act.put, List.setIfInBounds_toArray, List.set_cons_zero, List.set_cons_succ]
                    refine wpAnyH_take (i := 11) (oi := { dst := some 80, op := Op.indexAddr 22 (Operand.tmp 74) (Operand.tmp 79), type := 0, pos := "ref.go:406", after := #[{ on := 5, ground := Ground.data }, { on := 10, ground := Ground.data }], guard := none }) (v := ?_) rfl (by kernel_rfl) (by kernel_rfl) (by kernel_rfl) (fun _ _ _ h => h) (Or.inl ⟨by rfl, ?_⟩) (by assumption) ?_
                    rotate_left
                    · (intro w hSw; (try dsimp only at hSw); go_simp); (try with_reducible rfl)
                    try simp only [Act.put, List.setIfInBounds_toArray, List.set_cons_zero, List.set_cons_succ]
                    refine wpAnyH_take (i := 12) (oi := { dst := some 81, op := Op.load 3 (Operand.tmp 80), type := 3, pos := "ref.go:406", after := #[{ on := 11, ground := Ground.data }], guard := none }) (v := ?_) rfl (by kernel_rfl) (by kernel_rfl) (by kernel_rfl) (fun _ _ _ h => h) (Or.inl ⟨by rfl, ?_⟩) (by assumption) ?_
                    rotate_left
                    · (intro w hSw; (try dsimp only at hSw); go_simp); (try with_reducible rfl)
                    try simp only [Act.put, List.setIfInBounds_toArray, List.set_cons_zero, List.set_cons_succ]
                    refine wpAnyH_take (i := 13) (oi := { dst := some 82, op := Op.binOp BinOp.mul 3 (Operand.tmp 73) (Operand.tmp 81) 3, type := 3, pos := "ref.go:406", after := #[{ on := 4, ground := Ground.data }, { on := 12, ground := Ground.data }], guard := none }) (v := ?_) rfl (by kernel_rfl) (by kernel_rfl) (by kernel_rfl) (fun _ _ _ h => h) (Or.inl ⟨by rfl, ?_⟩) (by assumption) ?_
                    rotate_left
                    · (intro w hSw; (try dsimp only at hSw); go_simp); (try with_reducible rfl)
                    try simp only [Act.put, List.setIfInBounds_toArray, List.set_cons_zero, List.set_cons_succ]
                    refine wpAnyH_take (i := 14) (oi := { dst := some 83, op := Op.move (Operand.tmp 0), type := 22, pos := "ref.go:406", after := #[], guard := none }) (v := ?_) rfl (by kernel_rfl) (by kernel_rfl) (by kernel_rfl) (fun _ _ _ h => h) (Or.inl ⟨by rfl, ?_⟩) (by assumption) ?_
                    rotate_left
                    · (intro w hSw; (try dsimp only at hSw); go_simp); (try with_reducible rfl)
                    try simp only [Act.put, List.setIfInBounds_toArray, List.set_cons_zero, List.set_cons_succ]
                    refine wpAnyH_take (i := 15) (oi := { dst := some 84, op := Op.move (Operand.tmp 9), type := 3, pos := "ref.go:406", after := #[], guard := none }) (v := ?_) rfl (by kernel_rfl) (by kernel_rfl) (by kernel_rfl) (fun _ _ _ h => h) (Or.inl ⟨by rfl, ?_⟩) (by assumption) ?_
                    rotate_left
                    · (intro w hSw; (try dsimp only at hSw); go_simp); (try with_reducible rfl)
                    try simp only [Act.put, List.setIfInBounds_toArray, List.set_cons_zero, List.set_cons_succ]
                    refine wpAnyH_take (i := 16) (oi := { dst := some 85, op := Op.indexAddr 22 (Operand.tmp 83) (Operand.tmp 84), type := 0, pos := "ref.go:406", after := #[{ on := 14, ground := Ground.data }, { on := 15, ground := Ground.data }], guard := none }) (v := ?_) rfl (by kernel_rfl) (by kernel_rfl) (by kernel_rfl) (fun _ _ _ h => h) (Or.inl ⟨by rfl, ?_⟩) (by assumption) ?_
                    rotate_left
                    · (intro w hSw; (try dsimp only at hSw); go_simp); (try with_reducible rfl)
                    try simp only [Act.put, List.setIfInBounds_toArray, List.set_cons_zero, List.set_cons_succ]
                    refine wpAnyH_take (i := 17) (oi := { dst := some 86, op := Op.load 3 (Operand.tmp 85), type := 3, pos := "ref.go:406", after := #[{ on := 16, ground := Ground.data }], guard := none }) (v := ?_) rfl (by kernel_rfl) (by kernel_rfl) (by kernel_rfl) (fun _ _ _ h => h) (Or.inl ⟨by rfl, ?_⟩) (by assumption) ?_
                    rotate_left
                    · (intro w hSw; (try dsimp only at hSw); go_simp); (try with_reducible rfl)
                    try simp only [Act.put, List.setIfInBounds_toArray, List.set_cons_zero, List.set_cons_succ]
                    refine wpAnyH_take (i := 18) (oi := { dst := some 87, op := Op.move (Operand.tmp 9), type := 3, pos := "ref.go:406", after := #[], guard := none }) (v := ?_) rfl (by kernel_rfl) (by kernel_rfl) (by kernel_rfl) (fun _ _ _ h => h) (Or.inl ⟨by rfl, ?_⟩) (by assumption) ?_
                    rotate_left
                    · (intro w hSw; (try dsimp only at hSw); go_simp); (try with_reducible rfl)
                    try simp only [Act.put, List.setIfInBounds_toArray, List.set_cons_zero, List.set_cons_succ]
                    refine wpAnyH_take (i := 19) (oi := { dst := some 88, op := Op.move (Operand.tmp 14), type := 3, pos := "ref.go:406", after := #[], guard := none }) (v := ?_) rfl (by kernel_rfl) (by kernel_rfl) (by kernel_rfl) (fun _ _ _ h => h) (Or.inl ⟨by rfl, ?_⟩) (by assumption) ?_
                    rotate_left
                    · (intro w hSw; (try dsimp only at hSw); go_simp); (try with_reducible rfl)
                    try simp only [Act.put, List.setIfInBounds_toArray, List.set_cons_zero, List.set_cons_succ]
                    refine wpAnyH_take (i := 20) (oi := { dst := some 89, op := Op.binOp BinOp.sub 3 (Operand.tmp 87) (Operand.tmp 88) 3, type := 3, pos := "ref.go:406", after := #[{ on := 18, ground := Ground.data }, { on := 19, ground := Ground.data }], guard := none }) (v := ?_) rfl (by kernel_rfl) (by kernel_rfl) (by kernel_rfl) (fun _ _ _ h => h) (Or.inl ⟨by rfl, ?_⟩) (by assumption) ?_
                    rotate_left
                    · (intro w hSw; (try dsimp only at hSw); go_simp); (try with_reducible rfl)
                    try simp only [Act.put, List.setIfInBounds_toArray, List.set_cons_zero, List.set_cons_succ]
                    refine wpAnyH_take (i := 21) (oi := { dst := some 90, op := Op.binOp BinOp.sub 3 (Operand.tmp 89) (Operand.const (Value.int IntKind.i64 1)) 3, type := 3, pos := "ref.go:406", after := #[{ on := 20, ground := Ground.data }], guard := none }) (v := ?_) rfl (by kernel_rfl) (by kernel_rfl) (by kernel_rfl) (fun _ _ _ h => h) (Or.inl ⟨by rfl, ?_⟩) (by assumption) ?_
                    rotate_left
                    · (intro w hSw; (try dsimp only at hSw); go_simp); (try with_reducible rfl)
                    try simp only [Act.put, List.setIfInBounds_toArray, List.set_cons_zero, List.set_cons_succ]
                    refine wpAnyH_ready (rs := [22]) (by kernel_rfl) (by simp) ?_
                    refine (AllReadyH.cons (o := { dst := some 91, op := Op.call { callee := Callee.value (Operand.func 115), args := #[Operand.tmp 86, Operand.tmp 90], argTypes := #[3, 3] }, type := 3, pos := "ref.go:406", after := #[{ on := 17, ground := Ground.data }, { on := 21, ground := Ground.data }], guard := none }) rfl (fun K hK => ?_) AllReadyH.nil)
                    go_simp
                    (go_at_call 115; (with_reducible refine (powerR_i _ _ _ ?_ ?_).mono ?_); omega; omega; rintro e w' ⟨rfl, rfl⟩)
                    (try go_wp2_with fail)
                    refine hK.out _ _ ?_ (fun hHeld1 => ?_)
                    · (try dsimp only); go_keep
                    clear hK K hHeld0
                    try simp only [Act.put, List.setIfInBounds_toArray, List.set_cons_zero, List.set_cons_succ]
                    refine wpAnyH_take (i := 23) (oi := { dst := some 92, op := Op.binOp BinOp.mul 3 (Operand.tmp 82) (Operand.tmp 91) 3, type := 3, pos := "ref.go:406", after := #[{ on := 13, ground := Ground.data }, { on := 22, ground := Ground.data }], guard := none }) (v := ?_) rfl (by kernel_rfl) (by kernel_rfl) (by kernel_rfl) (fun _ _ _ h => h) (Or.inl ⟨by rfl, ?_⟩) (by assumption) ?_
                    rotate_left
                    · (intro w hSw; (try dsimp only at hSw); go_simp); (try with_reducible rfl)
                    try simp only [Act.put, List.setIfInBounds_toArray, List.set_cons_zero, List.set_cons_succ]
                    refine wpAnyH_take (i := 24) (oi := { dst := some 93, op := Op.binOp BinOp.sub 3 (Operand.tmp 69) (Operand.tmp 92) 3, type := 3, pos := "ref.go:406", after := #[{ on := 0, ground := Ground.data }, { on := 23, ground := Ground.data }], guard := none }) (v := ?_) rfl (by kernel_rfl) (by kernel_rfl) (by kernel_rfl) (fun _ _ _ h => h) (Or.inl ⟨by rfl, ?_⟩) (by assumption) ?_
                    rotate_left
                    · (intro w hSw; (try dsimp only at hSw); go_simp); (try with_reducible rfl)
                    try simp only [Act.put, List.setIfInBounds_toArray, List.set_cons_zero, List.set_cons_succ]
                    refine wpAnyH_take (i := 25) (oi := { dst := some 13, op := Op.assign (Operand.tmp 93), type := 3, pos := "ref.go:406", after := #[{ on := 24, ground := Ground.data }, { on := 22, ground := Ground.chain }, { on := 0, ground := Ground.phase }, { on := 1, ground := Ground.phase }, { on := 2, ground := Ground.phase }, { on := 3, ground := Ground.phase }, { on := 4, ground := Ground.phase }, { on := 5, ground := Ground.phase }, { on := 6, ground := Ground.phase }, { on := 7, ground := Ground.phase }, { on := 8, ground := Ground.phase }, { on := 9, ground := Ground.phase }, { on := 10, ground := Ground.phase }, { on := 11, ground := Ground.phase }, { on := 12, ground := Ground.phase }, { on := 13, ground := Ground.phase }, { on := 14, ground := Ground.phase }, { on := 15, ground := Ground.phase }, { on := 16, ground := Ground.phase }, { on := 17, ground := Ground.phase }, { on := 18, ground := Ground.phase }, { on := 19, ground := Ground.phase }, { on := 20, ground := Ground.phase }, { on := 21, ground := Ground.phase }, { on := 22, ground := Ground.phase }, { on := 23, ground := Ground.phase }, { on := 24, ground := Ground.phase }], guard := none }) (v := ?_) rfl (by kernel_rfl) (by kernel_rfl) (by kernel_rfl) (fun _ _ _ h => h) (Or.inl ⟨by rfl, ?_⟩) (by assumption) ?_
                    rotate_left
                    · (intro w hSw; (try dsimp only at hSw); go_simp); (try with_reducible rfl)
                    try simp only [Act.put, List.setIfInBounds_toArray, List.set_cons_zero, List.set_cons_succ]
                    refine wpAnyH_done (by kernel_rfl) ?_ _
                    clear hHeld1

                    rw [wrapEq, wrapEq, wrapEq, HNN.out]
                    go_wp2
                    go_roundw
                    case rel => exact ⟨k + 1, by omega, by go_num, rfl, hb2.drew⟩
                    case measure => simp [intOf]; omega
                  · obtain rfl : n = k := by omega
                    have hq := HQ0.out
                    generalize hx : stepIn p out n out.length n = x at hq ⊢
                    clear hx
                    have hownx : wr.ownsRow w.heap.size 3 1 (.slice (some ⟨g, 0, none⟩) out.length cg) out.length (out.map (Value.int .i64)) := own_below hown hb2
                    clear HQ0 hown hbel hgc hb2
                    have HQ := Lib.hid hq
                    clear hq
                    by_cases hin : inB x
                    · have hr := CheckRange_any x (-1073741824) 1073741824 wr
                      rw [within_inB, if_pos hin] at hr
                      have hyes : stepL p l n (out.length + 1) = some (out ++ [x]) := by have := stepL_yes HO.out (by rw [HQ.out]; exact hin); rw [HQ.out] at this; exact this
                      have HY := Lib.hid hyes
                      clear hyes hin
                      go_wp2_with fail
                      refine hr.mono ?_
                      rintro e w9 ⟨rfl, rfl⟩
                      clear hr
                      have hsx := hbx.size
                      go_wp2_with (at_builtin; refine wpList_append_own _ rfl _ _ 22 rfl w.heap.size 3 i0 (.int .i64 0) 1 8 Tryz.underlying22 hi hz0 hz1 hz2 rfl (by decide) _ _ _ rfl (hownx.alloc _) ⟨wr.heap.size, 0, none⟩ 1 1 [.int .i64 x] rfl rfl (cell_one_new _ _ _) (by simp [Value.oneCell']) (by unfold maxLen; omega) (by omega) (by simp; omega) ?_; intro v' w5 hown5 hgrow5 _)
                      have hb5 := below_own hbx hownx hgrow5
                      clear hownx hgrow5 hbx
                      go_wp2
                      go_roundw
                      case rel => exact ⟨out.length + 1, out ++ [x], by omega, by go_num, HY.out, by simp, by simpa using hown5, hb5⟩
                      case measure => simp [intOf]; omega
                    · have hr := CheckRange_any x (-1073741824) 1073741824 wr
                      rw [within_inB, if_neg hin] at hr
                      have hno : stepL p l n (n + st) = none := stepL_none (stepL_no HO.out (by rw [HQ.out]; exact hin)) (by omega)
                      have HNO := Lib.hid hno
                      clear hno hin
                      go_wp2_with fail
                      refine hr.mono ?_
                      rintro e w9 ⟨rfl, rfl⟩
                      clear hr
                      go_wp2
                      go_ret2
                      exact ⟨⟨_, by rw [steppedE, if_neg (by rw [HC.out]; simp), if_neg (by rw [HE.out]; simp), HN1.out, Int.toNat_natCast, HNO.out]; rfl, by rw [steppedR, if_neg (by rw [HC.out]; simp), if_neg (by rw [HE.out]; simp), HN1.out, Int.toNat_natCast, HNO.out]; exact Ints.nil _⟩, hbx⟩
            · have htt : t = n + st := by omega
              subst htt
              have hi' : Ints wr u11 out := Ints.of_own hown HLE.out.symm
              go_wp2
              go_ret2
              exact ⟨⟨u11, by rw [steppedE, if_neg (by rw [HC.out]; simp), if_neg (by rw [HE.out]; simp), HN1.out, Int.toNat_natCast, HO.out]; rfl, by rw [steppedR, if_neg (by rw [HC.out]; simp), if_neg (by rw [HE.out]; simp), HN1.out, Int.toNat_natCast, HO.out]; exact hi'⟩, hbel⟩
        · have HE := Lib.hid (show step2E p l steps ≠ 0 by rw [HS.out]; exact he)
          have HSE := Lib.hid HS.out
          go_wp2
          go_ret2
          exact ⟨⟨_, by rw [steppedE, if_neg (by rw [HC.out]; simp), if_pos HE.out, HSE.out]; rfl, by rw [steppedR, if_neg (by rw [HC.out]; simp), if_pos HE.out]; exact Ints.nil _⟩, h3⟩
      · have HS := Lib.hid (step2_2 (p := p) (l := l) (steps := steps) (by rw [HN1.out]; exact hn0) (by rw [HN1.out]; exact hln))
        have b0 : ((n : Int) == 0) = false := by rw [beq_eq_false_iff_ne]; omega
        have b1 : ((l.length : Int) != (n : Int)) = true := by rw [bne_iff_ne]; omega
        go_enter Tryz.func43, Tryz.ntmps43
        go_wp2_with fail
        refine (TP.out).mono ?_
        rintro e w' ⟨rfl, rfl⟩
        go_wp2
        go_ret2
        exact ⟨⟨_, by rw [steppedE, if_neg (by rw [HC.out]; simp), if_pos (by rw [HS.out]; simp), HS.out]; rfl, by rw [steppedR, if_neg (by rw [HC.out]; simp), if_pos (by rw [HS.out]; simp)]; exact Ints.nil _⟩, Below.refl _ _⟩
  · go_enter Tryz.func43, Tryz.ntmps43
    go_wp2_with fail
    refine (tp).mono ?_
    rintro e w' ⟨rfl, rfl⟩
    go_wp2
    go_ret2
    exact ⟨⟨_, by rw [steppedE, if_pos hc]; rfl, by rw [steppedR, if_pos hc]; exact Ints.nil _⟩, Below.refl _ _⟩

/-- more numbers than places. -/
theorem pigeon (n : Nat) (f : Nat → Nat) (h : ∀ i, i ≤ n → f i < n) : ∃ i j, i < j ∧ j ≤ n ∧ f i = f j := by
  induction n generalizing f with
  | zero => exact absurd (h 0 (Nat.le_refl _)) (by omega)
  | succ n ih =>
    by_cases hx : ∃ i, i ≤ n ∧ f i = f (n + 1)
    · obtain ⟨i, hi, he⟩ := hx
      exact ⟨i, n + 1, by omega, Nat.le_refl _, he⟩
    · have hx' : ∀ i, i ≤ n → f i ≠ f (n + 1) := fun i hi he => hx ⟨i, hi, he⟩
      obtain ⟨i, j, hij, hj, he⟩ := ih (fun i => if f i = n then f (n + 1) else f i) (fun i hi => by
        have h1 := h i (by omega)
        have h2 := h (n + 1) (Nat.le_refl _)
        have h3 := hx' i hi
        show (if f i = n then f (n + 1) else f i) < n
        split <;> omega)
      have h1 := hx' i (by omega)
      have h2 := hx' j hj
      refine ⟨i, j, hij, by omega, ?_⟩
      replace he : (if f i = n then f (n + 1) else f i) = (if f j = n then f (n + 1) else f j) := he
      split at he <;> split at he <;> omega

theorem ringAt_add (r : List Int) (x : Int) (i m : Nat) : ringAt r x (i + m) = ringAt r (ringAt r x i) m := by
  induction m with
  | zero => rfl
  | succ m ih => show r[(ringAt r x (i + m)).toNat]?.getD 0 = r[(ringAt r (ringAt r x i) m).toNat]?.getD 0; rw [ih]
theorem fallL_none {r : List Int} {x phase : Int} {f k : Nat} (h : fallL r x phase f k = none) : ∀ j, k ≤ j → j < k + f → ringAt r x j ≠ phase := by
  induction f generalizing k with
  | zero => intro j h1 h2; omega
  | succ f ih =>
    rw [fallL] at h
    split at h
    · cases h
    · rename_i hk
      intro j h1 h2
      rcases Nat.eq_or_lt_of_le h1 with rfl | h3
      · exact hk
      · exact ih h j h3 (by omega)
theorem fallL_snoc (r : List Int) (x phase : Int) (f k : Nat) : fallL r x phase (f + 1) k = match fallL r x phase f k with | some m => some m | none => if ringAt r x (k + f) = phase then some (k + f) else none := by
  induction f generalizing k with
  | zero => simp [fallL]
  | succ f ih =>
    rw [fallL, ih (k + 1), show fallL r x phase (f + 1) k = if ringAt r x k = phase then some k else fallL r x phase f (k + 1) from rfl]
    by_cases hk : ringAt r x k = phase
    · simp [hk]
    · simp only [if_neg hk]
      rw [show k + 1 + f = k + (f + 1) by omega]
/-- one look more tells nothing new. -/
theorem falls_more {r : List Int} {x phase : Int} (hr : RingP r) (hx : 0 ≤ x ∧ x < r.length) : fallL r x phase (r.length + 1) 0 = fallsW r x phase := by
  rw [fallL_snoc]
  show (match fallsW r x phase with | some m => some m | none => _) = _
  cases hF : fallsW r x phase with
  | some m => rfl
  | none =>
    simp only [Nat.zero_add]
    rw [if_neg]
    have hn := fallL_none hF
    obtain ⟨i, j, hij, hj, he⟩ := pigeon r.length (fun k => (ringAt r x k).toNat) (fun k _ => by have := ringAt_bd hr hx k; show (ringAt r x k).toNat < r.length; omega)
    have hbi := ringAt_bd hr hx i
    have hbj := ringAt_bd hr hx j
    have he' : ringAt r x i = ringAt r x j := by
      replace he : (ringAt r x i).toNat = (ringAt r x j).toNat := he
      omega
    have h1 : ringAt r x r.length = ringAt r x (i + (r.length - j)) := by
      rw [ringAt_add, he', ← ringAt_add]; congr 1; omega
    rw [h1]
    exact hn _ (Nat.zero_le _) (by omega)

set_option maxHeartbeats 400000 in
theorem CheckRingR_any (v : Value) (r : List Int) (w : World) (hv : Ints w v r) (hl : r.length ≤ 1000000) :
    Calls Tryz.prog 53 #[v] w fun e w' => e = .returned (.int .i64 (checkRingE r)) ∧ w = w' := by
  have TN := Lib.hid (checkNumbersR_any v r 0 ((r.length : Int) - 1) w hv (by omega))
  obtain ⟨a, cap, rfl, _⟩ := hv
  by_cases h0 : r.length = 0
  · have HR := Lib.hid (show checkRingE r = 12 by simp [checkRingE, ring1E, firstE, whenE, h0])
    have b0 : ((r.length : Int) == 0) = true := by rw [beq_iff_eq]; omega
    go_enter Tryz.func53, Tryz.ntmps53
    go_wp2
    go_ret
    exact ⟨ret_int HR.out.symm, rfl⟩
  · have b0 : ((r.length : Int) == 0) = false := by rw [beq_eq_false_iff_ne]; omega
    by_cases h64 : 64 < r.length
    · have HR := Lib.hid (show checkRingE r = 5 by
        have : (64 : Int) < (r.length : Int) := by omega
        simp [checkRingE, ring1E, firstE, whenE, h0, this])
      go_enter Tryz.func53, Tryz.ntmps53
      go_wp2
      go_ret
      exact ⟨ret_int HR.out.symm, rfl⟩
    · have HR := Lib.hid (show checkRingE r = firstE (r.map fun x => withinE x 0 ((r.length : Int) - 1)) by
        have : ¬ (64 : Int) < (r.length : Int) := by omega
        simp [checkRingE, ring1E, firstE, whenE, h0, this])
      go_enter Tryz.func53, Tryz.ntmps53
      go_wp2_with fail
      refine TN.out.mono ?_
      rintro e w' ⟨rfl, rfl⟩
      go_wp2
      go_ret
      exact ⟨ret_int HR.out.symm, rfl⟩

set_option maxHeartbeats 400000 in
theorem CheckPhaseR_any (v : Value) (r : List Int) (x : Int) (w : World) (hv : Ints w v r) (hl : r.length ≤ 1000000) :
    Calls Tryz.prog 48 #[v, .int .i64 x] w fun e w' => e = .returned (.int .i64 (basin1E r x)) ∧ w = w' := by
  have TC := Lib.hid (CheckRingR_any v r w hv hl)
  obtain ⟨a, cap, rfl, _⟩ := hv
  have HB := Lib.hid (show basin1E r x = if checkRingE r ≠ 0 then checkRingE r else phaseE x r.length by
    unfold basin1E
    simp only [firstE]
    by_cases h1 : checkRingE r = 0 <;> by_cases h2 : phaseE x r.length = 0 <;> simp [h1, h2])
  generalize checkRingE r = c at TC HB
  by_cases hc : c = 0
  · subst hc
    by_cases h1 : x < 0
    · have HP := Lib.hid (show phaseE x r.length = 10 by simp [phaseE, whenE, h1])
      go_enter Tryz.func48, Tryz.ntmps48
      go_wp2_with fail
      refine (TC.out).mono ?_
      rintro e w' ⟨rfl, rfl⟩
      go_wp2
      go_ret
      exact ⟨ret_int (by rw [HB.out, HP.out]; rfl), rfl⟩
    · by_cases h2 : (r.length : Int) ≤ x
      · have HP := Lib.hid (show phaseE x r.length = 10 by simp [phaseE, whenE, h2])
        go_enter Tryz.func48, Tryz.ntmps48
        go_wp2_with fail
        refine (TC.out).mono ?_
        rintro e w' ⟨rfl, rfl⟩
        go_wp2
        go_ret
        exact ⟨ret_int (by rw [HB.out, HP.out]; rfl), rfl⟩
      · have HP := Lib.hid (show phaseE x r.length = 0 by simp [phaseE, whenE, h1, h2])
        go_enter Tryz.func48, Tryz.ntmps48
        go_wp2_with fail
        refine (TC.out).mono ?_
        rintro e w' ⟨rfl, rfl⟩
        go_wp2
        go_ret
        exact ⟨ret_int (by rw [HB.out, HP.out]; rfl), rfl⟩
  · go_enter Tryz.func48, Tryz.ntmps48
    go_wp2_with fail
    refine (TC.out).mono ?_
    rintro e w' ⟨rfl, rfl⟩
    go_wp2
    go_ret
    exact ⟨ret_int (by rw [HB.out, if_pos hc]), rfl⟩

set_option maxHeartbeats 1000000 in
theorem LocksR_any (v : Value) (r : List Int) (x phase : Int) (w : World) (hv : Ints w v r) (hl : r.length ≤ 1000000) (hr : RingP r) (hx : 0 ≤ x ∧ x < r.length) :
    Calls Tryz.prog 51 #[v, .int .i64 x, .int .i64 phase] w fun e w' => e = .returned (.tuple #[.int .i64 (((fallsW r x phase).getD 0 : Nat) : Int), .bool (fallsW r x phase).isSome]) ∧ w = w' := by
  rw [← falls_more hr hx]
  obtain ⟨b, o, cap, rfl, hc⟩ := (id hv).head (by omega)
  have HX := Lib.hid hx
  have HRP := Lib.hid hr
  have hC := Lib.hid hc
  clear hx hr hc
  go_enter Tryz.func51, Tryz.ntmps51
  go_wp2
  go_loop [8, 9] (fun vf vi => ∃ k : Nat, k ≤ r.length + 1 ∧ vi = .int .i64 k ∧ vf = .int .i64 (ringAt r x k) ∧ fallL r x phase (r.length + 1) 0 = fallL r x phase (r.length + 1 - k) k) (fun _ vi => r.length + 1 - (intOf vi).toNat)
  case atStart => exact ⟨0, Nat.zero_le _, rfl, rfl, rfl⟩
  case round =>
    obtain ⟨k, hk, rfl, rfl, hF⟩ := hrel
    have HF := Lib.hid hF
    clear hF
    by_cases hlt : k < r.length + 1
    · have hb := ringAt_bd HRP.out HX.out k
      have hcell := hC.out (ringAt r x k).toNat (by omega)
      have hN : r[(ringAt r x k).toNat]?.getD 0 = ringAt r x (k + 1) := rfl
      rw [hN] at hcell
      have hF2 : fallL r x phase (r.length + 1 - k) k = if ringAt r x k = phase then some k else fallL r x phase (r.length + 1 - (k + 1)) (k + 1) := by
        rw [show r.length + 1 - k = (r.length + 1 - (k + 1)) + 1 from by omega, fallL]
      have HF2 := Lib.hid hF2
      have hle : (k : Int) ≤ (r.length : Int) := by omega
      clear hN hF2
      obtain ⟨y2, hy2⟩ : ∃ y, y = ringAt r x (k + 1) := ⟨_, rfl⟩
      obtain ⟨y1, hy1⟩ : ∃ y, y = ringAt r x k := ⟨_, rfl⟩
      rw [← hy2] at hcell
      rw [← hy1] at hcell hb HF2 ⊢
      have HY2 := Lib.hid hy2
      clear hy1 hy2
      obtain ⟨hb1, hb2⟩ := hb
      by_cases hp : y1 = phase
      · have hn := Lib.hid (show fallL r x phase (r.length + 1) 0 = some k by rw [HF.out, HF2.out, if_pos hp])
        have hq : (y1 == phase) = true := by simpa using hp
        clear hp hcell HF2
        go_wp2
        go_ret2
        exact ⟨by rw [hn.out]; rfl, rfl⟩
      · have hn := Lib.hid (show fallL r x phase (r.length + 1) 0 = fallL r x phase (r.length + 1 - (k + 1)) (k + 1) by rw [HF.out, HF2.out, if_neg hp])
        have hq : (y1 == phase) = false := by simpa using hp
        clear hp HF2
        go_wp2
        go_round
        case rel => exact ⟨k + 1, by omega, by go_num, by rw [HY2.out], hn.out⟩
        case measure => simp [intOf]; omega
    · obtain rfl : k = r.length + 1 := by omega
      have hn := Lib.hid (show fallL r x phase (r.length + 1) 0 = none by rw [HF.out, Nat.sub_self, fallL])
      have hle : ¬ ((r.length + 1 : Nat) : Int) ≤ (r.length : Int) := by omega
      go_wp2
      go_ret2
      exact ⟨by rw [hn.out]; rfl, rfl⟩

set_option maxHeartbeats 1000000 in
set_option maxRecDepth 100000 in
theorem BasinR_any (v : Value) (r : List Int) (phase : Int) (w : World) (hv : Ints w v r) (hl : r.length ≤ 1000000) (hr : RingP r) :
    Calls Tryz.prog 50 #[v, .int .i64 phase] w (GivesInts w (basinL r phase r.length)) := by
  obtain ⟨a, cap, rfl, _⟩ := id hv
  obtain ⟨i0, hi, hz0, hz1, hz2⟩ := info_parts Tryz.infoInt
  have HRP := Lib.hid hr
  clear hr
  go_enter Tryz.func50, Tryz.ntmps50
  go_wp2
  go_loopw [5, 6] (fun vo vi wr => ∃ k : Nat, k ≤ r.length ∧ vi = .int .i64 k ∧ wr.ownsRow w.heap.size 3 1 vo (basinL r phase k).length ((basinL r phase k).map (Value.int .i64)) ∧ Below w.heap.size w wr) (fun _ vi _ => r.length - (intOf vi).toNat)
  case atStart => exact ⟨0, by omega, rfl, World.ownsRow_nil _ _ _ _, Below.refl _ _⟩
  case round =>
    obtain ⟨k, hk, rfl, hown, hbr⟩ := hrel
    have hbl := basinL_length r phase k
    by_cases hlt : k < r.length
    · have hs : basinL r phase (k + 1) = if (fallsW r k phase).isSome then basinL r phase k ++ [(k : Int)] else basinL r phase k := rfl
      have HS := Lib.hid hs
      have hfa := Lib.hid (LocksR_any _ r k phase wr (hv.carry hbr) hl HRP.out (by omega))
      have hsz := hbr.size
      clear hs
      by_cases hf : (fallsW r k phase).isSome = true
      · rw [hf] at hfa
        have HS2 := Lib.hid (show basinL r phase (k + 1) = basinL r phase k ++ [(k : Int)] by rw [HS.out, if_pos hf])
        clear hf
        generalize basinL r phase k = bl at hown hbl HS2
        go_wp2_with fail
        refine hfa.out.mono ?_
        rintro e w2 ⟨rfl, rfl⟩
        go_wp2_with (at_builtin; refine wpList_append_own _ rfl _ _ 22 rfl w.heap.size 3 i0 (.int .i64 0) 1 8 Tryz.underlying22 hi hz0 hz1 hz2 rfl (by decide) _ _ _ rfl (hown.alloc _) ⟨wr.heap.size, 0, none⟩ 1 1 [.int .i64 k] rfl rfl (cell_one_new _ _ _) (by simp [Value.oneCell']) (by unfold maxLen; omega) (by omega) (by simp; omega) ?_; intro v' w3 hown' hgrow _)
        have hb3 := below_own hbr hown hgrow
        have hown2 : w3.ownsRow w.heap.size 3 1 v' (basinL r phase (k + 1)).length ((basinL r phase (k + 1)).map (Value.int .i64)) := by
          rw [HS2.out, List.length_append, List.map_append]; exact hown'
        clear hown hown' hgrow hbr
        go_wp2
        go_roundw
        case rel => exact ⟨k + 1, by omega, by go_num, hown2, hb3⟩
        case measure => simp [intOf]; omega
      · have hf' : (fallsW r k phase).isSome = false := by simpa using hf
        rw [hf'] at hfa
        have HS2 := Lib.hid (show basinL r phase (k + 1) = basinL r phase k by rw [HS.out, if_neg hf])
        clear hf hf'
        rw [← HS2.out] at hown
        go_wp2_with fail
        refine hfa.out.mono ?_
        rintro e w2 ⟨rfl, rfl⟩
        go_wp2
        go_roundw
        case rel => exact ⟨k + 1, by omega, by go_num, hown, hbr⟩
        case measure => simp [intOf]; omega
    · obtain rfl : k = r.length := by omega
      have hl := Lib.hid (Ints.of_own hown rfl)
      clear hown
      go_wp2
      go_ret
      exact ⟨⟨_, rfl, hl.out⟩, hbr⟩

theorem OwnI.grow_below {w W N : World} {e : Nat} {v : Value} {l : List Int} (h : OwnI e w.heap.size W v l) (hb : Below w.heap.size w W) (hg : W.grownBy N v.ownBlock) : Below w.heap.size w N :=
  hb.grown hg hb.size fun k hk => (World.ownsRow.lt h k hk).1
theorem Blk.one {w : World} {G : Nat} {T : TypeId} {x : Value} (h : Blk w G T [x]) (j : Nat) (u : Value) (hj : [x][j]? = some u) : w.cell? ((⟨G, 0, none⟩ : Addr).add j) = some u := by
  rw [addr_add, Nat.zero_add]; exact h.cell hj

def lenV (v : Value) : Nat := match v with | .slice _ n _ => n | _ => 0
theorem OwnI.cellsOf {w : World} {base e : Nat} {v : Value} {l : List Int} (h : OwnI e base w v l) (h0 : 0 < l.length) : ∃ g cap, v = .slice (some ⟨g, 0, none⟩) l.length cap ∧ base ≤ g ∧ l.length ≤ cap ∧ Cells w g l := by
  obtain ⟨g, cap, hv, hg, hc⟩ := own_cells h h0
  refine ⟨g, cap, hv, hg, ?_, fun j hj => ⟨hc j hj, ?_⟩⟩
  · rcases h.2 with ⟨e1, e2⟩ | ⟨g', cap', cur, e1, _, _, hle, _⟩
    · omega
    · rw [e1] at hv; cases hv; exact hle
  · rcases h.2 with ⟨e1, e2⟩ | ⟨g', cap', cur, e1, _, hh, _⟩
    · omega
    · rw [e1] at hv; cases hv
      exact Blk.frozen (vs := cur.toList) (by simpa [Blk] using hh) j
theorem Cells.intsC {w : World} {B cap : Nat} {l : List Int} (h : Cells w B l) (hc : l.length ≤ cap) : Ints w (.slice (some ⟨B, 0, none⟩) l.length cap) l :=
  ⟨_, cap, rfl, hc, fun _ => ⟨B, 0, rfl, fun j hj => by rw [Nat.zero_add]; exact (h j hj).1⟩⟩

theorem large_first (l : List Int) : (firstE (l.map fun x => withinE x (-100) 100) = 0) ↔ l.any largeB = false := by
  induction l with
  | nil => simp [firstE]
  | cons x l ih =>
    rw [List.map_cons, List.any_cons, firstE]
    by_cases h : withinE x (-100) 100 = 0
    · rw [if_pos h, ih]
      have : largeB x = false := by unfold largeB coefE; rw [h]; rfl
      rw [this, Bool.false_or]
    · rw [if_neg h]
      have : largeB x = true := by unfold largeB coefE; rw [bne_iff_ne]; exact h
      rw [this, Bool.true_or]
      simp [h]

def largeE (l : List Int) : Int := if l.any largeB then 4 else 0

set_option maxHeartbeats 400000 in
theorem largeR_any (v : Value) (l : List Int) (w : World) (hv : Ints w v l) (hl : l.length ≤ 1000000000) :
    Calls Tryz.prog 97 #[v] w fun e w' => e = .returned (.int .i64 (largeE l)) ∧ w = w' := by
  have TN := checkNumbersR_any v l (-100) 100 w hv hl
  have HL := large_first l
  obtain ⟨a, cap, rfl, _⟩ := hv
  generalize firstE (l.map fun x => withinE x (-100) 100) = f at TN HL
  by_cases hf : f = 0
  · have HA := Lib.hid (HL.1 hf)
    subst hf
    clear HL
    go_enter Tryz.func97, Tryz.ntmps97
    go_wp2_with fail
    refine (TN).mono ?_
    rintro e w' ⟨rfl, rfl⟩
    go_wp2
    go_ret
    exact ⟨ret_int (by rw [largeE, HA.out]; rfl), rfl⟩
  · have HA := Lib.hid (show l.any largeB = true by
      cases h : l.any largeB with
      | true => rfl
      | false => exact absurd (HL.2 h) hf)
    clear HL
    go_enter Tryz.func97, Tryz.ntmps97
    go_wp2_with fail
    refine (TN).mono ?_
    rintro e w' ⟨rfl, rfl⟩
    go_wp2
    go_ret
    exact ⟨ret_int (by rw [largeE, HA.out]; rfl), rfl⟩

end Go.Proofs.YtnlmaildmeihgaaGreatDoor

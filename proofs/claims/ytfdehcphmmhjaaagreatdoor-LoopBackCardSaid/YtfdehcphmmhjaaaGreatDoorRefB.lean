/- The reference's checks (seat .ZD; the same walks as XRefA). -/
import Derived.Test.YtfdehcphmmhjaaaGreatDoorBlk
import Derived.Test.YtfdehcphmmhjaaaGreatDoorRingE
namespace Go.Proofs.YtfdehcphmmhjaaaGreatDoor
open Go.RowKit

set_option maxHeartbeats 400000 in
theorem WhenR_any (c : Bool) (e : Int) (w : World) :
    Calls Tryz.prog 148 #[.bool c, .int .i64 e] w fun r w' => r = .returned (.int .i64 (whenE c e)) ∧ w = w' := by
  cases c
  · go_enter Tryz.func148, Tryz.ntmps148
    go_wp2
    go_ret
    exact ⟨rfl, rfl⟩
  · go_enter Tryz.func148, Tryz.ntmps148
    go_wp2
    go_ret
    exact ⟨rfl, rfl⟩

set_option maxHeartbeats 400000 in
theorem CheckRange_any (n lo hi : Int) (w : World) :
    Calls Tryz.prog 121 #[.int .i64 n, .int .i64 lo, .int .i64 hi] w fun r w' => r = .returned (.int .i64 (withinE n lo hi)) ∧ w = w' := by
  by_cases h1 : n < lo
  · go_enter Tryz.func121, Tryz.ntmps121
    go_wp2_with fail
    refine (WhenR_any _ _ _).mono ?_
    rintro e w' ⟨rfl, rfl⟩
    go_wp2
    go_ret
    exact ⟨by simp [whenE, withinE, h1], rfl⟩
  · by_cases h2 : hi < n
    all_goals
      go_enter Tryz.func121, Tryz.ntmps121
      go_wp2_with fail
      refine (WhenR_any _ _ _).mono ?_
      rintro e w' ⟨rfl, rfl⟩
      go_wp2
      go_ret
      exact ⟨by simp [whenE, withinE, h1, h2], rfl⟩

theorem firstE_map_take (f : Int → Int) (l : List Int) (k : Nat) (h : firstE ((l.take k).map f) ≠ 0) : firstE (l.map f) = firstE ((l.take k).map f) := by
  rw [List.map_take] at h ⊢
  exact firstE_of_take _ _ h
theorem firstE_map_succ (f : Int → Int) (l : List Int) (k : Nat) (x : Int) (hk : l[k]? = some x) (h : firstE ((l.take k).map f) = 0) : firstE ((l.take (k + 1)).map f) = f x := by
  rw [List.map_take] at h ⊢
  rw [firstE_take_succ _ k (by simp; exact (List.getElem?_eq_some_iff.1 hk).1) h, List.getElem?_map, hk]
  rfl

set_option maxHeartbeats 400000 in
theorem checkNumbersR_any (v : Value) (l : List Int) (lo hi : Int) (w : World) (hv : Ints w v l) (hl : l.length ≤ 1000000000) :
    Calls Tryz.prog 89 #[v, .int .i64 lo, .int .i64 hi] w fun r w' => r = .returned (.int .i64 (firstE (l.map fun x => withinE x lo hi))) ∧ w = w' := by
  obtain ⟨a, cap, rfl, hc, hv⟩ := hv
  rcases Nat.eq_zero_or_pos l.length with h0 | h0
  · obtain rfl : l = [] := List.length_eq_zero_iff.1 h0
    go_enter Tryz.func89, Tryz.ntmps89
    go_wp2
    go_loop [7] (fun i => i = .int .i64 0) (fun _ => 0)
    case atStart => rfl
    case round =>
      obtain rfl := hrel
      go_wp2
      go_ret
      exact ⟨rfl, rfl⟩
  · obtain ⟨b, off, rfl, hcs⟩ := hv h0
    clear hv
    go_enter Tryz.func89, Tryz.ntmps89
    go_wp2
    go_loop [7] (fun i => ∃ k : Nat, k ≤ l.length ∧ i = .int .i64 k ∧ firstE ((l.take k).map fun x => withinE x lo hi) = 0) (fun i => l.length - (intOf i).toNat)
    case atStart => exact ⟨0, by omega, rfl, rfl⟩
    case round =>
      obtain ⟨k, hk, rfl, hf⟩ := hrel
      have HF := Lib.hid hf
      clear hf
      by_cases hlt : k < l.length
      · have hcell := hcs k hlt
        clear hcs
        generalize hx : l[k]?.getD 0 = x at hcell
        have HX := Lib.hid (getElem?_of_getD hlt hx)
        clear hx
        by_cases hz : withinE x lo hi = 0
        · have hr := CheckRange_any x lo hi w
          rw [hz] at hr
          have HZ := Lib.hid hz
          clear hz
          go_wp2_with fail
          refine hr.mono ?_
          rintro e w2 ⟨rfl, rfl⟩
          clear hr
          go_wp2
          go_round
          case rel => exact ⟨k + 1, by omega, by go_num, by rw [firstE_map_succ _ _ _ _ HX.out HF.out]; exact HZ.out⟩
          case measure => simp [intOf]; omega
        · have hr := CheckRange_any x lo hi w
          go_wp2_with fail
          refine hr.mono ?_
          rintro e w2 ⟨rfl, rfl⟩
          clear hr
          go_wp2
          go_ret
          have hs := firstE_map_succ (fun x => withinE x lo hi) _ _ _ HX.out HF.out
          exact ⟨ret_int (by rw [firstE_map_take _ l (k + 1) (by rw [hs]; exact hz), hs]), rfl⟩
      · obtain rfl : k = l.length := by omega
        go_wp2
        go_ret
        exact ⟨ret_int (by have := HF.out; rw [List.take_length] at this; rw [this]), rfl⟩

set_option maxHeartbeats 400000 in
theorem CheckPolyR_any (v : Value) (l : List Int) (w : World) (hv : Ints w v l) (hl : l.length ≤ 1000000000) :
    Calls Tryz.prog 48 #[v] w fun r w' => r = .returned (.int .i64 (checkPolyE l)) ∧ w = w' := by
  have tn := checkNumbersR_any v l (-100) 100 w hv hl
  have TN := Lib.hid tn
  clear tn
  obtain ⟨a, cap, rfl, hc, hv⟩ := hv
  by_cases h0 : l.length = 0
  · clear hv
    go_enter Tryz.func48, Tryz.ntmps48
    go_wp2
    go_ret
    exact ⟨ret_int (by rw [checkPolyE, if_pos h0]), rfl⟩
  · have b0 : ((l.length : Int) == 0) = false := by rw [beq_eq_false_iff_ne]; omega
    by_cases h5 : 5 < l.length
    · clear hv
      go_enter Tryz.func48, Tryz.ntmps48
      go_wp2
      go_ret
      exact ⟨ret_int (by rw [checkPolyE, if_neg h0, if_pos h5]), rfl⟩
    · obtain ⟨b, off, rfl, hcs⟩ := hv (by omega)
      have hcell := hcs (l.length - 1) (by omega)
      clear hcs hv
      have hR : checkPolyE l = firstE [firstE (l.map coefE), whenE (l[l.length - 1]?.getD 0 == 0) 6] := by rw [checkPolyE, if_neg h0, if_neg h5]
      generalize l[l.length - 1]?.getD 0 = x at hcell hR
      have HR := Lib.hid hR
      clear hR
      have hm : (l.map fun x => withinE x (-100) 100) = l.map coefE := rfl
      rw [hm] at TN
      clear hm
      generalize hy : firstE (l.map coefE) = y at TN HR
      clear hy
      by_cases hy0 : y = 0
      · subst hy0
        by_cases hx0 : x = 0
        · subst hx0
          go_enter Tryz.func48, Tryz.ntmps48
          go_wp2_with fail
          refine (TN.out).mono ?_
          rintro e w' ⟨rfl, rfl⟩
          go_wp2
          go_ret
          exact ⟨ret_int (by rw [HR.out]; simp [firstE, whenE]), rfl⟩
        · have bx : (x == 0) = false := by rw [beq_eq_false_iff_ne]; exact hx0
          go_enter Tryz.func48, Tryz.ntmps48
          go_wp2_with fail
          refine (TN.out).mono ?_
          rintro e w' ⟨rfl, rfl⟩
          go_wp2
          go_ret
          exact ⟨ret_int (by rw [HR.out]; simp [firstE, whenE, hx0]), rfl⟩
      · go_enter Tryz.func48, Tryz.ntmps48
        go_wp2_with fail
        refine (TN.out).mono ?_
        rintro e w' ⟨rfl, rfl⟩
        go_wp2
        go_ret
        exact ⟨ret_int (by rw [HR.out]; simp [firstE, hy0]), rfl⟩

set_option maxHeartbeats 400000 in
theorem FirstR_any (v : Value) (l : List Int) (w : World) (hl : l.length ≤ 1000000000) (hv : Ints w v l) :
    Calls Tryz.prog 47 #[v] w fun r w' => r = .returned (.int .i64 (firstE l)) ∧ w = w' := by
  obtain ⟨a, cap, rfl, hc, hv⟩ := hv
  rcases Nat.eq_zero_or_pos l.length with h0 | h0
  · obtain rfl : l = [] := List.length_eq_zero_iff.1 h0
    go_enter Tryz.func47, Tryz.ntmps47
    go_wp2
    go_loop [3] (fun i => i = .int .i64 0) (fun _ => 0)
    case atStart => rfl
    case round =>
      obtain rfl := hrel
      go_wp2
      go_ret
      exact ⟨rfl, rfl⟩
  · obtain ⟨b, off, rfl, hcs⟩ := hv h0
    clear hv
    go_enter Tryz.func47, Tryz.ntmps47
    go_wp2
    go_loop [3] (fun i => ∃ k : Nat, k ≤ l.length ∧ i = .int .i64 k ∧ firstE (l.take k) = 0) (fun i => l.length - (intOf i).toNat)
    case atStart => exact ⟨0, by omega, rfl, rfl⟩
    case round =>
      obtain ⟨k, hk, rfl, hf⟩ := hrel
      by_cases hlt : k < l.length
      · have hcell := hcs k hlt
        have hs := firstE_take_succ l k hlt hf
        clear hcs
        generalize l[k]?.getD 0 = x at hcell hs
        have HS := Lib.hid hs
        clear hs hf
        by_cases hz : x = 0
        · subst hz
          go_wp2
          go_round
          case rel => exact ⟨k + 1, by omega, by go_num, HS.out⟩
          case measure => simp [intOf]; omega
        · go_wp2
          go_ret
          exact ⟨ret_int (by rw [firstE_of_take l (k+1) (by rw [HS.out]; exact hz), HS.out]), rfl⟩
      · have HF := Lib.hid hf
        clear hf
        go_wp2
        go_ret
        have h := HF.out
        rw [List.take_of_length_le (by omega)] at h
        exact ⟨ret_int h.symm, rfl⟩

theorem within_inB (x : Int) : withinE x (-1073741824) 1073741824 = if inB x then 0 else 3 := by
  unfold withinE inB
  by_cases h1 : x < -1073741824 <;> by_cases h2 : 1073741824 < x <;> simp [h1, h2]
theorem step2_12 {p l : List Int} {steps : Int} (h : p.length - 1 = 0) : step2E p l steps = 12 := by
  unfold step2E; rw [h]; simp [firstE, whenE]
theorem step2_2 {p l : List Int} {steps : Int} (h : p.length - 1 ≠ 0) (h2 : l.length ≠ p.length - 1) : step2E p l steps = 2 := by
  unfold step2E checkFirstE
  rw [if_pos (by omega)]
  simp [firstE, whenE, h]
theorem step2_ok {p l : List Int} {steps : Int} (h : p.length - 1 ≠ 0) (h2 : l.length = p.length - 1) : step2E p l steps = firstE [firstE (l.map fun x => withinE x (-1000) 1000), withinE steps 0 24] := by
  unfold step2E checkFirstE
  rw [if_neg (by omega)]
  simp [firstE, whenE, h]

/-- more numbers than places. -/
theorem pigeon (n : Nat) (f : Nat → Nat) (h : ∀ i, i ≤ n → f i < n) : ∃ i j, i < j ∧ j ≤ n ∧ f i = f j := by
  induction n generalizing f with
  | zero => exact absurd (h 0 (Nat.le_refl _)) (by omega)
  | succ n ih =>
    by_cases hx : ∃ i, i ≤ n ∧ f i = f (n + 1)
    · obtain ⟨i, hi, he⟩ := hx
      exact ⟨i, n + 1, by omega, Nat.le_refl _, he⟩
    · have hx' : ∀ i, i ≤ n → f i ≠ f (n + 1) := fun i hi he => hx ⟨i, hi, he⟩
      obtain ⟨i, j, hij, hj, he⟩ := ih (fun i => if f i = n then f (n + 1) else f i) (fun i hi => by
        have h1 := h i (by omega)
        have h2 := h (n + 1) (Nat.le_refl _)
        have h3 := hx' i hi
        show (if f i = n then f (n + 1) else f i) < n
        split <;> omega)
      have h1 := hx' i (by omega)
      have h2 := hx' j hj
      refine ⟨i, j, hij, by omega, ?_⟩
      replace he : (if f i = n then f (n + 1) else f i) = (if f j = n then f (n + 1) else f j) := he
      split at he <;> split at he <;> omega

theorem ringAt_add (r : List Int) (x : Int) (i m : Nat) : ringAt r x (i + m) = ringAt r (ringAt r x i) m := by
  induction m with
  | zero => rfl
  | succ m ih => show r[(ringAt r x (i + m)).toNat]?.getD 0 = r[(ringAt r (ringAt r x i) m).toNat]?.getD 0; rw [ih]
theorem fallL_none {r : List Int} {x phase : Int} {f k : Nat} (h : fallL r x phase f k = none) : ∀ j, k ≤ j → j < k + f → ringAt r x j ≠ phase := by
  induction f generalizing k with
  | zero => intro j h1 h2; omega
  | succ f ih =>
    rw [fallL] at h
    split at h
    · cases h
    · rename_i hk
      intro j h1 h2
      rcases Nat.eq_or_lt_of_le h1 with rfl | h3
      · exact hk
      · exact ih h j h3 (by omega)
theorem fallL_snoc (r : List Int) (x phase : Int) (f k : Nat) : fallL r x phase (f + 1) k = match fallL r x phase f k with | some m => some m | none => if ringAt r x (k + f) = phase then some (k + f) else none := by
  induction f generalizing k with
  | zero => simp [fallL]
  | succ f ih =>
    rw [fallL, ih (k + 1), show fallL r x phase (f + 1) k = if ringAt r x k = phase then some k else fallL r x phase f (k + 1) from rfl]
    by_cases hk : ringAt r x k = phase
    · simp [hk]
    · simp only [if_neg hk]
      rw [show k + 1 + f = k + (f + 1) by omega]
/-- one look more tells nothing new. -/
theorem falls_more {r : List Int} {x phase : Int} (hr : RingP r) (hx : 0 ≤ x ∧ x < r.length) : fallL r x phase (r.length + 1) 0 = fallsW r x phase := by
  rw [fallL_snoc]
  show (match fallsW r x phase with | some m => some m | none => _) = _
  cases hF : fallsW r x phase with
  | some m => rfl
  | none =>
    simp only [Nat.zero_add]
    rw [if_neg]
    have hn := fallL_none hF
    obtain ⟨i, j, hij, hj, he⟩ := pigeon r.length (fun k => (ringAt r x k).toNat) (fun k _ => by have := ringAt_bd hr hx k; show (ringAt r x k).toNat < r.length; omega)
    have hbi := ringAt_bd hr hx i
    have hbj := ringAt_bd hr hx j
    have he' : ringAt r x i = ringAt r x j := by
      replace he : (ringAt r x i).toNat = (ringAt r x j).toNat := he
      omega
    have h1 : ringAt r x r.length = ringAt r x (i + (r.length - j)) := by
      rw [ringAt_add, he', ← ringAt_add]; congr 1; omega
    rw [h1]
    exact hn _ (Nat.zero_le _) (by omega)

theorem OwnI.grow_below {w W N : World} {e : Nat} {v : Value} {l : List Int} (h : OwnI e w.heap.size W v l) (hb : Below w.heap.size w W) (hg : W.grownBy N v.ownBlock) : Below w.heap.size w N :=
  hb.grown hg hb.size fun k hk => (World.ownsRow.lt h k hk).1
theorem Blk.one {w : World} {G : Nat} {T : TypeId} {x : Value} (h : Blk w G T [x]) (j : Nat) (u : Value) (hj : [x][j]? = some u) : w.cell? ((⟨G, 0, none⟩ : Addr).add j) = some u := by
  rw [addr_add, Nat.zero_add]; exact h.cell hj

def lenV (v : Value) : Nat := match v with | .slice _ n _ => n | _ => 0
theorem OwnI.cellsOf {w : World} {base e : Nat} {v : Value} {l : List Int} (h : OwnI e base w v l) (h0 : 0 < l.length) : ∃ g cap, v = .slice (some ⟨g, 0, none⟩) l.length cap ∧ base ≤ g ∧ l.length ≤ cap ∧ Cells w g l := by
  obtain ⟨g, cap, hv, hg, hc⟩ := own_cells h h0
  refine ⟨g, cap, hv, hg, ?_, fun j hj => ⟨hc j hj, ?_⟩⟩
  · rcases h.2 with ⟨e1, e2⟩ | ⟨g', cap', cur, e1, _, _, hle, _⟩
    · omega
    · rw [e1] at hv; cases hv; exact hle
  · rcases h.2 with ⟨e1, e2⟩ | ⟨g', cap', cur, e1, _, hh, _⟩
    · omega
    · rw [e1] at hv; cases hv
      exact Blk.frozen (vs := cur.toList) (by simpa [Blk] using hh) j
theorem Cells.intsC {w : World} {B cap : Nat} {l : List Int} (h : Cells w B l) (hc : l.length ≤ cap) : Ints w (.slice (some ⟨B, 0, none⟩) l.length cap) l :=
  ⟨_, cap, rfl, hc, fun _ => ⟨B, 0, rfl, fun j hj => by rw [Nat.zero_add]; exact (h j hj).1⟩⟩

theorem large_first (l : List Int) : (firstE (l.map fun x => withinE x (-100) 100) = 0) ↔ l.any largeB = false := by
  induction l with
  | nil => simp [firstE]
  | cons x l ih =>
    rw [List.map_cons, List.any_cons, firstE]
    by_cases h : withinE x (-100) 100 = 0
    · rw [if_pos h, ih]
      have : largeB x = false := by unfold largeB coefE; rw [h]; rfl
      rw [this, Bool.false_or]
    · rw [if_neg h]
      have : largeB x = true := by unfold largeB coefE; rw [bne_iff_ne]; exact h
      rw [this, Bool.true_or]
      simp [h]

def largeE (l : List Int) : Int := if l.any largeB then 4 else 0

set_option maxHeartbeats 400000 in
theorem largeR_any (v : Value) (l : List Int) (w : World) (hv : Ints w v l) (hl : l.length ≤ 1000000000) :
    Calls Tryz.prog 49 #[v] w fun e w' => e = .returned (.int .i64 (largeE l)) ∧ w = w' := by
  have TN := checkNumbersR_any v l (-100) 100 w hv hl
  have HL := large_first l
  obtain ⟨a, cap, rfl, _⟩ := hv
  generalize firstE (l.map fun x => withinE x (-100) 100) = f at TN HL
  by_cases hf : f = 0
  · have HA := Lib.hid (HL.1 hf)
    subst hf
    clear HL
    go_enter Tryz.func49, Tryz.ntmps49
    go_wp2_with fail
    refine (TN).mono ?_
    rintro e w' ⟨rfl, rfl⟩
    go_wp2
    go_ret
    exact ⟨ret_int (by rw [largeE, HA.out]; rfl), rfl⟩
  · have HA := Lib.hid (show l.any largeB = true by
      cases h : l.any largeB with
      | true => rfl
      | false => exact absurd (HL.2 h) hf)
    clear HL
    go_enter Tryz.func49, Tryz.ntmps49
    go_wp2_with fail
    refine (TN).mono ?_
    rintro e w' ⟨rfl, rfl⟩
    go_wp2
    go_ret
    exact ⟨ret_int (by rw [largeE, HA.out]; rfl), rfl⟩

end Go.Proofs.YtfdehcphmmhjaaaGreatDoor

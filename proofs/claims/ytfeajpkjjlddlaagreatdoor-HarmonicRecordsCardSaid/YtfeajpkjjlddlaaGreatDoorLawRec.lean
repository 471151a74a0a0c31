/- The law HarmonicRecords: Back of any spectrum, and the walk. -/
import Derived.Test.YtfeajpkjjlddlaaGreatDoorRecG
import Derived.Test.YtfeajpkjjlddlaaGreatDoorHarT
import Derived.Test.YtfeajpkjjlddlaaGreatDoorHarP
import Derived.Test.YtfeajpkjjlddlaaGreatDoorHpA
import Derived.Test.YtfeajpkjjlddlaaGreatDoorHpO
namespace Go.Proofs.YtfeajpkjjlddlaaGreatDoor
section
set_option linter.unusedSimpArgs false
set_option linter.unusedVariables false
open Go.RowKit

set_option maxHeartbeats 1000000 in
theorem mappedCE_any (K : Nat) (cap : Array Value) (henter : ∀ args w, Sem.run Tryz.prog (callFunc K args) w = .ok (.enter K args) w) (g : I4 → Int) (v : Value) (l : List I4) (w : World) (hl : l.length ≤ 1000000000) (hv : Quads w v l)
    (hf : ∀ x ∈ l, ∀ w1, Below w.heap.size w w1 → Calls Tryz.prog K (#[.agg #[.int .i64 x.1, .int .i64 x.2.1, .int .i64 x.2.2.1, .int .i64 x.2.2.2]] ++ cap) w1 fun r w2 => r = .returned (.int .i64 (g x)) ∧ Below w1.heap.size w1 w2) :
    Calls Tryz.prog 38 #[v, .func (.func K) #[] cap] w fun r w' => (∃ u, r = .returned u ∧ Ints w' u (l.map g)) ∧ Below w.heap.size w w' := by
  rcases Nat.eq_zero_or_pos l.length with h0 | h0
  · obtain rfl : l = [] := List.length_eq_zero_iff.1 h0
    obtain ⟨a, cp, rfl, _, _⟩ := hv
    go_enter Tryz.func38, Tryz.ntmps38
    go_wp2
    go_loop [5, 10] (fun v i => v = .slice none 0 0 ∧ i = .int .i64 0) (fun _ _ => 0)
    case atStart => exact ⟨rfl, rfl⟩
    case round =>
      obtain ⟨rfl, rfl⟩ := hrel
      go_wp2
      go_ret
      exact ⟨⟨_, rfl, Ints.nil _⟩, Below.refl _ _⟩
  · obtain ⟨b, off, cp, rfl, hcs⟩ := hv.head h0
    clear hv
    obtain ⟨i0, hi, hz0, hz1, hz2⟩ := info_parts Tryz.infoErrno
    go_enter Tryz.func38, Tryz.ntmps38
    go_wp2
    go_loopw [5, 10] (fun v i wr => ∃ k : Nat, k ≤ l.length ∧ i = .int .i64 k ∧ wr.ownsRow w.heap.size 31 1 v k ((l.take k).map fun x => Value.int .i64 (g x)) ∧ Below w.heap.size w wr) (fun _ i _ => l.length - (intOf i).toNat)
    case atStart => exact ⟨0, by omega, rfl, World.ownsRow_nil _ _ _ _, Below.refl _ _⟩
    case round =>
      obtain ⟨k, hk, rfl, hown, hbel⟩ := hrel
      by_cases hlt : k < l.length
      · obtain ⟨x, hx⟩ : ∃ x, l[k]? = some x := ⟨_, List.getElem?_eq_getElem hlt⟩
        obtain ⟨c0, c1, c2, c3⟩ := hcs k x hx
        have c0 := cellb c0 hbel
        have c1 := cellb c1 hbel
        have c2 := cellb c2 hbel
        have c3 := cellb c3 hbel
        have HX := Lib.hid hx
        clear hcs hx
        go_wp2_with fail
        have hbx := bthen hbel (below_new wr (Obj.cells #[Value.int IntKind.i64 x.1, Value.int IntKind.i64 x.2.1, Value.int IntKind.i64 x.2.2.1, Value.int IntKind.i64 x.2.2.2] 34))
        refine (hf x (List.mem_of_getElem? HX.out) _ hbx).mono ?_
        rintro e w2 ⟨rfl, hb2⟩
        have hbx2 := bthen hbx hb2
        have hown := own_below hown (bthen (below_new wr (Obj.cells #[Value.int IntKind.i64 x.1, Value.int IntKind.i64 x.2.1, Value.int IntKind.i64 x.2.2.1, Value.int IntKind.i64 x.2.2.2] 34)) hb2)
        clear hbx hb2 hbel c0 c1 c2 c3
        go_wp2_with (at_builtin; refine wpList_append_own _ rfl _ _ 90 rfl w.heap.size 31 i0 (.int .i64 0) 1 8 Tryz.underlying90 hi hz0 hz1 hz2 rfl (by decide) _ _ _ rfl (hown.alloc _) ⟨w2.heap.size, 0, none⟩ 1 1 [.int .i64 (g x)] rfl rfl (cell_one_new _ _ _) (by simp [Value.oneCell']) (by unfold maxLen; omega) (by omega) (by have := hbx2.size; simp; omega) ?_; intro v' w1 hown' hgrow _)
        have hbel' := below_own hbx2 hown hgrow
        have hown2 : w1.ownsRow w.heap.size 31 1 v' (k + 1) ((l.take (k + 1)).map fun x => Value.int .i64 (g x)) := by
          rw [takeX_succ_map _ _ _ x HX.out]; exact hown'
        clear hown hbx2 hown' hgrow
        go_wp2
        go_roundw
        case rel => exact ⟨k + 1, by omega, by go_num, hown2, hbel'⟩
        case measure => simp [intOf]; omega
      · obtain rfl : k = l.length := by omega
        have hout : Ints wr u5 (l.map g) := Ints.of_own (n := l.length) (by rw [List.take_length] at hown; rw [List.map_map]; exact hown) (by simp)
        clear hown
        go_wp2
        go_ret
        exact ⟨⟨_, rfl, hout⟩, hbel⟩
theorem Bd.mono {A B : Int} {x : Cy} (h : Bd A x) (hAB : A ≤ B) : Bd B x := by
  obtain ⟨h0, h1, h2, h3⟩ := h
  exact ⟨by omega, by omega, by omega, by omega⟩
def cycX (x : I4) : Int := cycE x.1 x.2.1 x.2.2.1 x.2.2.2
theorem Tryz.enterCheckCy (args : Array Value) (w : World) : Sem.run Tryz.prog (callFunc 39 args) w = .ok (.enter 39 args) w :=
  MuLone.run_callFunc_enter Tryz.func39 (by kernel_rfl) rfl args w
theorem neqCyH (a b : Int) (h : a = b) (W : World) : Sem.run Tryz.prog (binOp .neq 34 (.agg #[.int .i64 a, .int .i64 0, .int .i64 0, .int .i64 0]) (.agg #[.int .i64 b, .int .i64 0, .int .i64 0, .int .i64 0])) W = .ok (.bool false) W := by
  subst h
  go_simp


def cyI (x : Cy) : List Int := [x.1, x.2.1, x.2.2.1, x.2.2.2]
/-- a number of a spectrum, its turn, the sum of the turned ones, the level and whether it is one. -/
def xAt (S : List Int) (h : Nat) : Cy := (S[h * 4]?.getD 0, S[h * 4 + 1]?.getD 0, S[h * 4 + 2]?.getD 0, S[h * 4 + 3]?.getD 0)
def spcE (S : List Int) : Int := firstE ((upto (xAt S) 12).map cycX)
def tuS (S : List Int) (n h : Nat) : Cy := turnC (xAt S h) (mod12 (wrap64 ((h : Int) * (n : Int))))
def suS (S : List Int) (n : Nat) : Nat → Cy
  | 0 => (0, 0, 0, 0)
  | k + 1 => cyAdd (suS S n k) (tuS S n k)
def gdS (S : List Int) (n : Nat) : Bool := decide ((suS S n 12).1 % 12 = 0) && ((suS S n 12).2.1 == 0) && ((suS S n 12).2.2.1 == 0) && ((suS S n 12).2.2.2 == 0)
def lvS (S : List Int) (n : Nat) : Int := (suS S n 12).1 / 12
def okS (S : List Int) : Bool := (List.range 12).all fun n => gdS S n && decide (-100 ≤ lvS S n ∧ lvS S n ≤ 100)
def bakE (S : List Int) : Int := if okS S = true then 0 else 1
def bakP (S : List Int) : List Int := if okS S = true then upto (lvS S) 12 else zer12
theorem quads_at {w : World} {B : Nat} {S : List Int} (hS : S.length = 48) (h : BlkI w B 35 S) : Quads w (.slice (some ⟨B, 0, none⟩) 12 12) (upto (xAt S) 12) := by
  refine ⟨some ⟨B, 0, none⟩, 12, by rw [upto_length], by rw [upto_length]; omega, fun _ => ⟨B, 0, rfl, fun j x hj => ?_⟩⟩
  have hjl := (List.getElem?_eq_some_iff.1 hj).1
  rw [upto_length] at hjl
  rw [upto_get, if_pos hjl] at hj
  cases hj
  have c0 := BlkI.cell (l := S) h (j := j * 4) (by omega)
  have c1 := BlkI.cell (l := S) h (j := j * 4 + 1) (by omega)
  have c2 := BlkI.cell (l := S) h (j := j * 4 + 2) (by omega)
  have c3 := BlkI.cell (l := S) h (j := j * 4 + 3) (by omega)
  rw [Nat.zero_add]
  exact ⟨c0, c1, c2, c3⟩
/-- every part of the numbers is small. -/
def SmS (S : List Int) : Prop := ∀ h, h < 12 → Bd 1048576 (xAt S h)
theorem cycE_bd {o : Cy} (h : cycX o = 0) : Bd 1048576 o := by
  have hz := firstE_mapOk (g := fun x => withinE x (-1048576) 1048576) (l := [o.1, o.2.1, o.2.2.1, o.2.2.2]) h
  exact ⟨withinE_zero (hz _ (by simp)), withinE_zero (hz _ (by simp)), withinE_zero (hz _ (by simp)), withinE_zero (hz _ (by simp))⟩
theorem sm_of {S : List Int} (h : spcE S = 0) : SmS S := fun k hk =>
  cycE_bd (firstE_mapOk h _ (List.mem_map.2 ⟨k, List.mem_range.2 hk, rfl⟩))
theorem su_bd {S : List Int} (h : SmS S) (n : Nat) : ∀ k : Nat, k ≤ 12 → Bd (4294967296 * (k : Int)) (suS S n k)
  | 0, _ => by unfold suS Bd; simp
  | k + 1, hk => by
    have ih := su_bd h n k (by omega)
    have ht : Bd 4294967296 (tuS S n k) := by
      unfold tuS
      have hm := mod12_lt (wrap64 ((k : Int) * (n : Int)))
      rw [turn_rot (h k (by omega)) _ hm]
      obtain ⟨e, b⟩ := rotC_exact (h k (by omega)) _ (show mod12 (wrap64 ((k : Int) * (n : Int))) ≤ 12 by omega)
      rw [e]
      refine b.mono ?_
      have hm2 : mod12 (wrap64 ((k : Int) * (n : Int))) ≤ 12 := by omega
      have h2 : (2 : Int) ^ mod12 (wrap64 ((k : Int) * (n : Int))) ≤ 2 ^ 12 := by
        exact_mod_cast Nat.pow_le_pow_right (by decide) hm2
      omega
    unfold suS
    generalize suS S n k = a at ih
    generalize tuS S n k = b at ht
    obtain ⟨a0, a1, a2, a3⟩ := a
    obtain ⟨b0, b1, b2, b3⟩ := b
    obtain ⟨p0, p1, p2, p3⟩ := ih
    obtain ⟨q0, q1, q2, q3⟩ := ht
    simp only at p0 p1 p2 p3 q0 q1 q2 q3
    unfold cyAdd Bd
    simp only
    rw [wrapIn (x := a0 + b0) (by omega), wrapIn (x := a1 + b1) (by omega), wrapIn (x := a2 + b2) (by omega), wrapIn (x := a3 + b3) (by omega)]
    refine ⟨?_, ?_, ?_, ?_⟩ <;> omega

def lvF (S : List Int) (k j : Nat) : Int := if j < k then lvS S j else 0
theorem lvF_zero (S : List Int) : List.replicate 12 (0 : Int) = upto (lvF S 0) 12 := by
  rw [zeros_upto]
  exact upto_congr fun j _ => by unfold lvF; rw [if_neg (by omega)]
theorem lvF_set (S : List Int) (k : Nat) (hk : k < 12) : (upto (lvF S k) 12).set k (lvS S k) = upto (lvF S (k + 1)) 12 := upto_set1 _ _ 12 k hk _ fun j => by
  unfold lvF
  by_cases c : j = k
  · subst c; rw [if_pos (by omega), if_pos rfl]
  · rw [if_neg c]
    by_cases d : j < k
    · rw [if_pos (by omega), if_pos d]
    · rw [if_neg (by omega), if_neg d]
theorem lvF_all (S : List Int) : upto (lvF S 12) 12 = upto (lvS S) 12 := upto_congr fun j hj => by unfold lvF; rw [if_pos hj]
theorem neqCyB (a b c d L : Int) (h : ¬ (a = L ∧ b = 0 ∧ c = 0 ∧ d = 0)) (W : World) : Sem.run Tryz.prog (binOp .neq 34 (.agg #[.int .i64 a, .int .i64 b, .int .i64 c, .int .i64 d]) (.agg #[.int .i64 L, .int .i64 0, .int .i64 0, .int .i64 0])) W = .ok (.bool true) W := by
  go_simp
  intro h1 h2 h3 h4
  exact h ⟨h1, h2, h3, h4⟩
theorem patE_mk {l : List Int} (h : ∀ x ∈ l, -100 ≤ x ∧ x ≤ 100) : patE l = 0 := by
  unfold patE allE
  induction l with
  | nil => rfl
  | cons x t ih =>
    have hx := h x (by simp)
    have e : withinE x (-100) 100 = 0 := by unfold withinE; rw [if_neg (by omega)]
    show firstE (withinE x (-100) 100 :: t.map fun x => withinE x (-100) 100) = 0
    rw [e]
    exact ih fun y hy => h y (by simp [hy])
def bkE2 (S : List Int) : Int := if spcE S = 0 then bakE S else spcE S
def bkP2 (S : List Int) : List Int := if spcE S = 0 then bakP S else zer12
theorem bk_bad {S : List Int} (h0 : spcE S = 0) (n : Nat) (hn : n < 12) (h : gdS S n = false) : bkE2 S = 1 ∧ bkP2 S = zer12 := by
  have ho : okS S ≠ true := fun e => by
    unfold okS at e
    rw [List.all_eq_true] at e
    have := e n (List.mem_range.2 hn)
    rw [h] at this
    simp at this
  unfold bkE2 bkP2 bakE bakP
  rw [if_pos h0, if_pos h0, if_neg ho, if_neg ho]
  exact ⟨rfl, rfl⟩
theorem bk_pat {S : List Int} (h0 : spcE S = 0) (hg : ∀ j, j < 12 → gdS S j = true) : bkE2 S = (if patE (upto (lvS S) 12) = 0 then 0 else 1) ∧ bkP2 S = (if patE (upto (lvS S) 12) = 0 then upto (lvS S) 12 else zer12) := by
  have ho : (okS S = true) = (patE (upto (lvS S) 12) = 0) := by
    apply propext
    constructor
    · intro e
      refine patE_mk fun x hx => ?_
      obtain ⟨k, hk, rfl⟩ := List.mem_map.1 hx
      unfold okS at e
      rw [List.all_eq_true] at e
      have := e k hk
      rw [Bool.and_eq_true, decide_eq_true_eq] at this
      exact this.2
    · intro e
      unfold okS
      rw [List.all_eq_true]
      intro k hk
      rw [Bool.and_eq_true, decide_eq_true_eq]
      refine ⟨hg k (List.mem_range.1 hk), ?_⟩
      exact withinE_zero (firstE_mapOk (g := fun x => withinE x (-100) 100) e _ (List.mem_map.2 ⟨k, hk, rfl⟩))
  unfold bkE2 bkP2 bakE bakP
  rw [if_pos h0, if_pos h0]
  by_cases h : okS S = true
  · rw [if_pos h, if_pos h, if_pos (ho ▸ h), if_pos (ho ▸ h)]; exact ⟨rfl, rfl⟩
  · rw [if_neg h, if_neg h, if_neg (fun e => h (ho ▸ e)), if_neg (fun e => h (ho ▸ e))]; exact ⟨rfl, rfl⟩
theorem gd_true {S : List Int} {n : Nat} (h : gdS S n = true) : suS S n 12 = (12 * lvS S n, 0, 0, 0) := by
  unfold gdS at h
  unfold lvS
  generalize suS S n 12 = s at h
  obtain ⟨a, b, c, d⟩ := s
  simp only [Bool.and_eq_true, decide_eq_true_eq, beq_iff_eq] at h
  obtain ⟨⟨⟨h1, rfl⟩, rfl⟩, rfl⟩ := h
  simp only
  rw [show 12 * (a / 12) = a by omega]
theorem gd_false {S : List Int} {n : Nat} (h : gdS S n = false) {a b c d : Int} (hs : suS S n 12 = (a, b, c, d)) : ¬ (a % 12 = 0 ∧ b = 0 ∧ c = 0 ∧ d = 0) := by
  rintro ⟨h1, rfl, rfl, rfl⟩
  unfold gdS at h
  rw [hs] at h
  simp [h1] at h
set_option maxRecDepth 100000 in
set_option maxHeartbeats 8000000 in
theorem Back_w (S : List Int) (w : World) (hSl : S.length = 48) (hw : Powers w) :
    Calls Tryz.prog 6 #[.agg (ia S)] w fun e w' => e = .returned (.tuple #[.agg (ia (bkP2 S)), .int .i64 (bkE2 S)]) ∧ Below w.heap.size w w' := by
  have TF := Lib.hid (fun (u : Value) (W : World) (h : Ints W u ((upto (xAt S) 12).map cycX)) => firstH_any u _ W (by rw [List.length_map, upto_length]; simp [maxLen]) h)
  have TM := Lib.hid (fun (u : Value) (W : World) (h : Quads W u (upto (xAt S) 12)) => mappedCE_any 39 #[] Tryz.enterCheckCy cycX u _ W (by rw [upto_length]; omega) h (fun x _ w1 _ => checkC_any x.1 x.2.1 x.2.2.1 x.2.2.2 w1))
  have HQ := Lib.hid (fun (W : World) (B : Nat) (h : BlkI W B 35 S) => quads_at hSl h)
  obtain ⟨E, hE⟩ : ∃ E, E = spcE S := ⟨_, rfl⟩
  have HE := Lib.hid hE
  have hE2 : firstE ((upto (xAt S) 12).map cycX) = E := hE.symm
  rw [hE2] at TF
  have HSL := Lib.hid hSl
  have hz12 : zer12.length = 12 := rfl
  clear hE hE2 hSl
  go_enter Tryz.func6, Tryz.ntmps6
  go_upto_region 1 with fail
  obtain ⟨W1, hW1⟩ : ∃ v, v = World.alloc w (Obj.cells (ia S) 35) := ⟨_, rfl⟩
  have kW1 : Below w.heap.size w W1 := by rw [hW1]; exact below_new _ _
  have iW1 : BlkI W1 (w.heap.size) 35 S := by rw [hW1]; exact BlkI.new _ _ _
  have sW1 : W1.heap.size = w.heap.size + 1 := by rw [hW1]; simp
  rw [← hW1]
  clear hW1
  obtain ⟨W2, hW2⟩ : ∃ v, v = World.alloc W1 (Obj.cells #[.int .i64 0, .int .i64 0, .int .i64 0, .int .i64 0, .int .i64 0, .int .i64 0, .int .i64 0, .int .i64 0, .int .i64 0, .int .i64 0, .int .i64 0, .int .i64 0] 30) := ⟨_, rfl⟩
  have kW2 : Below W1.heap.size W1 W2 := by rw [hW2]; exact below_new _ _
  have iW2 : BlkI W2 (w.heap.size + 1) 30 (List.replicate 12 0) := by rw [hW2, ← sW1]; exact BlkI.new W1 30 (List.replicate 12 0)
  have sW2 : W2.heap.size = w.heap.size + 1 + 1 := by rw [hW2]; simp [sW1]
  rw [← hW2]
  clear hW2
  have i1 : BlkI W2 w.heap.size 35 S := iW1.carry kW2
  have i2 := iW2
  have hB := bthen kW1 kW2
  clear kW1 kW2 sW1 sW2 iW1 iW2
  go_wp2_with fail
  refine (TM.out _ W2 (HQ.out W2 _ i1)).mono ?_
  rintro e W3 ⟨⟨u, rfl, hu⟩, hb⟩
  replace i1 := i1.carry hb
  replace i2 := i2.carry hb
  replace hB := bthen hB hb
  clear hb
  go_wp2_with fail
  refine (TF.out u W3 hu).mono ?_
  rintro e W4 ⟨rfl, rfl⟩
  clear hu TF TM HQ
  by_cases hE0 : E ≠ 0
  · have hz : (E != 0) = true := by rw [bne_iff_ne]; exact hE0
    have HR1 := Lib.hid (show bkE2 S = E by unfold bkE2; rw [← HE.out, if_neg hE0])
    have HR2 := Lib.hid (show bkP2 S = zer12 by unfold bkP2; rw [← HE.out, if_neg hE0])
    clear hE0
    go_wp2_with (refine wpList_storeA rfl _ _ _ rfl (w.heap.size + 1) zer12 zer12 rfl rfl i2 rfl Tryz.infoA12 ?_)
    have i9 := BlkI.setRowA i2 zer12
    have hld9 := Tryz.loadVar12 hz12 i9
    exact bodyPost_ret (v := .tuple #[.agg (ia zer12), .int .i64 E]) (results_cell_tmp (p := 2) (q := 3) rfl _ _ (w.heap.size + 1) _ rfl _ rfl hld9) rfl ⟨by rw [HR1.out, HR2.out], below_rowA hB (by omega) _⟩
  have hE0 : E = 0 := Classical.byContradiction hE0
  have HE0 := Lib.hid (show spcE S = 0 from HE.out.symm.trans hE0)
  have HSM := Lib.hid (sm_of HE0.out)
  subst hE0
  go_upto_region 5 with fail
  have h25 : w.heap.size + 1 < W3.heap.size := Blk.lt i2
  obtain ⟨W5, hW5⟩ : ∃ v, v = World.alloc W3 (Obj.cells #[.int .i64 0, .int .i64 0, .int .i64 0, .int .i64 0, .int .i64 0, .int .i64 0, .int .i64 0, .int .i64 0, .int .i64 0, .int .i64 0, .int .i64 0, .int .i64 0] 30) := ⟨_, rfl⟩
  have kW5 : Below W3.heap.size W3 W5 := by rw [hW5]; exact below_new _ _
  have iW5 : BlkI W5 (W3.heap.size) 30 (List.replicate 12 0) := by rw [hW5]; exact BlkI.new W3 30 (List.replicate 12 0)
  have sW5 : W5.heap.size = W3.heap.size + 1 := by rw [hW5]; simp
  rw [← hW5]
  clear hW5
  replace i1 := i1.carry kW5
  replace i2 := i2.carry kW5
  replace hB := bthen hB kW5
  have i5 := iW5
  rw [lvF_zero S] at i5
  have hG5 : w.heap.size ≤ W3.heap.size := by omega
  obtain ⟨G5, hG⟩ : ∃ G, G = W3.heap.size := ⟨_, rfl⟩
  rw [← hG] at i5 hG5 h25 ⊢
  clear kW5 iW5 sW5 hG
  have HG5 := Lib.hid (And.intro h25 hG5)
  clear hG5 h25
  go_wp2_with fail
  go_loopw [18] (fun i wr => ∃ k : Nat, k ≤ 12 ∧ i = .int .i64 k ∧ Hid (∀ j, j < k → gdS S j = true) ∧ BlkI wr G5 30 (upto (lvF S k) 12) ∧ BlkI wr w.heap.size 35 S ∧ BlkI wr (w.heap.size + 1) 30 (List.replicate 12 0) ∧ Below w.heap.size w wr) (fun i _ => 12 - (intOf i).toNat)
  case atStart => exact ⟨0, by omega, rfl, Lib.hid (fun j hj => by omega), i5, i1, i2, hB⟩
  case round =>
    clear i5 i1 i2 hB
    obtain ⟨k, hk, rfl, hgood, i5, i1, i2, hB⟩ := hrel
    by_cases hlt : k < 12
    · have d1 : (k : Int) < 12 := by omega
      go_upto_region 9 with fail
      obtain ⟨X1, hX1⟩ : ∃ v, v = World.alloc wr (Obj.cells #[.int .i64 0, .int .i64 0, .int .i64 0, .int .i64 0] 34) := ⟨_, rfl⟩
      have kX1 : Below wr.heap.size wr X1 := by rw [hX1]; exact below_new _ _
      have iX1 : BlkI X1 (wr.heap.size) 34 (List.replicate 4 0) := by rw [hX1]; exact BlkI.new wr 34 (List.replicate 4 0)
      have sX1 : X1.heap.size = wr.heap.size + 1 := by rw [hX1]; simp
      rw [← hX1]
      clear hX1
      have hg7 : G5 < wr.heap.size := Blk.lt i5
      have hg8 : w.heap.size + 1 < wr.heap.size := Blk.lt i2
      replace i1 := i1.carry kX1
      replace i2 := i2.carry kX1
      replace i5 := i5.carry kX1
      replace hB := bthen hB kX1
      have i7 : BlkI X1 wr.heap.size 34 (cyI (suS S k 0)) := iX1
      obtain ⟨G7, hG⟩ : ∃ G, G = wr.heap.size := ⟨_, rfl⟩
      rw [← hG] at i7 hg7 hg8 ⊢
      clear kX1 iX1 sX1 hG
      have HG7 := Lib.hid (And.intro hg7 hg8)
      clear hg7 hg8
      have hld := load48 HSL.out i1
      go_wp2_with (refine wpList_load rfl _ _ rfl hld ?_)
      clear hld
      go_loopw [22] (fun i wr2 => ∃ h : Nat, h ≤ 12 ∧ i = .int .i64 h ∧ BlkI wr2 G7 34 (cyI (suS S k h)) ∧ BlkI wr2 G5 30 (upto (lvF S k) 12) ∧ BlkI wr2 w.heap.size 35 S ∧ BlkI wr2 (w.heap.size + 1) 30 (List.replicate 12 0) ∧ Below w.heap.size w wr2) (fun i _ => 12 - (intOf i).toNat)
      case atStart => exact ⟨0, by omega, rfl, i7, i5, i1, i2, hB⟩
      case round =>
        clear i7 i5 i1 i2 hB
        obtain ⟨h, hh, rfl, i7, i5, i1, i2, hB⟩ := hrel
        by_cases hlh : h < 12
        · have d2 : (h : Int) < 12 := by omega
          have hix0 := fun W => idx48 HSL.out hlh W
          have hbs : suS S k (h + 1) = cyAdd (suS S k h) (tuS S k h) := rfl
          have hbt : tuS S k h = turnC (xAt S h) (mod12 (wrap64 ((h : Int) * (k : Int)))) := rfl
          have hxa : xAt S h = (S[h * 4]?.getD 0, S[h * 4 + 1]?.getD 0, S[h * 4 + 2]?.getD 0, S[h * 4 + 3]?.getD 0) := rfl
          rw [hxa] at hbt
          generalize S[h * 4]?.getD 0 = o0 at hix0 hbt
          generalize S[h * 4 + 1]?.getD 0 = o1 at hix0 hbt
          generalize S[h * 4 + 2]?.getD 0 = o2 at hix0 hbt
          generalize S[h * 4 + 3]?.getD 0 = o3 at hix0 hbt
          clear hxa
          obtain ⟨HK, hHK⟩ : ∃ x, x = wrap64 ((h : Int) * (k : Int)) := ⟨_, rfl⟩
          have e0 : IntKind.i64.wrap ((h : Int) * (k : Int)) = HK := by rw [wrapEq, hHK]
          rw [← hHK] at hbt
          have TT := Lib.hid (fun W hp => turned_any o0 o1 o2 o3 HK (mod12 HK) W hp (mod12_lt _) (mod12_eq _))
          rw [← hbt] at TT
          generalize tuS S k h = tt at TT hbs
          obtain ⟨t0, t1, t2, t3⟩ := tt
          simp only [cyV] at TT
          generalize suS S k h = ss at i7 hbs
          obtain ⟨s0, s1, s2, s3⟩ := ss
          have TPl := Lib.hid (fun W => plusC_any s0 s1 s2 s3 t0 t1 t2 t3 W)
          simp only [cyAdd] at hbs
          generalize wrap64 (s0 + t0) = n0 at TPl hbs
          generalize wrap64 (s1 + t1) = n1 at TPl hbs
          generalize wrap64 (s2 + t2) = n2 at TPl hbs
          generalize wrap64 (s3 + t3) = n3 at TPl hbs
          have HBSS := Lib.hid hbs
          clear hbs hbt hHK
          go_upto_region 12 with (refine wpList_storeA rfl _ _ _ rfl wr.heap.size [o0, o1, o2, o3] (List.replicate 4 0) rfl rfl (BlkI.new wr 34 (List.replicate 4 0)) rfl Tryz.infoCyH4 ?_)
          obtain ⟨Y1, hY1⟩ : ∃ v, v = World.setRow (World.alloc wr (Obj.cells #[.int .i64 0, .int .i64 0, .int .i64 0, .int .i64 0] 34)) wr.heap.size (ia ([o0, o1, o2, o3])) := ⟨_, rfl⟩
          have kY1 : Below wr.heap.size wr Y1 := by rw [hY1]; exact zrow_below _ _ _ _
          have iY1 : BlkI Y1 wr.heap.size 34 ([o0, o1, o2, o3]) := by rw [hY1]; exact zrow_blk wr _ (List.replicate 4 0) _
          rw [← hY1]
          clear hY1
          replace i1 := i1.carry kY1
          replace i2 := i2.carry kY1
          replace i5 := i5.carry kY1
          have i7' : BlkI Y1 G7 34 [s0, s1, s2, s3] := i7.carry kY1
          replace hB := bthen hB kY1
          have i9 := iY1
          generalize wr.heap.size = G9 at i9 ⊢
          clear kY1 iY1 i7 hix0
          have a0 : Y1.cell? ⟨G9, 0, none⟩ = some (.int .i64 o0) := BlkI.cell i9 (j := 0) (by simp)
          have a1 : Y1.cell? ⟨G9, 1, none⟩ = some (.int .i64 o1) := BlkI.cell i9 (j := 1) (by simp)
          have a2 : Y1.cell? ⟨G9, 2, none⟩ = some (.int .i64 o2) := BlkI.cell i9 (j := 2) (by simp)
          have a3 : Y1.cell? ⟨G9, 3, none⟩ = some (.int .i64 o3) := BlkI.cell i9 (j := 3) (by simp)
          have b0 : Y1.cell? ⟨G7, 0, none⟩ = some (.int .i64 s0) := BlkI.cell i7' (j := 0) (by simp)
          have b1 : Y1.cell? ⟨G7, 1, none⟩ = some (.int .i64 s1) := BlkI.cell i7' (j := 1) (by simp)
          have b2 : Y1.cell? ⟨G7, 2, none⟩ = some (.int .i64 s2) := BlkI.cell i7' (j := 2) (by simp)
          have b3 : Y1.cell? ⟨G7, 3, none⟩ = some (.int .i64 s3) := BlkI.cell i7' (j := 3) (by simp)
          clear i9
          obtain ⟨hg7, hg8⟩ := HG7.out
          have hG5 := HG5.out
          refine wp_region_E 7 (by kernel_rfl) ?_
          obtain ⟨wz, hwz⟩ : ∃ v, v = Y1.drew := ⟨_, rfl⟩
          rw [← hwz]
          have hlz : Below Y1.heap.size Y1 wz := by rw [hwz]; exact (Below.refl _ _).drew
          have hbz := bthen hB hlz
          have a0 := cellb a0 hlz
          have a1 := cellb a1 hlz
          have a2 := cellb a2 hlz
          have a3 := cellb a3 hlz
          have b0 := cellb b0 hlz
          have b1 := cellb b1 hlz
          have b2 := cellb b2 hlz
          have b3 := cellb b3 hlz
          have i1 := i1.carry hlz
          have i2 := i2.carry hlz
          have i5 := i5.carry hlz
          have i7' := i7'.carry hlz
          clear hwz hlz
          refine wpAnyE_take (i := 0) (oi := { dst := some 26, op := Op.load 34 (Operand.tmp 7), type := 34, pos := "harmonic.go:219", after := #[], guard := none }) (v := ?_) rfl (by kernel_rfl) (by kernel_rfl) (by kernel_rfl) (by kernel_rfl) (fun _ _ _ h => h) (Or.inl ⟨by rfl, ?_⟩) ?_
          rotate_left
          · (intro w hE; have a0 := cellb a0 hE; have a1 := cellb a1 hE; have a2 := cellb a2 hE; have a3 := cellb a3 hE; have b0 := cellb b0 hE; have b1 := cellb b1 hE; have b2 := cellb b2 hE; have b3 := cellb b3 hE; (try dsimp only); go_simp); (try with_reducible rfl)
          try simp only [Act.put, List.setIfInBounds_toArray, List.set_cons_zero, List.set_cons_succ]
          refine wpAnyE_take (i := 1) (oi := { dst := some 27, op := Op.load 34 (Operand.tmp 9), type := 34, pos := "harmonic.go:219", after := #[], guard := none }) (v := ?_) rfl (by kernel_rfl) (by kernel_rfl) (by kernel_rfl) (by kernel_rfl) (fun _ _ _ h => h) (Or.inl ⟨by rfl, ?_⟩) ?_
          rotate_left
          · (intro w hE; have a0 := cellb a0 hE; have a1 := cellb a1 hE; have a2 := cellb a2 hE; have a3 := cellb a3 hE; have b0 := cellb b0 hE; have b1 := cellb b1 hE; have b2 := cellb b2 hE; have b3 := cellb b3 hE; (try dsimp only); go_simp); (try with_reducible rfl)
          try simp only [Act.put, List.setIfInBounds_toArray, List.set_cons_zero, List.set_cons_succ]
          refine wpAnyE_take (i := 2) (oi := { dst := some 28, op := Op.move (Operand.tmp 8), type := 3, pos := "harmonic.go:219", after := #[], guard := none }) (v := ?_) rfl (by kernel_rfl) (by kernel_rfl) (by kernel_rfl) (by kernel_rfl) (fun _ _ _ h => h) (Or.inl ⟨by rfl, ?_⟩) ?_
          rotate_left
          · (intro w hE; have a0 := cellb a0 hE; have a1 := cellb a1 hE; have a2 := cellb a2 hE; have a3 := cellb a3 hE; have b0 := cellb b0 hE; have b1 := cellb b1 hE; have b2 := cellb b2 hE; have b3 := cellb b3 hE; (try dsimp only); go_simp); (try with_reducible rfl)
          try simp only [Act.put, List.setIfInBounds_toArray, List.set_cons_zero, List.set_cons_succ]
          refine wpAnyE_take (i := 3) (oi := { dst := some 29, op := Op.move (Operand.tmp 6), type := 3, pos := "harmonic.go:219", after := #[], guard := none }) (v := ?_) rfl (by kernel_rfl) (by kernel_rfl) (by kernel_rfl) (by kernel_rfl) (fun _ _ _ h => h) (Or.inl ⟨by rfl, ?_⟩) ?_
          rotate_left
          · (intro w hE; have a0 := cellb a0 hE; have a1 := cellb a1 hE; have a2 := cellb a2 hE; have a3 := cellb a3 hE; have b0 := cellb b0 hE; have b1 := cellb b1 hE; have b2 := cellb b2 hE; have b3 := cellb b3 hE; (try dsimp only); go_simp); (try with_reducible rfl)
          try simp only [Act.put, List.setIfInBounds_toArray, List.set_cons_zero, List.set_cons_succ]
          refine wpAnyE_take (i := 4) (oi := { dst := some 30, op := Op.binOp BinOp.mul 3 (Operand.tmp 28) (Operand.tmp 29) 3, type := 3, pos := "harmonic.go:219", after := #[{ on := 2, ground := Ground.data }, { on := 3, ground := Ground.data }], guard := none }) (v := ?_) rfl (by kernel_rfl) (by kernel_rfl) (by kernel_rfl) (by kernel_rfl) (fun _ _ _ h => h) (Or.inl ⟨by rfl, ?_⟩) ?_
          rotate_left
          · (intro w hE; have a0 := cellb a0 hE; have a1 := cellb a1 hE; have a2 := cellb a2 hE; have a3 := cellb a3 hE; have b0 := cellb b0 hE; have b1 := cellb b1 hE; have b2 := cellb b2 hE; have b3 := cellb b3 hE; (try dsimp only); go_simp); (try with_reducible rfl)
          try simp only [Act.put, List.setIfInBounds_toArray, List.set_cons_zero, List.set_cons_succ]
          refine wpAnyE_call (i := 5) (oi := { dst := some 31, op := Op.call { callee := Callee.value (Operand.func 41), args := #[Operand.tmp 27, Operand.tmp 30], argTypes := #[34, 3] }, type := 34, pos := "harmonic.go:219", after := #[{ on := 1, ground := Ground.data }, { on := 4, ground := Ground.data }], guard := none }) (fun w hE => TT.out w (hw.carry (bthen hbz hE))) rfl (by kernel_rfl) (by kernel_rfl) (by kernel_rfl) (by kernel_rfl) (fun _ _ _ h => h) (by rfl) (fun w hE => by (try dsimp only); go_simp) ?_
          try simp only [Act.put, List.setIfInBounds_toArray, List.set_cons_zero, List.set_cons_succ]
          refine wpAnyE_call (i := 6) (oi := { dst := some 32, op := Op.call { callee := Callee.value (Operand.func 40), args := #[Operand.tmp 26, Operand.tmp 31], argTypes := #[34, 34] }, type := 34, pos := "harmonic.go:219", after := #[{ on := 0, ground := Ground.data }, { on := 5, ground := Ground.data }, { on := 5, ground := Ground.chain }], guard := none }) (fun w hE => TPl.out w) rfl (by kernel_rfl) (by kernel_rfl) (by kernel_rfl) (by kernel_rfl) (fun _ _ _ h => h) (by rfl) (fun w hE => by (try dsimp only); go_simp) ?_
          try simp only [Act.put, List.setIfInBounds_toArray, List.set_cons_zero, List.set_cons_succ]
          refine wpAnyE_one (i := 7) (o := { dst := none, op := Op.store 34 (Operand.tmp 7) (Operand.tmp 32), type := 0, pos := "harmonic.go:219", after := #[{ on := 6, ground := Ground.data }, { on := 6, ground := Ground.chain }, { on := 0, ground := Ground.phase }, { on := 1, ground := Ground.phase }, { on := 2, ground := Ground.phase }, { on := 3, ground := Ground.phase }, { on := 4, ground := Ground.phase }, { on := 5, ground := Ground.phase }, { on := 6, ground := Ground.phase }], guard := none }) (by kernel_rfl) rfl (fun wy1 hE K hK => ?_)
          have a0 := cellb a0 hE
          have a1 := cellb a1 hE
          have a2 := cellb a2 hE
          have a3 := cellb a3 hE
          have b0 := cellb b0 hE
          have b1 := cellb b1 hE
          have b2 := cellb b2 hE
          have b3 := cellb b3 hE
          have i1 := i1.carry hE
          have i2 := i2.carry hE
          have i5 := i5.carry hE
          have i7' := i7'.carry hE
          have hbz1 := bthen hbz hE
          clear hE
          rw [if_pos (by rfl)]
          refine wp_storeA _ _ _ rfl G7 [n0, n1, n2, n3] [s0, s1, s2, s3] rfl rfl i7' rfl Tryz.infoCyH4 ?_
          obtain ⟨wx1, hwz⟩ : ∃ v, v = World.setRow wy1 G7 (ia [n0, n1, n2, n3]) := ⟨_, rfl⟩
          rw [← hwz]
          have hcz1 : Below w.heap.size w wx1 := by rw [hwz]; exact below_rowA hbz1 (by omega) _
          replace i7' := BlkI.setRowA i7' [n0, n1, n2, n3]
          rw [← hwz] at i7'
          replace i1 := BlkI.setRowO i1 (B' := G7) (by omega) (ia [n0, n1, n2, n3])
          rw [← hwz] at i1
          replace i2 := BlkI.setRowO i2 (B' := G7) (by omega) (ia [n0, n1, n2, n3])
          rw [← hwz] at i2
          replace i5 := BlkI.setRowO i5 (B' := G7) (by omega) (ia [n0, n1, n2, n3])
          rw [← hwz] at i5
          clear hwz
          refine hK _ _ (fun h => absurd rfl h) ?_
          clear hK K
          try simp only [Act.put, List.setIfInBounds_toArray, List.set_cons_zero, List.set_cons_succ]
          refine wpAnyE_done (by kernel_rfl) (fun wy2 hE => ?_) _
          have hbz2 := bthen hcz1 hE
          have i1 := i1.carry hE
          have i2 := i2.carry hE
          have i5 := i5.carry hE
          have i7' := i7'.carry hE
          clear hE
          have hB := hbz2
          obtain ⟨Y2, hY2⟩ : ∃ v, v = wy2 := ⟨_, rfl⟩
          rw [← hY2] at hB i1 i2 i5 i7' ⊢
          clear hY2
          clear e0 hg7 hg8 hG5
          go_wp2_with fail
          go_roundw
          case rel => exact ⟨h + 1, by omega, by go_num, by rw [HBSS.out]; exact i7', i5, i1, i2, hB⟩
          case measure => simp [intOf]; omega
        · obtain rfl : h = 12 := by omega
          have hsb := su_bd HSM.out k 12 (Nat.le_refl _)
          by_cases hg : gdS S k = true
          · have HG := Lib.hid (show ∀ j, j < k + 1 → gdS S j = true from fun j hj => by
              by_cases e : j = k
              · rw [e]; exact hg
              · exact hgood.out j (by omega))
            rw [gd_true hg] at i7 hsb
            have hset := lvF_set S k hlt
            generalize lvS S k = x at i7 hset hsb
            have hx : -51539607552 ≤ 12 * x ∧ 12 * x ≤ 51539607552 := hsb.1
            obtain ⟨y, hy⟩ : ∃ y, y = 12 * x := ⟨_, rfl⟩
            rw [← hy] at i7
            have e0 : IntKind.i64.wrap (y.tdiv 12) = x := by
              rw [hy, Int.mul_tdiv_cancel_left _ (by decide)]; exact IntWalk.i64_in _ (by omega)
            have e1 : IntKind.i64.wrap (x * 12) = y := (IntWalk.i64_in _ (by omega)).trans (by omega)
            have hne := fun W => neqCyH y y rfl W
            have HSET := Lib.hid hset
            clear hset hy hsb hx hg hgood
            have b0 : wr.cell? ⟨G7, 0, none⟩ = some (.int .i64 y) := BlkI.cell (l := [y, 0, 0, 0]) i7 (j := 0) (by simp)
            have b1 : wr.cell? ⟨G7, 1, none⟩ = some (.int .i64 0) := BlkI.cell (l := [y, 0, 0, 0]) i7 (j := 1) (by simp)
            have b2 : wr.cell? ⟨G7, 2, none⟩ = some (.int .i64 0) := BlkI.cell (l := [y, 0, 0, 0]) i7 (j := 2) (by simp)
            have b3 : wr.cell? ⟨G7, 3, none⟩ = some (.int .i64 0) := BlkI.cell (l := [y, 0, 0, 0]) i7 (j := 3) (by simp)
            have c5 := BlkI.cell i5 (j := k) (by rw [upto_length]; exact hlt)
            have f5 := Blk.frozen i5 k
            generalize (upto (lvF S k) 12)[k]?.getD 0 = old at c5
            have hz2 : w.heap.size + 1 ≠ G5 := by have := HG5.out.1; omega
            have hz1 : w.heap.size ≠ G5 := by have := HG5.out.1; omega
            go_wp2_with fail
            have i5' := BlkI.set i5 k x
            rw [HSET.out] at i5'
            go_roundw
            case rel => exact ⟨k + 1, by omega, by go_num, HG, i5', i1.other (B' := G5) (j := k) hz1 _, i2.other (B' := G5) (j := k) hz2 _, hB.setCell (by exact HG5.out.2) _⟩
            case measure => simp [intOf]; omega
          · have hg' : gdS S k = false := by simpa using hg
            obtain ⟨r1, r2⟩ := bk_bad HE0.out k hlt hg'
            have HR1 := Lib.hid r1
            have HR2 := Lib.hid r2
            obtain ⟨s, hs⟩ : ∃ s, s = suS S k 12 := ⟨_, rfl⟩
            obtain ⟨a, b, c, d⟩ := s
            have hbad := gd_false hg' hs.symm
            rw [← hs] at i7 hsb
            have hx : -51539607552 ≤ a ∧ a ≤ 51539607552 := hsb.1
            have ht : a.tdiv 12 = a / 12 ∨ a.tdiv 12 = a / 12 + 1 := by
              rcases Int.le_total 0 a with h | h
              · left; exact Int.tdiv_eq_ediv_of_nonneg h
              · obtain ⟨m, rfl⟩ : ∃ m, a = -m := ⟨-a, by omega⟩
                rw [Int.neg_tdiv, Int.tdiv_eq_ediv_of_nonneg (by omega)]
                omega
            obtain ⟨q, hq⟩ : ∃ q, q = a.tdiv 12 := ⟨_, rfl⟩
            have e0 : IntKind.i64.wrap (a.tdiv 12) = q := by rw [← hq]; rw [← hq] at ht; exact IntWalk.i64_in _ (by omega)
            rw [← hq] at ht
            obtain ⟨y, hy⟩ : ∃ y, y = q * 12 := ⟨_, rfl⟩
            have e1 : IntKind.i64.wrap (q * 12) = y := by rw [hy]; exact IntWalk.i64_in _ (by omega)
            have hne := fun W => neqCyB a b c d y (fun ⟨h1, h2, h3, h4⟩ => hbad ⟨by omega, h2, h3, h4⟩) W
            clear hs hbad hsb hx ht hq hy hg hg' hgood r1 r2
            have b0 : wr.cell? ⟨G7, 0, none⟩ = some (.int .i64 a) := BlkI.cell (l := [a, b, c, d]) i7 (j := 0) (by simp)
            have b1 : wr.cell? ⟨G7, 1, none⟩ = some (.int .i64 b) := BlkI.cell (l := [a, b, c, d]) i7 (j := 1) (by simp)
            have b2 : wr.cell? ⟨G7, 2, none⟩ = some (.int .i64 c) := BlkI.cell (l := [a, b, c, d]) i7 (j := 2) (by simp)
            have b3 : wr.cell? ⟨G7, 3, none⟩ = some (.int .i64 d) := BlkI.cell (l := [a, b, c, d]) i7 (j := 3) (by simp)
            have hG5 := HG5.out
            clear i7 i5 i1
            go_wp2_with (refine wpList_storeA rfl _ _ _ rfl (w.heap.size + 1) zer12 zer12 rfl rfl i2 rfl Tryz.infoA12 ?_)
            have i9 := BlkI.setRowA i2 zer12
            have hld9 := Tryz.loadVar12 hz12 i9
            exact bodyPost_ret (v := .tuple #[.agg (ia zer12), .int .i64 1]) (results_cell_tmp (p := 2) (q := 3) rfl _ _ (w.heap.size + 1) _ rfl _ rfl hld9) rfl ⟨by rw [HR1.out, HR2.out], below_rowA hB (by omega) _⟩
    · obtain rfl : k = 12 := by omega
      obtain ⟨r1, r2⟩ := bk_pat HE0.out hgood.out
      have HR1 := Lib.hid r1
      have HR2 := Lib.hid r2
      rw [lvF_all S] at i5
      have hll : (upto (lvS S) 12).length = 12 := upto_length _ _
      generalize upto (lvS S) 12 = l at i5 HR1 HR2 hll
      clear r1 r2 hgood
      have TP := Lib.hid (fun W => checkPattern_any l W hll)
      have hld := load12 hll i5
      by_cases hp : patE l = 0
      · rw [hp] at TP
        have HR3 := Lib.hid (HR1.out.trans (if_pos hp))
        have HR4 := Lib.hid (HR2.out.trans (if_pos hp))
        clear hp
        go_wp2_with (refine wpList_load rfl _ _ rfl hld ?_)
        refine (TP.out wr).mono ?_
        rintro e W9 ⟨rfl, hb⟩
        clear hld
        replace i5 := i5.carry hb
        replace i2 := i2.carry hb
        replace hB := bthen hB hb
        clear hb
        have hld := load12 hll i5
        go_wp2_with (first | refine wpList_load rfl _ _ rfl hld ?_ | refine wpList_storeA rfl _ _ _ rfl (w.heap.size + 1) l (List.replicate 12 0) rfl rfl i2 (by rw [hll]; rfl) (by rw [hll]; exact Tryz.infoA12) ?_)
        have i9 := BlkI.setRowA i2 l
        have hld9 := Tryz.loadVar12 hll i9
        exact bodyPost_ret (v := .tuple #[.agg (ia l), .int .i64 0]) (results_cell_tmp (p := 2) (q := 3) rfl _ _ (w.heap.size + 1) _ rfl _ rfl hld9) rfl ⟨by rw [HR3.out, HR4.out], below_rowA hB (by omega) _⟩
      · have HR3 := Lib.hid (HR1.out.trans (if_neg hp))
        have HR4 := Lib.hid (HR2.out.trans (if_neg hp))
        obtain ⟨P, hP⟩ : ∃ P, P = patE l := ⟨_, rfl⟩
        rw [← hP] at hp TP
        have hz : (P != 0) = true := by rw [bne_iff_ne]; exact hp
        clear hp hP
        go_wp2_with (refine wpList_load rfl _ _ rfl hld ?_)
        refine (TP.out wr).mono ?_
        rintro e W9 ⟨rfl, hb⟩
        clear hld i5
        replace i2 := i2.carry hb
        replace hB := bthen hB hb
        clear hb
        go_wp2_with (refine wpList_storeA rfl _ _ _ rfl (w.heap.size + 1) zer12 zer12 rfl rfl i2 rfl Tryz.infoA12 ?_)
        have i9 := BlkI.setRowA i2 zer12
        have hld9 := Tryz.loadVar12 hz12 i9
        exact bodyPost_ret (v := .tuple #[.agg (ia zer12), .int .i64 1]) (results_cell_tmp (p := 2) (q := 3) rfl _ _ (w.heap.size + 1) _ rfl _ rfl hld9) rfl ⟨by rw [HR3.out, HR4.out], below_rowA hB (by omega) _⟩
end

section
set_option linter.unusedSimpArgs false
set_option linter.unusedVariables false
open Go.RowKit

theorem idx48R2 {l : List Int} (hl : l.length = 48) {k : Nat} (hk : k < 12) (w : World) : Sem.run Tryz.prog (Instr.index 26 (.agg (ia l)) (.int .i64 k)) w = .ok (.agg #[.int .i64 (l[k * 4]?.getD 0), .int .i64 (l[k * 4 + 1]?.getD 0), .int .i64 (l[k * 4 + 2]?.getD 0), .int .i64 (l[k * 4 + 3]?.getD 0)]) w := by
  obtain ⟨fs, hu⟩ := Tryz.undCyR
  obtain ⟨i, hi⟩ : ∃ i, Tryz.prog.info? 25 = some i := by
    cases h : Tryz.prog.info? 25 with
    | none => have := Tryz.infoCyR4; rw [h] at this; cases this
    | some i => exact ⟨i, rfl⟩
  have hs : i.size = 4 := by have := Tryz.infoCyR4; rw [hi] at this; simpa using this
  simp [Instr.index, asIntOf, run_underlying Tryz.undSpR, sizeOf, typeInfo, hi, hs]
  rw [if_pos hk]
  exact part4 Tryz.infoCyR4 hu l k (by omega) w
set_option maxRecDepth 100000 in
set_option maxHeartbeats 4000000 in
theorem numbers_any (S : List Int) (w : World) (hS : S.length = 48) :
    Calls Tryz.prog 7 #[.agg (ia S)] w fun e w' => e = .returned (.agg (ia S)) ∧ Below w.heap.size w w' := by
  have HL := Lib.hid hS
  go_enter Tryz.func7, Tryz.ntmps7
  go_upto_region 1 with fail
  obtain ⟨W1, hW1⟩ : ∃ v, v = World.alloc w (Obj.cells (ia S) 26) := ⟨_, rfl⟩
  have kW1 : Below w.heap.size w W1 := by rw [hW1]; exact below_new _ _
  have iW1 : BlkI W1 (w.heap.size) 26 S := by rw [hW1]; exact BlkI.new _ _ _
  have sW1 : W1.heap.size = w.heap.size + 1 := by rw [hW1]; simp
  rw [← hW1]
  clear hW1
  obtain ⟨W2, hW2⟩ : ∃ v, v = World.alloc W1 (Obj.cells #[.int .i64 0, .int .i64 0, .int .i64 0, .int .i64 0, .int .i64 0, .int .i64 0, .int .i64 0, .int .i64 0, .int .i64 0, .int .i64 0, .int .i64 0, .int .i64 0, .int .i64 0, .int .i64 0, .int .i64 0, .int .i64 0, .int .i64 0, .int .i64 0, .int .i64 0, .int .i64 0, .int .i64 0, .int .i64 0, .int .i64 0, .int .i64 0, .int .i64 0, .int .i64 0, .int .i64 0, .int .i64 0, .int .i64 0, .int .i64 0, .int .i64 0, .int .i64 0, .int .i64 0, .int .i64 0, .int .i64 0, .int .i64 0, .int .i64 0, .int .i64 0, .int .i64 0, .int .i64 0, .int .i64 0, .int .i64 0, .int .i64 0, .int .i64 0, .int .i64 0, .int .i64 0, .int .i64 0, .int .i64 0] 35) := ⟨_, rfl⟩
  have kW2 : Below W1.heap.size W1 W2 := by rw [hW2]; exact below_new _ _
  have iW2 : BlkI W2 (w.heap.size + 1) 35 (List.replicate 48 0) := by rw [hW2, ← sW1]; exact BlkI.new W1 35 (List.replicate 48 0)
  have sW2 : W2.heap.size = w.heap.size + 1 + 1 := by rw [hW2]; simp [sW1]
  rw [← hW2]
  clear hW2
  go_upto_region 2 with fail
  obtain ⟨W3, hW3⟩ : ∃ v, v = World.alloc W2 (Obj.cells #[.int .i64 0, .int .i64 0, .int .i64 0, .int .i64 0, .int .i64 0, .int .i64 0, .int .i64 0, .int .i64 0, .int .i64 0, .int .i64 0, .int .i64 0, .int .i64 0, .int .i64 0, .int .i64 0, .int .i64 0, .int .i64 0, .int .i64 0, .int .i64 0, .int .i64 0, .int .i64 0, .int .i64 0, .int .i64 0, .int .i64 0, .int .i64 0, .int .i64 0, .int .i64 0, .int .i64 0, .int .i64 0, .int .i64 0, .int .i64 0, .int .i64 0, .int .i64 0, .int .i64 0, .int .i64 0, .int .i64 0, .int .i64 0, .int .i64 0, .int .i64 0, .int .i64 0, .int .i64 0, .int .i64 0, .int .i64 0, .int .i64 0, .int .i64 0, .int .i64 0, .int .i64 0, .int .i64 0, .int .i64 0] 35) := ⟨_, rfl⟩
  have kW3 : Below W2.heap.size W2 W3 := by rw [hW3]; exact below_new _ _
  have iW3 : BlkI W3 (w.heap.size + 1 + 1) 35 (List.replicate 48 0) := by rw [hW3, ← sW2]; exact BlkI.new W2 35 (List.replicate 48 0)
  have sW3 : W3.heap.size = w.heap.size + 1 + 1 + 1 := by rw [hW3]; simp [sW2]
  rw [← hW3]
  clear hW3
  have i1 := (iW1.carry kW2).carry kW3
  have i2 := iW2.carry kW3
  have i3 : BlkI W3 (w.heap.size + 1 + 1) 35 (upto (bkF S 0) 48) := by
    have h := iW3
    rw [zeros_upto] at h
    exact h
  have hB := bthen kW1 (bthen kW2 kW3)
  clear iW1 iW2 iW3 kW1 kW2 kW3 sW1 sW2 sW3
  have hld := load48R hS i1
  go_wp2_with (refine wpList_load rfl _ _ rfl hld ?_)
  clear hld
  go_loopw [7] (fun i wr => ∃ k : Nat, k ≤ 12 ∧ i = .int .i64 k ∧ BlkI wr (w.heap.size + 1 + 1) 35 (upto (bkF S k) 48) ∧ BlkI wr (w.heap.size + 1) 35 (List.replicate 48 0) ∧ Below w.heap.size w wr) (fun i _ => 12 - (intOf i).toNat)
  case atStart => exact ⟨0, by omega, rfl, i3, i2, hB⟩
  case round =>
    clear i1 i2 i3 hB
    obtain ⟨k, hk, rfl, i3, i2, hB⟩ := hrel
    by_cases hlt : k < 12
    · have d1 : (k : Int) < 12 := by omega
      have hix := fun w => idx48R2 HL.out hlt w
      have hss := bk_set S k hlt
      generalize S[k * 4]?.getD 0 = x0 at hix hss
      generalize S[k * 4 + 1]?.getD 0 = x1 at hix hss
      generalize S[k * 4 + 2]?.getD 0 = x2 at hix hss
      generalize S[k * 4 + 3]?.getD 0 = x3 at hix hss
      obtain ⟨L, hL⟩ : ∃ L, L = upto (bkF S k) 48 := ⟨_, rfl⟩
      have hLl : L.length = 48 := by rw [hL]; exact upto_length _ _
      rw [← hL] at i3 hss
      have HSS := Lib.hid hss
      clear hL hss
      go_upto_region 5 with fail
      obtain ⟨W6, hW6⟩ : ∃ v, v = World.alloc wr (Obj.cells #[.int .i64 x0, .int .i64 x1, .int .i64 x2, .int .i64 x3] 25) := ⟨_, rfl⟩
      have kW6 : Below wr.heap.size wr W6 := by rw [hW6]; exact below_new _ _
      have iW6 : Blk W6 (wr.heap.size) 25 [.int .i64 x0, .int .i64 x1, .int .i64 x2, .int .i64 x3] := by rw [hW6]; exact Blk.new _ _ _
      have sW6 : W6.heap.size = wr.heap.size + 1 := by rw [hW6]; simp
      rw [← hW6]
      clear hW6
      replace i2 := i2.carry kW6
      replace i3 := i3.carry kW6
      replace hB := bthen hB kW6
      have a0 := iW6.cell (j := 0) (v := .int .i64 x0) rfl
      have a1 := iW6.cell (j := 1) (v := .int .i64 x1) rfl
      have a2 := iW6.cell (j := 2) (v := .int .i64 x2) rfl
      have a3 := iW6.cell (j := 3) (v := .int .i64 x3) rfl
      have c0 := BlkI.cell (l := L) i3 (j := k * 4) (by omega)
      have c1 := BlkI.cell (l := L) i3 (j := k * 4 + 1) (by omega)
      have c2 := BlkI.cell (l := L) i3 (j := k * 4 + 2) (by omega)
      have c3 := BlkI.cell (l := L) i3 (j := k * 4 + 3) (by omega)
      have f0 := i3.frozen (k * 4)
      have f1 := i3.frozen (k * 4 + 1)
      have f2 := i3.frozen (k * 4 + 2)
      have f3 := i3.frozen (k * 4 + 3)
      clear iW6 kW6 sW6
      go_wp2_with fail
      have i5 := (((BlkI.set (l := L) i3 (k * 4) x0).set (k * 4 + 1) x1).set (k * 4 + 2) x2).set (k * 4 + 3) x3
      rw [HSS.out] at i5
      go_roundw
      case rel => exact ⟨k + 1, by omega, by go_num, i5, (((i2.other (by omega) _).other (by omega) _).other (by omega) _).other (by omega) _, (((hB.setCell (by simp; omega) _).setCell (by simp; omega) _).setCell (by simp; omega) _).setCell (by simp; omega) _⟩
      case measure => simp [intOf]; omega
    · obtain rfl : k = 12 := by omega
      rw [bk_all HL.out] at i3
      have hld := load48 HL.out i3
      clear i3
      go_wp2_with (first | refine wpList_load rfl _ _ rfl hld ?_ | refine wpList_storeA rfl _ _ _ rfl (w.heap.size + 1) S (List.replicate 48 0) rfl rfl i2 (by rw [HL.out]; rfl) (by rw [HL.out]; exact Tryz.infoSp) ?_)
      have i9 := BlkI.setRowA i2 S
      have hld := Tryz.loadVar48 HL.out i9
      exact bodyPost_ret (v := .agg (ia S)) (results_cellA (p := 2) rfl _ _ (w.heap.size + 1) _ rfl hld) rfl ⟨rfl, below_rowA hB (by omega) _⟩
theorem firstE_at : ∀ (m : List Int) (k : Nat), k < m.length → (∀ j, j < k → m[j]?.getD 0 = 0) → m[k]?.getD 0 ≠ 0 → firstE m = m[k]?.getD 0
  | [], k, h, _, _ => by simp at h
  | x :: m, 0, _, _, h => by
    unfold firstE
    rw [if_neg (by simpa using h)]
    rfl
  | x :: m, k + 1, h, hg, hb => by
    have hx : x = 0 := by simpa using hg 0 (by omega)
    unfold firstE
    rw [if_pos hx]
    have := firstE_at m k (by simpa using h) (fun j hj => by simpa using hg (j + 1) (by omega)) (by simpa using hb)
    simpa using this
theorem firstE_zero : ∀ (m : List Int), (∀ j, j < m.length → m[j]?.getD 0 = 0) → firstE m = 0
  | [], _ => rfl
  | x :: m, h => by
    have hx : x = 0 := by simpa using h 0 (by simp)
    unfold firstE
    rw [if_pos hx]
    exact firstE_zero m fun j hj => by simpa using h (j + 1) (by simpa using hj)
theorem spc_at (S : List Int) (k : Nat) (hk : k < 12) : ((upto (xAt S) 12).map cycX)[k]?.getD 0 = cycX (xAt S k) := by
  rw [List.getElem?_map, upto_get, if_pos hk]; rfl
theorem spc_bad {S : List Int} (k : Nat) (hk : k < 12) (hg : ∀ j, j < k → cycX (xAt S j) = 0) (hb : cycX (xAt S k) ≠ 0) : spcE S = cycX (xAt S k) := by
  unfold spcE
  rw [firstE_at _ k (by rw [List.length_map, upto_length]; exact hk) (fun j hj => by rw [spc_at S j (by omega)]; exact hg j hj) (by rw [spc_at S k hk]; exact hb), spc_at S k hk]
theorem spc_good {S : List Int} (hg : ∀ j, j < 12 → cycX (xAt S j) = 0) : spcE S = 0 :=
  firstE_zero _ fun j hj => by
    rw [List.length_map, upto_length] at hj
    rw [spc_at S j hj]
    exact hg j hj
set_option maxRecDepth 100000 in
set_option maxHeartbeats 4000000 in
theorem CheckSpectrumR_any (S : List Int) (w : World) (hS : S.length = 48) :
    Calls Tryz.prog 10 #[.agg (ia S)] w fun e w' => e = .returned (.int .i64 (spcE S)) ∧ Below w.heap.size w w' := by
  have HL := Lib.hid hS
  go_enter Tryz.func10, Tryz.ntmps10
  go_upto_region 1 with fail
  obtain ⟨W1, hW1⟩ : ∃ v, v = World.alloc w (Obj.cells (ia S) 26) := ⟨_, rfl⟩
  have kW1 : Below w.heap.size w W1 := by rw [hW1]; exact below_new _ _
  have iW1 : BlkI W1 (w.heap.size) 26 S := by rw [hW1]; exact BlkI.new _ _ _
  have sW1 : W1.heap.size = w.heap.size + 1 := by rw [hW1]; simp
  rw [← hW1]
  clear hW1
  have i1 := iW1
  have hB := kW1
  clear iW1 kW1 sW1 hS
  go_wp2_with fail
  go_loopw [3] (fun i wr => ∃ k : Nat, k ≤ 12 ∧ i = .int .i64 k ∧ Hid (∀ j, j < k → cycX (xAt S j) = 0) ∧ BlkI wr w.heap.size 26 S ∧ Below w.heap.size w wr) (fun i _ => 12 - (intOf i).toNat)
  case atStart => exact ⟨0, by omega, rfl, Lib.hid (fun j hj => by omega), i1, hB⟩
  case round =>
    clear i1 hB
    obtain ⟨k, hk, rfl, hgood, i1, hB⟩ := hrel
    by_cases hlt : k < 12
    · have d1 : (k : Int) < 12 := by omega
      have c0 := BlkI.cell (l := S) i1 (j := k * 4) (by rw [HL.out]; omega)
      have c1 := BlkI.cell (l := S) i1 (j := k * 4 + 1) (by rw [HL.out]; omega)
      have c2 := BlkI.cell (l := S) i1 (j := k * 4 + 2) (by rw [HL.out]; omega)
      have c3 := BlkI.cell (l := S) i1 (j := k * 4 + 3) (by rw [HL.out]; omega)
      have hx : cycX (xAt S k) = cycE (S[k * 4]?.getD 0) (S[k * 4 + 1]?.getD 0) (S[k * 4 + 2]?.getD 0) (S[k * 4 + 3]?.getD 0) := rfl
      generalize S[k * 4]?.getD 0 = x0 at c0 hx
      generalize S[k * 4 + 1]?.getD 0 = x1 at c1 hx
      generalize S[k * 4 + 2]?.getD 0 = x2 at c2 hx
      generalize S[k * 4 + 3]?.getD 0 = x3 at c3 hx
      have TC := Lib.hid (fun W => CheckCycloR_any x0 x1 x2 x3 W)
      rw [← hx] at TC
      clear hx
      by_cases h0 : cycX (xAt S k) = 0
      · have HG := Lib.hid (show ∀ j, j < k + 1 → cycX (xAt S j) = 0 from fun j hj => by
          by_cases e : j = k
          · rw [e]; exact h0
          · exact hgood.out j (by omega))
        rw [h0] at TC
        clear h0 hgood
        go_wp2_with fail
        refine (TC.out wr).mono ?_
        rintro e w5 ⟨rfl, hb5⟩
        replace i1 := i1.carry hb5
        replace hB := bthen hB hb5
        clear hb5 c0 c1 c2 c3
        go_wp2_with fail
        go_roundw
        case rel => exact ⟨k + 1, by omega, by go_num, HG, i1, hB⟩
        case measure => simp [intOf]; omega
      · have HR := Lib.hid (show spcE S = cycX (xAt S k) from spc_bad k hlt hgood.out h0)
        generalize cycX (xAt S k) = E at TC h0 HR
        have hz : (E != 0) = true := by rw [bne_iff_ne]; exact h0
        clear hgood h0
        go_wp2_with fail
        refine (TC.out wr).mono ?_
        rintro e w5 ⟨rfl, hb5⟩
        replace hB := bthen hB hb5
        clear hb5 c0 c1 c2 c3 i1
        go_wp2
        go_ret
        exact ⟨by rw [HR.out]; rfl, hB⟩
    · obtain rfl : k = 12 := by omega
      have HR := Lib.hid (show spcE S = 0 from spc_good hgood.out)
      go_wp2
      go_ret
      exact ⟨by rw [HR.out]; rfl, hB⟩

theorem neqCyRE (a b : Int) (h : a = b) (W : World) : Sem.run Tryz.prog (binOp .neq 25 (.agg #[.int .i64 a, .int .i64 0, .int .i64 0, .int .i64 0]) (.agg #[.int .i64 b, .int .i64 0, .int .i64 0, .int .i64 0])) W = .ok (.bool false) W := by
  subst h
  go_simp
theorem neqCyRB (a b c d L : Int) (h : ¬ (a = L ∧ b = 0 ∧ c = 0 ∧ d = 0)) (W : World) : Sem.run Tryz.prog (binOp .neq 25 (.agg #[.int .i64 a, .int .i64 b, .int .i64 c, .int .i64 d]) (.agg #[.int .i64 L, .int .i64 0, .int .i64 0, .int .i64 0])) W = .ok (.bool true) W := by
  go_simp
  intro h1 h2 h3 h4
  exact h ⟨h1, h2, h3, h4⟩
/-- the order of the reference: the first wrong number ends it. -/
def upS (S : List Int) (n : Nat) : Bool := gdS S n && decide (-100 ≤ lvS S n ∧ lvS S n ≤ 100)
theorem bak_bad {S : List Int} (n : Nat) (hn : n < 12) (h : upS S n = false) : bakE S = 1 ∧ bakP S = zer12 := by
  have ho : okS S ≠ true := fun e => by
    unfold okS at e
    rw [List.all_eq_true] at e
    have := e n (List.mem_range.2 hn)
    unfold upS at h
    rw [h] at this
    cases this
  unfold bakE bakP
  rw [if_neg ho, if_neg ho]
  exact ⟨rfl, rfl⟩
theorem bak_good {S : List Int} (h : ∀ j, j < 12 → upS S j = true) : bakE S = 0 ∧ bakP S = upto (lvS S) 12 := by
  have ho : okS S = true := by
    unfold okS
    rw [List.all_eq_true]
    intro k hk
    exact h k (List.mem_range.1 hk)
  unfold bakE bakP
  rw [if_pos ho, if_pos ho]
  exact ⟨rfl, rfl⟩
set_option maxRecDepth 100000 in
set_option maxHeartbeats 8000000 in
theorem BackR_w (S : List Int) (w : World) (hSl : S.length = 48) (hsm : SmS S) :
    Calls Tryz.prog 11 #[.agg (ia S)] w fun e w' => e = .returned (.tuple #[.agg (ia (bakP S)), .int .i64 (bakE S)]) ∧ Below w.heap.size w w' := by
  have HSL := Lib.hid hSl
  have HSM := Lib.hid hsm
  have hz12 : zer12.length = 12 := rfl
  clear hSl hsm
  go_enter Tryz.func11, Tryz.ntmps11
  go_upto_region 2 with fail
  obtain ⟨W1, hW1⟩ : ∃ v, v = World.alloc w (Obj.cells (ia S) 26) := ⟨_, rfl⟩
  have kW1 : Below w.heap.size w W1 := by rw [hW1]; exact below_new _ _
  have iW1 : BlkI W1 (w.heap.size) 26 S := by rw [hW1]; exact BlkI.new _ _ _
  have sW1 : W1.heap.size = w.heap.size + 1 := by rw [hW1]; simp
  rw [← hW1]
  clear hW1
  obtain ⟨W2, hW2⟩ : ∃ v, v = World.alloc W1 (Obj.cells #[.int .i64 0, .int .i64 0, .int .i64 0, .int .i64 0, .int .i64 0, .int .i64 0, .int .i64 0, .int .i64 0, .int .i64 0, .int .i64 0, .int .i64 0, .int .i64 0] 30) := ⟨_, rfl⟩
  have kW2 : Below W1.heap.size W1 W2 := by rw [hW2]; exact below_new _ _
  have iW2 : BlkI W2 (w.heap.size + 1) 30 (List.replicate 12 0) := by rw [hW2, ← sW1]; exact BlkI.new W1 30 (List.replicate 12 0)
  have sW2 : W2.heap.size = w.heap.size + 1 + 1 := by rw [hW2]; simp [sW1]
  rw [← hW2]
  clear hW2
  obtain ⟨W3, hW3⟩ : ∃ v, v = World.alloc W2 (Obj.cells #[.int .i64 0, .int .i64 0, .int .i64 0, .int .i64 0, .int .i64 0, .int .i64 0, .int .i64 0, .int .i64 0, .int .i64 0, .int .i64 0, .int .i64 0, .int .i64 0] 30) := ⟨_, rfl⟩
  have kW3 : Below W2.heap.size W2 W3 := by rw [hW3]; exact below_new _ _
  have iW3 : BlkI W3 (w.heap.size + 1 + 1) 30 (List.replicate 12 0) := by rw [hW3, ← sW2]; exact BlkI.new W2 30 (List.replicate 12 0)
  have sW3 : W3.heap.size = w.heap.size + 1 + 1 + 1 := by rw [hW3]; simp [sW2]
  rw [← hW3]
  clear hW3
  have i1 : BlkI W3 w.heap.size 26 S := (iW1.carry kW2).carry kW3
  have i2 : BlkI W3 (w.heap.size + 1) 30 (List.replicate 12 0) := iW2.carry kW3
  have i5 := iW3
  rw [lvF_zero S] at i5
  have hB := bthen kW1 (bthen kW2 kW3)
  clear kW1 kW2 kW3 sW1 sW2 sW3 iW1 iW2 iW3
  obtain ⟨G5, hG⟩ : ∃ G, G = w.heap.size + 1 + 1 := ⟨_, rfl⟩
  rw [← hG] at i5 ⊢
  have HG5 := Lib.hid (show w.heap.size + 1 < G5 ∧ w.heap.size ≤ G5 by omega)
  clear hG
  go_wp2_with fail
  go_loopw [5] (fun i wr => ∃ k : Nat, k ≤ 12 ∧ i = .int .i64 k ∧ Hid (∀ j, j < k → upS S j = true) ∧ BlkI wr G5 30 (upto (lvF S k) 12) ∧ BlkI wr w.heap.size 26 S ∧ BlkI wr (w.heap.size + 1) 30 (List.replicate 12 0) ∧ Below w.heap.size w wr) (fun i _ => 12 - (intOf i).toNat)
  case atStart => exact ⟨0, by omega, rfl, Lib.hid (fun j hj => by omega), i5, i1, i2, hB⟩
  case round =>
    clear i5 i1 i2 hB
    obtain ⟨k, hk, rfl, hgood, i5, i1, i2, hB⟩ := hrel
    by_cases hlt : k < 12
    · have d1 : (k : Int) < 12 := by omega
      go_upto_region 6 with fail
      obtain ⟨X1, hX1⟩ : ∃ v, v = World.alloc wr (Obj.cells #[.int .i64 0, .int .i64 0, .int .i64 0, .int .i64 0] 25) := ⟨_, rfl⟩
      have kX1 : Below wr.heap.size wr X1 := by rw [hX1]; exact below_new _ _
      have iX1 : BlkI X1 (wr.heap.size) 25 (List.replicate 4 0) := by rw [hX1]; exact BlkI.new wr 25 (List.replicate 4 0)
      have sX1 : X1.heap.size = wr.heap.size + 1 := by rw [hX1]; simp
      rw [← hX1]
      clear hX1
      have hg7 : G5 < wr.heap.size := Blk.lt i5
      have hg8 : w.heap.size + 1 < wr.heap.size := Blk.lt i2
      replace i1 := i1.carry kX1
      replace i2 := i2.carry kX1
      replace i5 := i5.carry kX1
      replace hB := bthen hB kX1
      have i7 : BlkI X1 wr.heap.size 25 (cyI (suS S k 0)) := iX1
      obtain ⟨G7, hG⟩ : ∃ G, G = wr.heap.size := ⟨_, rfl⟩
      rw [← hG] at i7 hg7 hg8 ⊢
      clear kX1 iX1 sX1 hG
      have HG7 := Lib.hid (And.intro hg7 hg8)
      clear hg7 hg8
      go_wp2_with fail
      go_loopw [7] (fun i wr2 => ∃ h : Nat, h ≤ 12 ∧ i = .int .i64 h ∧ BlkI wr2 G7 25 (cyI (suS S k h)) ∧ BlkI wr2 G5 30 (upto (lvF S k) 12) ∧ BlkI wr2 w.heap.size 26 S ∧ BlkI wr2 (w.heap.size + 1) 30 (List.replicate 12 0) ∧ Below w.heap.size w wr2) (fun i _ => 12 - (intOf i).toNat)
      case atStart => exact ⟨0, by omega, rfl, i7, i5, i1, i2, hB⟩
      case round =>
        clear i7 i5 i1 i2 hB
        obtain ⟨h, hh, rfl, i7, i5, i1, i2, hB⟩ := hrel
        by_cases hlh : h < 12
        · have d2 : (h : Int) < 12 := by omega
          have hbs : suS S k (h + 1) = cyAdd (suS S k h) (tuS S k h) := rfl
          have hHK : wrap64 ((h : Int) * (k : Int)) = (h : Int) * (k : Int) := by
            refine wrapIn ?_
            have h1 : (0 : Int) ≤ (h : Int) * (k : Int) := Int.mul_nonneg (by omega) (by omega)
            have h2 : (h : Int) * (k : Int) ≤ 12 * 12 := Int.mul_le_mul (by omega) (by omega) (by omega) (by omega)
            omega
          have hKb : (0 : Int) ≤ (h : Int) * (k : Int) ∧ (h : Int) * (k : Int) ≤ 144 := by
            have h2 : (h : Int) * (k : Int) ≤ 12 * 12 := Int.mul_le_mul (by omega) (by omega) (by omega) (by omega)
            exact ⟨Int.mul_nonneg (by omega) (by omega), by omega⟩
          have hbt : tuS S k h = rotC (mod12 ((h : Int) * (k : Int))) (S[h * 4]?.getD 0, S[h * 4 + 1]?.getD 0, S[h * 4 + 2]?.getD 0, S[h * 4 + 3]?.getD 0) := by
            unfold tuS
            rw [turn_rot (HSM.out h hlh) _ (mod12_lt _), hHK]; rfl
          have c0 := BlkI.cell (l := S) i1 (j := h * 4) (by rw [HSL.out]; omega)
          have c1 := BlkI.cell (l := S) i1 (j := h * 4 + 1) (by rw [HSL.out]; omega)
          have c2 := BlkI.cell (l := S) i1 (j := h * 4 + 2) (by rw [HSL.out]; omega)
          have c3 := BlkI.cell (l := S) i1 (j := h * 4 + 3) (by rw [HSL.out]; omega)
          generalize S[h * 4]?.getD 0 = o0 at c0 hbt
          generalize S[h * 4 + 1]?.getD 0 = o1 at c1 hbt
          generalize S[h * 4 + 2]?.getD 0 = o2 at c2 hbt
          generalize S[h * 4 + 3]?.getD 0 = o3 at c3 hbt
          obtain ⟨HK, hHKd⟩ : ∃ x, x = (h : Int) * (k : Int) := ⟨_, rfl⟩
          have e0 : IntKind.i64.wrap ((h : Int) * (k : Int)) = HK := by rw [wrapEq, hHK, hHKd]
          rw [← hHKd] at hbt hKb
          have TT := Lib.hid (fun W => TurnedR_any o0 o1 o2 o3 HK (mod12 HK) W (by omega) (mod12_mod HK).symm)
          rw [← hbt] at TT
          generalize tuS S k h = tt at TT hbs
          obtain ⟨t0, t1, t2, t3⟩ := tt
          simp only [cyV] at TT
          generalize suS S k h = ss at i7 hbs
          obtain ⟨s0, s1, s2, s3⟩ := ss
          have TPl := Lib.hid (fun W => plusCR_any s0 s1 s2 s3 t0 t1 t2 t3 W)
          simp only [cyAdd] at hbs
          generalize wrap64 (s0 + t0) = n0 at TPl hbs
          generalize wrap64 (s1 + t1) = n1 at TPl hbs
          generalize wrap64 (s2 + t2) = n2 at TPl hbs
          generalize wrap64 (s3 + t3) = n3 at TPl hbs
          have HBSS := Lib.hid hbs
          clear hbs hbt hHK hHKd hKb
          have i7' : BlkI wr G7 25 [s0, s1, s2, s3] := i7
          have b0 : wr.cell? ⟨G7, 0, none⟩ = some (.int .i64 s0) := BlkI.cell i7' (j := 0) (by simp)
          have b1 : wr.cell? ⟨G7, 1, none⟩ = some (.int .i64 s1) := BlkI.cell i7' (j := 1) (by simp)
          have b2 : wr.cell? ⟨G7, 2, none⟩ = some (.int .i64 s2) := BlkI.cell i7' (j := 2) (by simp)
          have b3 : wr.cell? ⟨G7, 3, none⟩ = some (.int .i64 s3) := BlkI.cell i7' (j := 3) (by simp)
          obtain ⟨hg7, hg8⟩ := HG7.out
          have hG5 := HG5.out
          clear i7
          go_upto_region 9 with fail
          refine wp_region_E 9 (by kernel_rfl) ?_
          obtain ⟨wz, hwz⟩ : ∃ v, v = wr.drew := ⟨_, rfl⟩
          rw [← hwz]
          have hlz : Below wr.heap.size wr wz := by rw [hwz]; exact (Below.refl _ _).drew
          have hbz := bthen hB hlz
          have c0 := cellb c0 hlz
          have c1 := cellb c1 hlz
          have c2 := cellb c2 hlz
          have c3 := cellb c3 hlz
          have b0 := cellb b0 hlz
          have b1 := cellb b1 hlz
          have b2 := cellb b2 hlz
          have b3 := cellb b3 hlz
          have i1 := i1.carry hlz
          have i2 := i2.carry hlz
          have i5 := i5.carry hlz
          have i7' := i7'.carry hlz
          clear hwz hlz
          refine wpAnyE_take (i := 0) (oi := { dst := some 16, op := Op.load 25 (Operand.tmp 6), type := 25, pos := "ref.go:163", after := #[], guard := none }) (v := ?_) rfl (by kernel_rfl) (by kernel_rfl) (by kernel_rfl) (by kernel_rfl) (fun _ _ _ h => h) (Or.inl ⟨by rfl, ?_⟩) ?_
          rotate_left
          · (intro w hE; have c0 := cellb c0 hE; have c1 := cellb c1 hE; have c2 := cellb c2 hE; have c3 := cellb c3 hE; have b0 := cellb b0 hE; have b1 := cellb b1 hE; have b2 := cellb b2 hE; have b3 := cellb b3 hE; (try dsimp only); go_simp); (try with_reducible rfl)
          try simp only [Act.put, List.setIfInBounds_toArray, List.set_cons_zero, List.set_cons_succ]
          refine wpAnyE_take (i := 1) (oi := { dst := some 17, op := Op.move (Operand.tmp 7), type := 3, pos := "ref.go:163", after := #[], guard := none }) (v := ?_) rfl (by kernel_rfl) (by kernel_rfl) (by kernel_rfl) (by kernel_rfl) (fun _ _ _ h => h) (Or.inl ⟨by rfl, ?_⟩) ?_
          rotate_left
          · (intro w hE; have c0 := cellb c0 hE; have c1 := cellb c1 hE; have c2 := cellb c2 hE; have c3 := cellb c3 hE; have b0 := cellb b0 hE; have b1 := cellb b1 hE; have b2 := cellb b2 hE; have b3 := cellb b3 hE; (try dsimp only); go_simp); (try with_reducible rfl)
          try simp only [Act.put, List.setIfInBounds_toArray, List.set_cons_zero, List.set_cons_succ]
          refine wpAnyE_take (i := 2) (oi := { dst := some 18, op := Op.indexAddr 26 (Operand.tmp 1) (Operand.tmp 17), type := 0, pos := "ref.go:163", after := #[{ on := 1, ground := Ground.data }], guard := none }) (v := ?_) rfl (by kernel_rfl) (by kernel_rfl) (by kernel_rfl) (by kernel_rfl) (fun _ _ _ h => h) (Or.inl ⟨by rfl, ?_⟩) ?_
          rotate_left
          · (intro w hE; have c0 := cellb c0 hE; have c1 := cellb c1 hE; have c2 := cellb c2 hE; have c3 := cellb c3 hE; have b0 := cellb b0 hE; have b1 := cellb b1 hE; have b2 := cellb b2 hE; have b3 := cellb b3 hE; (try dsimp only); go_simp); (try with_reducible rfl)
          try simp only [Act.put, List.setIfInBounds_toArray, List.set_cons_zero, List.set_cons_succ]
          refine wpAnyE_take (i := 3) (oi := { dst := some 19, op := Op.load 25 (Operand.tmp 18), type := 25, pos := "ref.go:163", after := #[{ on := 2, ground := Ground.data }], guard := none }) (v := ?_) rfl (by kernel_rfl) (by kernel_rfl) (by kernel_rfl) (by kernel_rfl) (fun _ _ _ h => h) (Or.inl ⟨by rfl, ?_⟩) ?_
          rotate_left
          · (intro w hE; have c0 := cellb c0 hE; have c1 := cellb c1 hE; have c2 := cellb c2 hE; have c3 := cellb c3 hE; have b0 := cellb b0 hE; have b1 := cellb b1 hE; have b2 := cellb b2 hE; have b3 := cellb b3 hE; (try dsimp only); go_simp); (try with_reducible rfl)
          try simp only [Act.put, List.setIfInBounds_toArray, List.set_cons_zero, List.set_cons_succ]
          refine wpAnyE_take (i := 4) (oi := { dst := some 20, op := Op.move (Operand.tmp 7), type := 3, pos := "ref.go:163", after := #[], guard := none }) (v := ?_) rfl (by kernel_rfl) (by kernel_rfl) (by kernel_rfl) (by kernel_rfl) (fun _ _ _ h => h) (Or.inl ⟨by rfl, ?_⟩) ?_
          rotate_left
          · (intro w hE; have c0 := cellb c0 hE; have c1 := cellb c1 hE; have c2 := cellb c2 hE; have c3 := cellb c3 hE; have b0 := cellb b0 hE; have b1 := cellb b1 hE; have b2 := cellb b2 hE; have b3 := cellb b3 hE; (try dsimp only); go_simp); (try with_reducible rfl)
          try simp only [Act.put, List.setIfInBounds_toArray, List.set_cons_zero, List.set_cons_succ]
          refine wpAnyE_take (i := 5) (oi := { dst := some 21, op := Op.move (Operand.tmp 5), type := 3, pos := "ref.go:163", after := #[], guard := none }) (v := ?_) rfl (by kernel_rfl) (by kernel_rfl) (by kernel_rfl) (by kernel_rfl) (fun _ _ _ h => h) (Or.inl ⟨by rfl, ?_⟩) ?_
          rotate_left
          · (intro w hE; have c0 := cellb c0 hE; have c1 := cellb c1 hE; have c2 := cellb c2 hE; have c3 := cellb c3 hE; have b0 := cellb b0 hE; have b1 := cellb b1 hE; have b2 := cellb b2 hE; have b3 := cellb b3 hE; (try dsimp only); go_simp); (try with_reducible rfl)
          try simp only [Act.put, List.setIfInBounds_toArray, List.set_cons_zero, List.set_cons_succ]
          refine wpAnyE_take (i := 6) (oi := { dst := some 22, op := Op.binOp BinOp.mul 3 (Operand.tmp 20) (Operand.tmp 21) 3, type := 3, pos := "ref.go:163", after := #[{ on := 4, ground := Ground.data }, { on := 5, ground := Ground.data }], guard := none }) (v := ?_) rfl (by kernel_rfl) (by kernel_rfl) (by kernel_rfl) (by kernel_rfl) (fun _ _ _ h => h) (Or.inl ⟨by rfl, ?_⟩) ?_
          rotate_left
          · (intro w hE; have c0 := cellb c0 hE; have c1 := cellb c1 hE; have c2 := cellb c2 hE; have c3 := cellb c3 hE; have b0 := cellb b0 hE; have b1 := cellb b1 hE; have b2 := cellb b2 hE; have b3 := cellb b3 hE; (try dsimp only); go_simp); (try with_reducible rfl)
          try simp only [Act.put, List.setIfInBounds_toArray, List.set_cons_zero, List.set_cons_succ]
          refine wpAnyE_call (i := 7) (oi := { dst := some 23, op := Op.call { callee := Callee.value (Operand.func 48), args := #[Operand.tmp 19, Operand.tmp 22], argTypes := #[25, 3] }, type := 25, pos := "ref.go:163", after := #[{ on := 3, ground := Ground.data }, { on := 6, ground := Ground.data }], guard := none }) (fun w hE => TT.out w) rfl (by kernel_rfl) (by kernel_rfl) (by kernel_rfl) (by kernel_rfl) (fun _ _ _ h => h) (by rfl) (fun w hE => by (try dsimp only); go_simp) ?_
          try simp only [Act.put, List.setIfInBounds_toArray, List.set_cons_zero, List.set_cons_succ]
          refine wpAnyE_call (i := 8) (oi := { dst := some 24, op := Op.call { callee := Callee.value (Operand.func 47), args := #[Operand.tmp 16, Operand.tmp 23], argTypes := #[25, 25] }, type := 25, pos := "ref.go:163", after := #[{ on := 0, ground := Ground.data }, { on := 7, ground := Ground.data }, { on := 7, ground := Ground.chain }], guard := none }) (fun w hE => TPl.out w) rfl (by kernel_rfl) (by kernel_rfl) (by kernel_rfl) (by kernel_rfl) (fun _ _ _ h => h) (by rfl) (fun w hE => by (try dsimp only); go_simp) ?_
          try simp only [Act.put, List.setIfInBounds_toArray, List.set_cons_zero, List.set_cons_succ]
          refine wpAnyE_one (i := 9) (o := { dst := none, op := Op.store 25 (Operand.tmp 6) (Operand.tmp 24), type := 0, pos := "ref.go:163", after := #[{ on := 8, ground := Ground.data }, { on := 8, ground := Ground.chain }, { on := 0, ground := Ground.phase }, { on := 1, ground := Ground.phase }, { on := 2, ground := Ground.phase }, { on := 3, ground := Ground.phase }, { on := 4, ground := Ground.phase }, { on := 5, ground := Ground.phase }, { on := 6, ground := Ground.phase }, { on := 7, ground := Ground.phase }, { on := 8, ground := Ground.phase }], guard := none }) (by kernel_rfl) rfl (fun wy1 hE K hK => ?_)
          have c0 := cellb c0 hE
          have c1 := cellb c1 hE
          have c2 := cellb c2 hE
          have c3 := cellb c3 hE
          have b0 := cellb b0 hE
          have b1 := cellb b1 hE
          have b2 := cellb b2 hE
          have b3 := cellb b3 hE
          have i1 := i1.carry hE
          have i2 := i2.carry hE
          have i5 := i5.carry hE
          have i7' := i7'.carry hE
          have hbz1 := bthen hbz hE
          clear hE
          rw [if_pos (by rfl)]
          refine wp_storeA _ _ _ rfl G7 [n0, n1, n2, n3] [s0, s1, s2, s3] rfl rfl i7' rfl Tryz.infoCyR4 ?_
          obtain ⟨wx1, hwz⟩ : ∃ v, v = World.setRow wy1 G7 (ia [n0, n1, n2, n3]) := ⟨_, rfl⟩
          rw [← hwz]
          have hcz1 : Below w.heap.size w wx1 := by rw [hwz]; exact below_rowA hbz1 (by omega) _
          replace i7' := BlkI.setRowA i7' [n0, n1, n2, n3]
          rw [← hwz] at i7'
          replace i1 := BlkI.setRowO i1 (B' := G7) (by omega) (ia [n0, n1, n2, n3])
          rw [← hwz] at i1
          replace i2 := BlkI.setRowO i2 (B' := G7) (by omega) (ia [n0, n1, n2, n3])
          rw [← hwz] at i2
          replace i5 := BlkI.setRowO i5 (B' := G7) (by omega) (ia [n0, n1, n2, n3])
          rw [← hwz] at i5
          clear hwz
          refine hK _ _ (fun h => absurd rfl h) ?_
          clear hK K
          try simp only [Act.put, List.setIfInBounds_toArray, List.set_cons_zero, List.set_cons_succ]
          refine wpAnyE_done (by kernel_rfl) (fun wy2 hE => ?_) _
          have hbz2 := bthen hcz1 hE
          have i1 := i1.carry hE
          have i2 := i2.carry hE
          have i5 := i5.carry hE
          have i7' := i7'.carry hE
          clear hE
          have hB := hbz2
          obtain ⟨Y2, hY2⟩ : ∃ v, v = wy2 := ⟨_, rfl⟩
          rw [← hY2] at hB i1 i2 i5 i7' ⊢
          clear hY2
          clear e0 hg7 hg8 hG5
          go_wp2_with fail
          go_roundw
          case rel => exact ⟨h + 1, by omega, by go_num, by rw [HBSS.out]; exact i7', i5, i1, i2, hB⟩
          case measure => simp [intOf]; omega
        · obtain rfl : h = 12 := by omega
          have hsb := su_bd HSM.out k 12 (Nat.le_refl _)
          have hz2 : w.heap.size + 1 ≠ G5 := by have := HG5.out.1; omega
          have hz1 : w.heap.size ≠ G5 := by have := HG5.out.1; omega
          have hz7 : G7 ≠ G5 := by have := HG7.out.1; omega
          have c5 := BlkI.cell i5 (j := k) (by rw [upto_length]; exact hlt)
          have f5 := Blk.frozen i5 k
          by_cases hg : gdS S k = true
          · have hset := lvF_set S k hlt
            have hup : upS S k = decide (-100 ≤ lvS S k ∧ lvS S k ≤ 100) := by unfold upS; rw [hg, Bool.true_and]
            have HUP := Lib.hid hup
            rw [gd_true hg] at i7 hsb
            obtain ⟨x, hxd⟩ : ∃ x, x = lvS S k := ⟨_, rfl⟩
            rw [← hxd] at i7 hset hsb HUP
            have HXD := Lib.hid hxd
            have hx : -51539607552 ≤ 12 * x ∧ 12 * x ≤ 51539607552 := hsb.1
            obtain ⟨y, hy⟩ : ∃ y, y = 12 * x := ⟨_, rfl⟩
            rw [← hy] at i7
            have TF := Lib.hid (fun W => Floor12_any y W (by omega))
            rw [show y / 12 = x by omega] at TF
            have e1 : IntKind.i64.wrap (12 * x) = y := (IntWalk.i64_in _ (by omega)).trans hy.symm
            have hne := fun W => neqCyRE y y rfl W
            have HSET := Lib.hid hset
            clear hset hy hsb hup hxd
            have b0 : wr.cell? ⟨G7, 0, none⟩ = some (.int .i64 y) := BlkI.cell (l := [y, 0, 0, 0]) i7 (j := 0) (by simp)
            generalize (upto (lvF S k) 12)[k]?.getD 0 = old at c5
            go_wp2_with fail
            refine (TF.out wr).mono ?_
            rintro e w6 ⟨rfl, rfl⟩
            go_upto_region 11 with fail
            obtain ⟨Y2, hY2⟩ : ∃ v, v = wr.setCell ⟨G5, k, none⟩ (.int .i64 x) := ⟨_, rfl⟩
            have i5' := BlkI.set i5 k x
            rw [HSET.out] at i5'
            replace i1 := i1.other (B' := G5) (j := k) hz1 (.int .i64 x)
            replace i2 := i2.other (B' := G5) (j := k) hz2 (.int .i64 x)
            replace i7 := i7.other (B' := G5) (j := k) hz7 (.int .i64 x)
            replace hB : Below w.heap.size w (wr.setCell ⟨G5, k, none⟩ (.int .i64 x)) := hB.setCell (by exact HG5.out.2) _
            rw [← hY2] at i5' i1 i2 i7 hB ⊢
            clear hY2 i5 c5 f5 b0
            have b0 : Y2.cell? ⟨G7, 0, none⟩ = some (.int .i64 y) := BlkI.cell (l := [y, 0, 0, 0]) i7 (j := 0) (by simp)
            have b1 : Y2.cell? ⟨G7, 1, none⟩ = some (.int .i64 0) := BlkI.cell (l := [y, 0, 0, 0]) i7 (j := 1) (by simp)
            have b2 : Y2.cell? ⟨G7, 2, none⟩ = some (.int .i64 0) := BlkI.cell (l := [y, 0, 0, 0]) i7 (j := 2) (by simp)
            have b3 : Y2.cell? ⟨G7, 3, none⟩ = some (.int .i64 0) := BlkI.cell (l := [y, 0, 0, 0]) i7 (j := 3) (by simp)
            have c5 : Y2.cell? ⟨G5, k, none⟩ = some (.int .i64 x) := by
              have h9 := BlkI.cell i5' (j := k) (by rw [upto_length]; exact hlt)
              rw [upto_get, if_pos hlt] at h9
              have e9 : lvF S (k + 1) k = x := by unfold lvF; rw [if_pos (by omega)]; exact HXD.out.symm
              rw [Option.getD_some, e9] at h9
              exact h9
            have TR := Lib.hid (fun W => CheckRange_any x (-100) 100 W)
            by_cases hr : -100 ≤ x ∧ x ≤ 100
            · have HG := Lib.hid (show ∀ j, j < k + 1 → upS S j = true from fun j hj => by
                by_cases e : j = k
                · rw [e, HUP.out, decide_eq_true hr]
                · exact hgood.out j (by omega))
              rw [show withinE x (-100) 100 = 0 by unfold withinE; rw [if_neg (by omega)]] at TR
              clear hr hg hgood hx
              refine wp_region_E 99 (by kernel_rfl) ?_
              obtain ⟨wz, hwz⟩ : ∃ v, v = Y2.drew := ⟨_, rfl⟩
              rw [← hwz]
              have hlz : Below Y2.heap.size Y2 wz := by rw [hwz]; exact (Below.refl _ _).drew
              have hbz := bthen hB hlz
              have b0 := cellb b0 hlz
              have b1 := cellb b1 hlz
              have b2 := cellb b2 hlz
              have b3 := cellb b3 hlz
              have c5 := cellb c5 hlz
              have i1 := i1.carry hlz
              have i2 := i2.carry hlz
              have i5' := i5'.carry hlz
              clear hwz hlz
              refine wpAnyE_take (i := 0) (oi := { dst := some 31, op := Op.load 25 (Operand.tmp 6), type := 25, pos := "ref.go:166", after := #[], guard := none }) (v := ?_) rfl (by kernel_rfl) (by kernel_rfl) (by kernel_rfl) (by kernel_rfl) (fun _ _ _ h => h) (Or.inl ⟨by rfl, ?_⟩) ?_
              rotate_left
              · (intro w hE; have b0 := cellb b0 hE; have b1 := cellb b1 hE; have b2 := cellb b2 hE; have b3 := cellb b3 hE; have c5 := cellb c5 hE; (try dsimp only); go_simp); (try with_reducible rfl)
              try simp only [Act.put, List.setIfInBounds_toArray, List.set_cons_zero, List.set_cons_succ]
              refine wpAnyE_take (i := 1) (oi := { dst := some 32, op := Op.move (Operand.tmp 5), type := 3, pos := "ref.go:166", after := #[], guard := none }) (v := ?_) rfl (by kernel_rfl) (by kernel_rfl) (by kernel_rfl) (by kernel_rfl) (fun _ _ _ h => h) (Or.inl ⟨by rfl, ?_⟩) ?_
              rotate_left
              · (intro w hE; have b0 := cellb b0 hE; have b1 := cellb b1 hE; have b2 := cellb b2 hE; have b3 := cellb b3 hE; have c5 := cellb c5 hE; (try dsimp only); go_simp); (try with_reducible rfl)
              try simp only [Act.put, List.setIfInBounds_toArray, List.set_cons_zero, List.set_cons_succ]
              refine wpAnyE_take (i := 2) (oi := { dst := some 33, op := Op.indexAddr 30 (Operand.tmp 4) (Operand.tmp 32), type := 0, pos := "ref.go:166", after := #[{ on := 1, ground := Ground.data }], guard := none }) (v := ?_) rfl (by kernel_rfl) (by kernel_rfl) (by kernel_rfl) (by kernel_rfl) (fun _ _ _ h => h) (Or.inl ⟨by rfl, ?_⟩) ?_
              rotate_left
              · (intro w hE; have b0 := cellb b0 hE; have b1 := cellb b1 hE; have b2 := cellb b2 hE; have b3 := cellb b3 hE; have c5 := cellb c5 hE; (try dsimp only); go_simp); (try with_reducible rfl)
              try simp only [Act.put, List.setIfInBounds_toArray, List.set_cons_zero, List.set_cons_succ]
              refine wpAnyE_take (i := 3) (oi := { dst := some 34, op := Op.load 3 (Operand.tmp 33), type := 3, pos := "ref.go:166", after := #[{ on := 2, ground := Ground.data }], guard := none }) (v := ?_) rfl (by kernel_rfl) (by kernel_rfl) (by kernel_rfl) (by kernel_rfl) (fun _ _ _ h => h) (Or.inl ⟨by rfl, ?_⟩) ?_
              rotate_left
              · (intro w hE; have b0 := cellb b0 hE; have b1 := cellb b1 hE; have b2 := cellb b2 hE; have b3 := cellb b3 hE; have c5 := cellb c5 hE; (try dsimp only); go_simp); (try with_reducible rfl)
              try simp only [Act.put, List.setIfInBounds_toArray, List.set_cons_zero, List.set_cons_succ]
              refine wpAnyE_take (i := 4) (oi := { dst := some 35, op := Op.binOp BinOp.mul 3 (Operand.const (Value.int IntKind.i64 12)) (Operand.tmp 34) 3, type := 3, pos := "ref.go:166", after := #[{ on := 3, ground := Ground.data }], guard := none }) (v := ?_) rfl (by kernel_rfl) (by kernel_rfl) (by kernel_rfl) (by kernel_rfl) (fun _ _ _ h => h) (Or.inl ⟨by rfl, ?_⟩) ?_
              rotate_left
              · (intro w hE; have b0 := cellb b0 hE; have b1 := cellb b1 hE; have b2 := cellb b2 hE; have b3 := cellb b3 hE; have c5 := cellb c5 hE; (try dsimp only); go_simp); (try with_reducible rfl)
              try simp only [Act.put, List.setIfInBounds_toArray, List.set_cons_zero, List.set_cons_succ]
              refine wpAnyE_take (i := 5) (oi := { dst := some 36, op := Op.build 23 #[(0, Operand.tmp 35)], type := 23, pos := "ref.go:166", after := #[{ on := 4, ground := Ground.data }], guard := none }) (v := ?_) rfl (by kernel_rfl) (by kernel_rfl) (by kernel_rfl) (by kernel_rfl) (fun _ _ _ h => h) (Or.inl ⟨by rfl, ?_⟩) ?_
              rotate_left
              · (intro w hE; have b0 := cellb b0 hE; have b1 := cellb b1 hE; have b2 := cellb b2 hE; have b3 := cellb b3 hE; have c5 := cellb c5 hE; (try dsimp only); go_simp); (try with_reducible rfl)
              try simp only [Act.put, List.setIfInBounds_toArray, List.set_cons_zero, List.set_cons_succ]
              refine wpAnyE_take (i := 6) (oi := { dst := some 37, op := Op.build 25 #[(0, Operand.tmp 36)], type := 25, pos := "ref.go:166", after := #[{ on := 5, ground := Ground.data }], guard := none }) (v := ?_) rfl (by kernel_rfl) (by kernel_rfl) (by kernel_rfl) (by kernel_rfl) (fun _ _ _ h => h) (Or.inl ⟨by rfl, ?_⟩) ?_
              rotate_left
              · (intro w hE; have b0 := cellb b0 hE; have b1 := cellb b1 hE; have b2 := cellb b2 hE; have b3 := cellb b3 hE; have c5 := cellb c5 hE; (try dsimp only); go_simp); (try with_reducible rfl)
              try simp only [Act.put, List.setIfInBounds_toArray, List.set_cons_zero, List.set_cons_succ]
              refine wpAnyE_take (i := 7) (oi := { dst := some 38, op := Op.binOp BinOp.neq 25 (Operand.tmp 31) (Operand.tmp 37) 25, type := 4, pos := "ref.go:166", after := #[{ on := 0, ground := Ground.data }, { on := 6, ground := Ground.data }], guard := none }) (v := ?_) rfl (by kernel_rfl) (by kernel_rfl) (by kernel_rfl) (by kernel_rfl) (fun _ _ _ h => h) (Or.inl ⟨by rfl, ?_⟩) ?_
              rotate_left
              · (intro w hE; have b0 := cellb b0 hE; have b1 := cellb b1 hE; have b2 := cellb b2 hE; have b3 := cellb b3 hE; have c5 := cellb c5 hE; (try dsimp only); go_simp); (try with_reducible rfl)
              try simp only [Act.put, List.setIfInBounds_toArray, List.set_cons_zero, List.set_cons_succ]
              refine wpAnyE_take (i := 8) (oi := { dst := some 39, op := Op.move (Operand.tmp 38), type := 4, pos := "ref.go:166", after := #[{ on := 7, ground := Ground.data }], guard := none }) (v := ?_) rfl (by kernel_rfl) (by kernel_rfl) (by kernel_rfl) (by kernel_rfl) (fun _ _ _ h => h) (Or.inl ⟨by rfl, ?_⟩) ?_
              rotate_left
              · (intro w hE; have b0 := cellb b0 hE; have b1 := cellb b1 hE; have b2 := cellb b2 hE; have b3 := cellb b3 hE; have c5 := cellb c5 hE; (try dsimp only); go_simp); (try with_reducible rfl)
              try simp only [Act.put, List.setIfInBounds_toArray, List.set_cons_zero, List.set_cons_succ]
              refine wpAnyE_take (i := 9) (oi := { dst := some 40, op := Op.move (Operand.tmp 5), type := 3, pos := "ref.go:166", after := #[{ on := 8, ground := Ground.guard }], guard := some (8, false) }) (v := ?_) rfl (by kernel_rfl) (by kernel_rfl) (by kernel_rfl) (by kernel_rfl) (fun _ _ _ h => h) (Or.inl ⟨by rfl, ?_⟩) ?_
              rotate_left
              · (intro w hE; have b0 := cellb b0 hE; have b1 := cellb b1 hE; have b2 := cellb b2 hE; have b3 := cellb b3 hE; have c5 := cellb c5 hE; (try dsimp only); go_simp); (try with_reducible rfl)
              try simp only [Act.put, List.setIfInBounds_toArray, List.set_cons_zero, List.set_cons_succ]
              refine wpAnyE_take (i := 10) (oi := { dst := some 41, op := Op.indexAddr 30 (Operand.tmp 4) (Operand.tmp 40), type := 0, pos := "ref.go:166", after := #[{ on := 9, ground := Ground.data }, { on := 8, ground := Ground.guard }], guard := some (8, false) }) (v := ?_) rfl (by kernel_rfl) (by kernel_rfl) (by kernel_rfl) (by kernel_rfl) (fun _ _ _ h => h) (Or.inl ⟨by rfl, ?_⟩) ?_
              rotate_left
              · (intro w hE; have b0 := cellb b0 hE; have b1 := cellb b1 hE; have b2 := cellb b2 hE; have b3 := cellb b3 hE; have c5 := cellb c5 hE; (try dsimp only); go_simp); (try with_reducible rfl)
              try simp only [Act.put, List.setIfInBounds_toArray, List.set_cons_zero, List.set_cons_succ]
              refine wpAnyE_take (i := 11) (oi := { dst := some 42, op := Op.load 3 (Operand.tmp 41), type := 3, pos := "ref.go:166", after := #[{ on := 10, ground := Ground.data }, { on := 8, ground := Ground.guard }], guard := some (8, false) }) (v := ?_) rfl (by kernel_rfl) (by kernel_rfl) (by kernel_rfl) (by kernel_rfl) (fun _ _ _ h => h) (Or.inl ⟨by rfl, ?_⟩) ?_
              rotate_left
              · (intro w hE; have b0 := cellb b0 hE; have b1 := cellb b1 hE; have b2 := cellb b2 hE; have b3 := cellb b3 hE; have c5 := cellb c5 hE; (try dsimp only); go_simp); (try with_reducible rfl)
              try simp only [Act.put, List.setIfInBounds_toArray, List.set_cons_zero, List.set_cons_succ]
              refine wpAnyE_call (i := 12) (oi := { dst := some 43, op := Op.call { callee := Callee.value (Operand.func 14), args := #[Operand.tmp 42, Operand.const (Value.int IntKind.i64 (-100)), Operand.const (Value.int IntKind.i64 100)], argTypes := #[3, 3, 3] }, type := 3, pos := "ref.go:166", after := #[{ on := 11, ground := Ground.data }, { on := 8, ground := Ground.chain }, { on := 8, ground := Ground.guard }], guard := some (8, false) }) (fun w hE => ofPure (TR.out w)) rfl (by kernel_rfl) (by kernel_rfl) (by kernel_rfl) (by kernel_rfl) (fun _ _ _ h => h) (by rfl) (fun w hE => by (try dsimp only); go_simp) ?_
              try simp only [Act.put, List.setIfInBounds_toArray, List.set_cons_zero, List.set_cons_succ]
              refine wpAnyE_take (i := 13) (oi := { dst := some 44, op := Op.binOp BinOp.neq 3 (Operand.tmp 43) (Operand.const (Value.int IntKind.i64 0)) 3, type := 4, pos := "ref.go:166", after := #[{ on := 12, ground := Ground.data }, { on := 8, ground := Ground.guard }], guard := some (8, false) }) (v := ?_) rfl (by kernel_rfl) (by kernel_rfl) (by kernel_rfl) (by kernel_rfl) (fun _ _ _ h => h) (Or.inl ⟨by rfl, ?_⟩) ?_
              rotate_left
              · (intro w hE; have b0 := cellb b0 hE; have b1 := cellb b1 hE; have b2 := cellb b2 hE; have b3 := cellb b3 hE; have c5 := cellb c5 hE; (try dsimp only); go_simp); (try with_reducible rfl)
              try simp only [Act.put, List.setIfInBounds_toArray, List.set_cons_zero, List.set_cons_succ]
              refine wpAnyE_take (i := 14) (oi := { dst := some 45, op := Op.pick (Operand.tmp 39) (Operand.const (Value.bool true)) (Operand.tmp 44), type := 4, pos := "ref.go:166", after := #[{ on := 8, ground := Ground.data }, { on := 13, ground := Ground.data }], guard := none }) (v := ?_) rfl (by kernel_rfl) (by kernel_rfl) (by kernel_rfl) (by kernel_rfl) (fun _ _ _ h => h) (Or.inl ⟨by rfl, ?_⟩) ?_
              rotate_left
              · (intro w hE; have b0 := cellb b0 hE; have b1 := cellb b1 hE; have b2 := cellb b2 hE; have b3 := cellb b3 hE; have c5 := cellb c5 hE; (try dsimp only); go_simp); (try with_reducible rfl)
              try simp only [Act.put, List.setIfInBounds_toArray, List.set_cons_zero, List.set_cons_succ]
              refine wpAnyE_done (by kernel_rfl) (fun wy1 hE => ?_) _
              have hbz1 := bthen hbz hE
              have b0 := cellb b0 hE
              have b1 := cellb b1 hE
              have b2 := cellb b2 hE
              have b3 := cellb b3 hE
              have c5 := cellb c5 hE
              have i1 := i1.carry hE
              have i2 := i2.carry hE
              have i5' := i5'.carry hE
              clear hE
              have hB := hbz1
              go_wp2_with fail
              go_roundw
              · exact ⟨k + 1, by omega, by go_num, HG, i5', i1, i2, hB⟩
              · simp [intOf]; omega
            · obtain ⟨r1, r2⟩ := bak_bad k hlt (by rw [HUP.out, decide_eq_false hr])
              have HR1 := Lib.hid r1
              have HR2 := Lib.hid r2
              rw [show withinE x (-100) 100 = 3 by unfold withinE; rw [if_pos (by omega)]] at TR
              clear hr hg hgood r1 r2 hx
              refine wp_region_E 99 (by kernel_rfl) ?_
              obtain ⟨wz, hwz⟩ : ∃ v, v = Y2.drew := ⟨_, rfl⟩
              rw [← hwz]
              have hlz : Below Y2.heap.size Y2 wz := by rw [hwz]; exact (Below.refl _ _).drew
              have hbz := bthen hB hlz
              have b0 := cellb b0 hlz
              have b1 := cellb b1 hlz
              have b2 := cellb b2 hlz
              have b3 := cellb b3 hlz
              have c5 := cellb c5 hlz
              have i2 := i2.carry hlz
              clear hwz hlz
              refine wpAnyE_take (i := 0) (oi := { dst := some 31, op := Op.load 25 (Operand.tmp 6), type := 25, pos := "ref.go:166", after := #[], guard := none }) (v := ?_) rfl (by kernel_rfl) (by kernel_rfl) (by kernel_rfl) (by kernel_rfl) (fun _ _ _ h => h) (Or.inl ⟨by rfl, ?_⟩) ?_
              rotate_left
              · (intro w hE; have b0 := cellb b0 hE; have b1 := cellb b1 hE; have b2 := cellb b2 hE; have b3 := cellb b3 hE; have c5 := cellb c5 hE; (try dsimp only); go_simp); (try with_reducible rfl)
              try simp only [Act.put, List.setIfInBounds_toArray, List.set_cons_zero, List.set_cons_succ]
              refine wpAnyE_take (i := 1) (oi := { dst := some 32, op := Op.move (Operand.tmp 5), type := 3, pos := "ref.go:166", after := #[], guard := none }) (v := ?_) rfl (by kernel_rfl) (by kernel_rfl) (by kernel_rfl) (by kernel_rfl) (fun _ _ _ h => h) (Or.inl ⟨by rfl, ?_⟩) ?_
              rotate_left
              · (intro w hE; have b0 := cellb b0 hE; have b1 := cellb b1 hE; have b2 := cellb b2 hE; have b3 := cellb b3 hE; have c5 := cellb c5 hE; (try dsimp only); go_simp); (try with_reducible rfl)
              try simp only [Act.put, List.setIfInBounds_toArray, List.set_cons_zero, List.set_cons_succ]
              refine wpAnyE_take (i := 2) (oi := { dst := some 33, op := Op.indexAddr 30 (Operand.tmp 4) (Operand.tmp 32), type := 0, pos := "ref.go:166", after := #[{ on := 1, ground := Ground.data }], guard := none }) (v := ?_) rfl (by kernel_rfl) (by kernel_rfl) (by kernel_rfl) (by kernel_rfl) (fun _ _ _ h => h) (Or.inl ⟨by rfl, ?_⟩) ?_
              rotate_left
              · (intro w hE; have b0 := cellb b0 hE; have b1 := cellb b1 hE; have b2 := cellb b2 hE; have b3 := cellb b3 hE; have c5 := cellb c5 hE; (try dsimp only); go_simp); (try with_reducible rfl)
              try simp only [Act.put, List.setIfInBounds_toArray, List.set_cons_zero, List.set_cons_succ]
              refine wpAnyE_take (i := 3) (oi := { dst := some 34, op := Op.load 3 (Operand.tmp 33), type := 3, pos := "ref.go:166", after := #[{ on := 2, ground := Ground.data }], guard := none }) (v := ?_) rfl (by kernel_rfl) (by kernel_rfl) (by kernel_rfl) (by kernel_rfl) (fun _ _ _ h => h) (Or.inl ⟨by rfl, ?_⟩) ?_
              rotate_left
              · (intro w hE; have b0 := cellb b0 hE; have b1 := cellb b1 hE; have b2 := cellb b2 hE; have b3 := cellb b3 hE; have c5 := cellb c5 hE; (try dsimp only); go_simp); (try with_reducible rfl)
              try simp only [Act.put, List.setIfInBounds_toArray, List.set_cons_zero, List.set_cons_succ]
              refine wpAnyE_take (i := 4) (oi := { dst := some 35, op := Op.binOp BinOp.mul 3 (Operand.const (Value.int IntKind.i64 12)) (Operand.tmp 34) 3, type := 3, pos := "ref.go:166", after := #[{ on := 3, ground := Ground.data }], guard := none }) (v := ?_) rfl (by kernel_rfl) (by kernel_rfl) (by kernel_rfl) (by kernel_rfl) (fun _ _ _ h => h) (Or.inl ⟨by rfl, ?_⟩) ?_
              rotate_left
              · (intro w hE; have b0 := cellb b0 hE; have b1 := cellb b1 hE; have b2 := cellb b2 hE; have b3 := cellb b3 hE; have c5 := cellb c5 hE; (try dsimp only); go_simp); (try with_reducible rfl)
              try simp only [Act.put, List.setIfInBounds_toArray, List.set_cons_zero, List.set_cons_succ]
              refine wpAnyE_take (i := 5) (oi := { dst := some 36, op := Op.build 23 #[(0, Operand.tmp 35)], type := 23, pos := "ref.go:166", after := #[{ on := 4, ground := Ground.data }], guard := none }) (v := ?_) rfl (by kernel_rfl) (by kernel_rfl) (by kernel_rfl) (by kernel_rfl) (fun _ _ _ h => h) (Or.inl ⟨by rfl, ?_⟩) ?_
              rotate_left
              · (intro w hE; have b0 := cellb b0 hE; have b1 := cellb b1 hE; have b2 := cellb b2 hE; have b3 := cellb b3 hE; have c5 := cellb c5 hE; (try dsimp only); go_simp); (try with_reducible rfl)
              try simp only [Act.put, List.setIfInBounds_toArray, List.set_cons_zero, List.set_cons_succ]
              refine wpAnyE_take (i := 6) (oi := { dst := some 37, op := Op.build 25 #[(0, Operand.tmp 36)], type := 25, pos := "ref.go:166", after := #[{ on := 5, ground := Ground.data }], guard := none }) (v := ?_) rfl (by kernel_rfl) (by kernel_rfl) (by kernel_rfl) (by kernel_rfl) (fun _ _ _ h => h) (Or.inl ⟨by rfl, ?_⟩) ?_
              rotate_left
              · (intro w hE; have b0 := cellb b0 hE; have b1 := cellb b1 hE; have b2 := cellb b2 hE; have b3 := cellb b3 hE; have c5 := cellb c5 hE; (try dsimp only); go_simp); (try with_reducible rfl)
              try simp only [Act.put, List.setIfInBounds_toArray, List.set_cons_zero, List.set_cons_succ]
              refine wpAnyE_take (i := 7) (oi := { dst := some 38, op := Op.binOp BinOp.neq 25 (Operand.tmp 31) (Operand.tmp 37) 25, type := 4, pos := "ref.go:166", after := #[{ on := 0, ground := Ground.data }, { on := 6, ground := Ground.data }], guard := none }) (v := ?_) rfl (by kernel_rfl) (by kernel_rfl) (by kernel_rfl) (by kernel_rfl) (fun _ _ _ h => h) (Or.inl ⟨by rfl, ?_⟩) ?_
              rotate_left
              · (intro w hE; have b0 := cellb b0 hE; have b1 := cellb b1 hE; have b2 := cellb b2 hE; have b3 := cellb b3 hE; have c5 := cellb c5 hE; (try dsimp only); go_simp); (try with_reducible rfl)
              try simp only [Act.put, List.setIfInBounds_toArray, List.set_cons_zero, List.set_cons_succ]
              refine wpAnyE_take (i := 8) (oi := { dst := some 39, op := Op.move (Operand.tmp 38), type := 4, pos := "ref.go:166", after := #[{ on := 7, ground := Ground.data }], guard := none }) (v := ?_) rfl (by kernel_rfl) (by kernel_rfl) (by kernel_rfl) (by kernel_rfl) (fun _ _ _ h => h) (Or.inl ⟨by rfl, ?_⟩) ?_
              rotate_left
              · (intro w hE; have b0 := cellb b0 hE; have b1 := cellb b1 hE; have b2 := cellb b2 hE; have b3 := cellb b3 hE; have c5 := cellb c5 hE; (try dsimp only); go_simp); (try with_reducible rfl)
              try simp only [Act.put, List.setIfInBounds_toArray, List.set_cons_zero, List.set_cons_succ]
              refine wpAnyE_take (i := 9) (oi := { dst := some 40, op := Op.move (Operand.tmp 5), type := 3, pos := "ref.go:166", after := #[{ on := 8, ground := Ground.guard }], guard := some (8, false) }) (v := ?_) rfl (by kernel_rfl) (by kernel_rfl) (by kernel_rfl) (by kernel_rfl) (fun _ _ _ h => h) (Or.inl ⟨by rfl, ?_⟩) ?_
              rotate_left
              · (intro w hE; have b0 := cellb b0 hE; have b1 := cellb b1 hE; have b2 := cellb b2 hE; have b3 := cellb b3 hE; have c5 := cellb c5 hE; (try dsimp only); go_simp); (try with_reducible rfl)
              try simp only [Act.put, List.setIfInBounds_toArray, List.set_cons_zero, List.set_cons_succ]
              refine wpAnyE_take (i := 10) (oi := { dst := some 41, op := Op.indexAddr 30 (Operand.tmp 4) (Operand.tmp 40), type := 0, pos := "ref.go:166", after := #[{ on := 9, ground := Ground.data }, { on := 8, ground := Ground.guard }], guard := some (8, false) }) (v := ?_) rfl (by kernel_rfl) (by kernel_rfl) (by kernel_rfl) (by kernel_rfl) (fun _ _ _ h => h) (Or.inl ⟨by rfl, ?_⟩) ?_
              rotate_left
              · (intro w hE; have b0 := cellb b0 hE; have b1 := cellb b1 hE; have b2 := cellb b2 hE; have b3 := cellb b3 hE; have c5 := cellb c5 hE; (try dsimp only); go_simp); (try with_reducible rfl)
              try simp only [Act.put, List.setIfInBounds_toArray, List.set_cons_zero, List.set_cons_succ]
              refine wpAnyE_take (i := 11) (oi := { dst := some 42, op := Op.load 3 (Operand.tmp 41), type := 3, pos := "ref.go:166", after := #[{ on := 10, ground := Ground.data }, { on := 8, ground := Ground.guard }], guard := some (8, false) }) (v := ?_) rfl (by kernel_rfl) (by kernel_rfl) (by kernel_rfl) (by kernel_rfl) (fun _ _ _ h => h) (Or.inl ⟨by rfl, ?_⟩) ?_
              rotate_left
              · (intro w hE; have b0 := cellb b0 hE; have b1 := cellb b1 hE; have b2 := cellb b2 hE; have b3 := cellb b3 hE; have c5 := cellb c5 hE; (try dsimp only); go_simp); (try with_reducible rfl)
              try simp only [Act.put, List.setIfInBounds_toArray, List.set_cons_zero, List.set_cons_succ]
              refine wpAnyE_call (i := 12) (oi := { dst := some 43, op := Op.call { callee := Callee.value (Operand.func 14), args := #[Operand.tmp 42, Operand.const (Value.int IntKind.i64 (-100)), Operand.const (Value.int IntKind.i64 100)], argTypes := #[3, 3, 3] }, type := 3, pos := "ref.go:166", after := #[{ on := 11, ground := Ground.data }, { on := 8, ground := Ground.chain }, { on := 8, ground := Ground.guard }], guard := some (8, false) }) (fun w hE => ofPure (TR.out w)) rfl (by kernel_rfl) (by kernel_rfl) (by kernel_rfl) (by kernel_rfl) (fun _ _ _ h => h) (by rfl) (fun w hE => by (try dsimp only); go_simp) ?_
              try simp only [Act.put, List.setIfInBounds_toArray, List.set_cons_zero, List.set_cons_succ]
              refine wpAnyE_take (i := 13) (oi := { dst := some 44, op := Op.binOp BinOp.neq 3 (Operand.tmp 43) (Operand.const (Value.int IntKind.i64 0)) 3, type := 4, pos := "ref.go:166", after := #[{ on := 12, ground := Ground.data }, { on := 8, ground := Ground.guard }], guard := some (8, false) }) (v := ?_) rfl (by kernel_rfl) (by kernel_rfl) (by kernel_rfl) (by kernel_rfl) (fun _ _ _ h => h) (Or.inl ⟨by rfl, ?_⟩) ?_
              rotate_left
              · (intro w hE; have b0 := cellb b0 hE; have b1 := cellb b1 hE; have b2 := cellb b2 hE; have b3 := cellb b3 hE; have c5 := cellb c5 hE; (try dsimp only); go_simp); (try with_reducible rfl)
              try simp only [Act.put, List.setIfInBounds_toArray, List.set_cons_zero, List.set_cons_succ]
              refine wpAnyE_take (i := 14) (oi := { dst := some 45, op := Op.pick (Operand.tmp 39) (Operand.const (Value.bool true)) (Operand.tmp 44), type := 4, pos := "ref.go:166", after := #[{ on := 8, ground := Ground.data }, { on := 13, ground := Ground.data }], guard := none }) (v := ?_) rfl (by kernel_rfl) (by kernel_rfl) (by kernel_rfl) (by kernel_rfl) (fun _ _ _ h => h) (Or.inl ⟨by rfl, ?_⟩) ?_
              rotate_left
              · (intro w hE; have b0 := cellb b0 hE; have b1 := cellb b1 hE; have b2 := cellb b2 hE; have b3 := cellb b3 hE; have c5 := cellb c5 hE; (try dsimp only); go_simp); (try with_reducible rfl)
              try simp only [Act.put, List.setIfInBounds_toArray, List.set_cons_zero, List.set_cons_succ]
              refine wpAnyE_done (by kernel_rfl) (fun wy1 hE => ?_) _
              have hbz1 := bthen hbz hE
              have b0 := cellb b0 hE
              have b1 := cellb b1 hE
              have b2 := cellb b2 hE
              have b3 := cellb b3 hE
              have c5 := cellb c5 hE
              have i2 := i2.carry hE
              clear hE
              have hB := hbz1
              obtain ⟨W9, hW9⟩ : ∃ v, v = wy1 := ⟨_, rfl⟩
              rw [← hW9] at hB i2 ⊢
              clear hW9
              go_wp2_with (refine wpList_storeA rfl _ _ _ rfl (w.heap.size + 1) zer12 zer12 rfl rfl i2 rfl Tryz.infoA12 ?_)
              have i9 := BlkI.setRowA i2 zer12
              have hld9 := Tryz.loadVar12 hz12 i9
              exact bodyPost_ret (v := .tuple #[.agg (ia zer12), .int .i64 1]) (results_cell_tmp (p := 2) (q := 3) rfl _ _ (w.heap.size + 1) _ rfl _ rfl hld9) rfl ⟨by rw [HR1.out, HR2.out], below_rowA hB (by omega) _⟩
          · have hg' : gdS S k = false := by simpa using hg
            obtain ⟨r1, r2⟩ := bak_bad k hlt (by unfold upS; rw [hg', Bool.false_and])
            have HR1 := Lib.hid r1
            have HR2 := Lib.hid r2
            obtain ⟨s, hs⟩ : ∃ s, s = suS S k 12 := ⟨_, rfl⟩
            obtain ⟨a, b, c, d⟩ := s
            have hbad := gd_false hg' hs.symm
            rw [← hs] at i7 hsb
            have hx : -51539607552 ≤ a ∧ a ≤ 51539607552 := hsb.1
            have TF := Lib.hid (fun W => Floor12_any a W (by omega))
            obtain ⟨x, hxd⟩ : ∃ x, x = a / 12 := ⟨_, rfl⟩
            rw [← hxd] at TF
            obtain ⟨y, hy⟩ : ∃ y, y = 12 * x := ⟨_, rfl⟩
            have e1 : IntKind.i64.wrap (12 * x) = y := by rw [hy]; exact IntWalk.i64_in _ (by omega)
            have hne := fun W => neqCyRB a b c d y (fun ⟨h1, h2, h3, h4⟩ => hbad ⟨by omega, h2, h3, h4⟩) W
            clear hs hbad hsb hx hy hg hg' hgood r1 r2 hxd
            have b0 : wr.cell? ⟨G7, 0, none⟩ = some (.int .i64 a) := BlkI.cell (l := [a, b, c, d]) i7 (j := 0) (by simp)
            obtain ⟨old, hold⟩ : ∃ old, old = (upto (lvF S k) 12)[k]?.getD 0 := ⟨_, rfl⟩
            rw [← hold] at c5
            clear hold
            have hkl : k < (upto (lvF S k) 12).length := by rw [upto_length]; exact hlt
            obtain ⟨L, hL⟩ : ∃ L, L = upto (lvF S k) 12 := ⟨_, rfl⟩
            rw [← hL] at i5 hkl
            clear hL
            go_wp2_with fail
            refine (TF.out wr).mono ?_
            rintro e w6 ⟨rfl, rfl⟩
            go_upto_region 11 with fail
            obtain ⟨Y2, hY2⟩ : ∃ v, v = wr.setCell ⟨G5, k, none⟩ (.int .i64 x) := ⟨_, rfl⟩
            have i5' := BlkI.set i5 k x
            replace i2 := i2.other (B' := G5) (j := k) hz2 (.int .i64 x)
            replace i7 := i7.other (B' := G5) (j := k) hz7 (.int .i64 x)
            replace hB : Below w.heap.size w (wr.setCell ⟨G5, k, none⟩ (.int .i64 x)) := hB.setCell (by exact HG5.out.2) _
            rw [← hY2] at i5' i2 i7 hB ⊢
            clear hY2 i5 c5 f5 b0 i1
            have b0 : Y2.cell? ⟨G7, 0, none⟩ = some (.int .i64 a) := BlkI.cell (l := [a, b, c, d]) i7 (j := 0) (by simp)
            have b1 : Y2.cell? ⟨G7, 1, none⟩ = some (.int .i64 b) := BlkI.cell (l := [a, b, c, d]) i7 (j := 1) (by simp)
            have b2 : Y2.cell? ⟨G7, 2, none⟩ = some (.int .i64 c) := BlkI.cell (l := [a, b, c, d]) i7 (j := 2) (by simp)
            have b3 : Y2.cell? ⟨G7, 3, none⟩ = some (.int .i64 d) := BlkI.cell (l := [a, b, c, d]) i7 (j := 3) (by simp)
            have c5 : Y2.cell? ⟨G5, k, none⟩ = some (.int .i64 x) := by
              have h9 := BlkI.cell i5' (j := k) (by rw [List.length_set]; exact hkl)
              rw [List.getElem?_set_self hkl] at h9
              exact h9
            refine wp_region_E 99 (by kernel_rfl) ?_
            obtain ⟨wz, hwz⟩ : ∃ v, v = Y2.drew := ⟨_, rfl⟩
            rw [← hwz]
            have hlz : Below Y2.heap.size Y2 wz := by rw [hwz]; exact (Below.refl _ _).drew
            have hbz := bthen hB hlz
            have b0 := cellb b0 hlz
            have b1 := cellb b1 hlz
            have b2 := cellb b2 hlz
            have b3 := cellb b3 hlz
            have c5 := cellb c5 hlz
            have i2 := i2.carry hlz
            clear hwz hlz
            refine wpAnyE_take (i := 0) (oi := { dst := some 31, op := Op.load 25 (Operand.tmp 6), type := 25, pos := "ref.go:166", after := #[], guard := none }) (v := ?_) rfl (by kernel_rfl) (by kernel_rfl) (by kernel_rfl) (by kernel_rfl) (fun _ _ _ h => h) (Or.inl ⟨by rfl, ?_⟩) ?_
            rotate_left
            · (intro w hE; have b0 := cellb b0 hE; have b1 := cellb b1 hE; have b2 := cellb b2 hE; have b3 := cellb b3 hE; have c5 := cellb c5 hE; (try dsimp only); go_simp); (try with_reducible rfl)
            try simp only [Act.put, List.setIfInBounds_toArray, List.set_cons_zero, List.set_cons_succ]
            refine wpAnyE_take (i := 1) (oi := { dst := some 32, op := Op.move (Operand.tmp 5), type := 3, pos := "ref.go:166", after := #[], guard := none }) (v := ?_) rfl (by kernel_rfl) (by kernel_rfl) (by kernel_rfl) (by kernel_rfl) (fun _ _ _ h => h) (Or.inl ⟨by rfl, ?_⟩) ?_
            rotate_left
            · (intro w hE; have b0 := cellb b0 hE; have b1 := cellb b1 hE; have b2 := cellb b2 hE; have b3 := cellb b3 hE; have c5 := cellb c5 hE; (try dsimp only); go_simp); (try with_reducible rfl)
            try simp only [Act.put, List.setIfInBounds_toArray, List.set_cons_zero, List.set_cons_succ]
            refine wpAnyE_take (i := 2) (oi := { dst := some 33, op := Op.indexAddr 30 (Operand.tmp 4) (Operand.tmp 32), type := 0, pos := "ref.go:166", after := #[{ on := 1, ground := Ground.data }], guard := none }) (v := ?_) rfl (by kernel_rfl) (by kernel_rfl) (by kernel_rfl) (by kernel_rfl) (fun _ _ _ h => h) (Or.inl ⟨by rfl, ?_⟩) ?_
            rotate_left
            · (intro w hE; have b0 := cellb b0 hE; have b1 := cellb b1 hE; have b2 := cellb b2 hE; have b3 := cellb b3 hE; have c5 := cellb c5 hE; (try dsimp only); go_simp); (try with_reducible rfl)
            try simp only [Act.put, List.setIfInBounds_toArray, List.set_cons_zero, List.set_cons_succ]
            refine wpAnyE_take (i := 3) (oi := { dst := some 34, op := Op.load 3 (Operand.tmp 33), type := 3, pos := "ref.go:166", after := #[{ on := 2, ground := Ground.data }], guard := none }) (v := ?_) rfl (by kernel_rfl) (by kernel_rfl) (by kernel_rfl) (by kernel_rfl) (fun _ _ _ h => h) (Or.inl ⟨by rfl, ?_⟩) ?_
            rotate_left
            · (intro w hE; have b0 := cellb b0 hE; have b1 := cellb b1 hE; have b2 := cellb b2 hE; have b3 := cellb b3 hE; have c5 := cellb c5 hE; (try dsimp only); go_simp); (try with_reducible rfl)
            try simp only [Act.put, List.setIfInBounds_toArray, List.set_cons_zero, List.set_cons_succ]
            refine wpAnyE_take (i := 4) (oi := { dst := some 35, op := Op.binOp BinOp.mul 3 (Operand.const (Value.int IntKind.i64 12)) (Operand.tmp 34) 3, type := 3, pos := "ref.go:166", after := #[{ on := 3, ground := Ground.data }], guard := none }) (v := ?_) rfl (by kernel_rfl) (by kernel_rfl) (by kernel_rfl) (by kernel_rfl) (fun _ _ _ h => h) (Or.inl ⟨by rfl, ?_⟩) ?_
            rotate_left
            · (intro w hE; have b0 := cellb b0 hE; have b1 := cellb b1 hE; have b2 := cellb b2 hE; have b3 := cellb b3 hE; have c5 := cellb c5 hE; (try dsimp only); go_simp); (try with_reducible rfl)
            try simp only [Act.put, List.setIfInBounds_toArray, List.set_cons_zero, List.set_cons_succ]
            refine wpAnyE_take (i := 5) (oi := { dst := some 36, op := Op.build 23 #[(0, Operand.tmp 35)], type := 23, pos := "ref.go:166", after := #[{ on := 4, ground := Ground.data }], guard := none }) (v := ?_) rfl (by kernel_rfl) (by kernel_rfl) (by kernel_rfl) (by kernel_rfl) (fun _ _ _ h => h) (Or.inl ⟨by rfl, ?_⟩) ?_
            rotate_left
            · (intro w hE; have b0 := cellb b0 hE; have b1 := cellb b1 hE; have b2 := cellb b2 hE; have b3 := cellb b3 hE; have c5 := cellb c5 hE; (try dsimp only); go_simp); (try with_reducible rfl)
            try simp only [Act.put, List.setIfInBounds_toArray, List.set_cons_zero, List.set_cons_succ]
            refine wpAnyE_take (i := 6) (oi := { dst := some 37, op := Op.build 25 #[(0, Operand.tmp 36)], type := 25, pos := "ref.go:166", after := #[{ on := 5, ground := Ground.data }], guard := none }) (v := ?_) rfl (by kernel_rfl) (by kernel_rfl) (by kernel_rfl) (by kernel_rfl) (fun _ _ _ h => h) (Or.inl ⟨by rfl, ?_⟩) ?_
            rotate_left
            · (intro w hE; have b0 := cellb b0 hE; have b1 := cellb b1 hE; have b2 := cellb b2 hE; have b3 := cellb b3 hE; have c5 := cellb c5 hE; (try dsimp only); go_simp); (try with_reducible rfl)
            try simp only [Act.put, List.setIfInBounds_toArray, List.set_cons_zero, List.set_cons_succ]
            refine wpAnyE_take (i := 7) (oi := { dst := some 38, op := Op.binOp BinOp.neq 25 (Operand.tmp 31) (Operand.tmp 37) 25, type := 4, pos := "ref.go:166", after := #[{ on := 0, ground := Ground.data }, { on := 6, ground := Ground.data }], guard := none }) (v := ?_) rfl (by kernel_rfl) (by kernel_rfl) (by kernel_rfl) (by kernel_rfl) (fun _ _ _ h => h) (Or.inl ⟨by rfl, ?_⟩) ?_
            rotate_left
            · (intro w hE; have b0 := cellb b0 hE; have b1 := cellb b1 hE; have b2 := cellb b2 hE; have b3 := cellb b3 hE; have c5 := cellb c5 hE; (try dsimp only); go_simp); (try with_reducible rfl)
            try simp only [Act.put, List.setIfInBounds_toArray, List.set_cons_zero, List.set_cons_succ]
            refine wpAnyE_take (i := 8) (oi := { dst := some 39, op := Op.move (Operand.tmp 38), type := 4, pos := "ref.go:166", after := #[{ on := 7, ground := Ground.data }], guard := none }) (v := ?_) rfl (by kernel_rfl) (by kernel_rfl) (by kernel_rfl) (by kernel_rfl) (fun _ _ _ h => h) (Or.inl ⟨by rfl, ?_⟩) ?_
            rotate_left
            · (intro w hE; have b0 := cellb b0 hE; have b1 := cellb b1 hE; have b2 := cellb b2 hE; have b3 := cellb b3 hE; have c5 := cellb c5 hE; (try dsimp only); go_simp); (try with_reducible rfl)
            try simp only [Act.put, List.setIfInBounds_toArray, List.set_cons_zero, List.set_cons_succ]
            refine wpAnyE_take (i := 9) (oi := { dst := some 40, op := Op.move (Operand.tmp 5), type := 3, pos := "ref.go:166", after := #[{ on := 8, ground := Ground.guard }], guard := some (8, false) }) (v := undef) rfl (by kernel_rfl) (by kernel_rfl) (by kernel_rfl) (by kernel_rfl) (fun _ _ _ h => h) (Or.inr (Or.inr ⟨by rfl, rfl⟩)) ?_
            try simp only [Act.put, List.setIfInBounds_toArray, List.set_cons_zero, List.set_cons_succ]
            refine wpAnyE_take (i := 10) (oi := { dst := some 41, op := Op.indexAddr 30 (Operand.tmp 4) (Operand.tmp 40), type := 0, pos := "ref.go:166", after := #[{ on := 9, ground := Ground.data }, { on := 8, ground := Ground.guard }], guard := some (8, false) }) (v := undef) rfl (by kernel_rfl) (by kernel_rfl) (by kernel_rfl) (by kernel_rfl) (fun _ _ _ h => h) (Or.inr (Or.inr ⟨by rfl, rfl⟩)) ?_
            try simp only [Act.put, List.setIfInBounds_toArray, List.set_cons_zero, List.set_cons_succ]
            refine wpAnyE_take (i := 11) (oi := { dst := some 42, op := Op.load 3 (Operand.tmp 41), type := 3, pos := "ref.go:166", after := #[{ on := 10, ground := Ground.data }, { on := 8, ground := Ground.guard }], guard := some (8, false) }) (v := undef) rfl (by kernel_rfl) (by kernel_rfl) (by kernel_rfl) (by kernel_rfl) (fun _ _ _ h => h) (Or.inr (Or.inr ⟨by rfl, rfl⟩)) ?_
            try simp only [Act.put, List.setIfInBounds_toArray, List.set_cons_zero, List.set_cons_succ]
            refine wpAnyE_take (i := 12) (oi := { dst := some 43, op := Op.call { callee := Callee.value (Operand.func 14), args := #[Operand.tmp 42, Operand.const (Value.int IntKind.i64 (-100)), Operand.const (Value.int IntKind.i64 100)], argTypes := #[3, 3, 3] }, type := 3, pos := "ref.go:166", after := #[{ on := 11, ground := Ground.data }, { on := 8, ground := Ground.chain }, { on := 8, ground := Ground.guard }], guard := some (8, false) }) (v := undef) rfl (by kernel_rfl) (by kernel_rfl) (by kernel_rfl) (by kernel_rfl) (fun _ _ _ h => h) (Or.inr (Or.inr ⟨by rfl, rfl⟩)) ?_
            try simp only [Act.put, List.setIfInBounds_toArray, List.set_cons_zero, List.set_cons_succ]
            refine wpAnyE_take (i := 13) (oi := { dst := some 44, op := Op.binOp BinOp.neq 3 (Operand.tmp 43) (Operand.const (Value.int IntKind.i64 0)) 3, type := 4, pos := "ref.go:166", after := #[{ on := 12, ground := Ground.data }, { on := 8, ground := Ground.guard }], guard := some (8, false) }) (v := undef) rfl (by kernel_rfl) (by kernel_rfl) (by kernel_rfl) (by kernel_rfl) (fun _ _ _ h => h) (Or.inr (Or.inr ⟨by rfl, rfl⟩)) ?_
            try simp only [Act.put, List.setIfInBounds_toArray, List.set_cons_zero, List.set_cons_succ]
            refine wpAnyE_take (i := 14) (oi := { dst := some 45, op := Op.pick (Operand.tmp 39) (Operand.const (Value.bool true)) (Operand.tmp 44), type := 4, pos := "ref.go:166", after := #[{ on := 8, ground := Ground.data }, { on := 13, ground := Ground.data }], guard := none }) (v := ?_) rfl (by kernel_rfl) (by kernel_rfl) (by kernel_rfl) (by kernel_rfl) (fun _ _ _ h => h) (Or.inl ⟨by rfl, ?_⟩) ?_
            rotate_left
            · (intro w hE; have b0 := cellb b0 hE; have b1 := cellb b1 hE; have b2 := cellb b2 hE; have b3 := cellb b3 hE; have c5 := cellb c5 hE; (try dsimp only); go_simp); (try with_reducible rfl)
            try simp only [Act.put, List.setIfInBounds_toArray, List.set_cons_zero, List.set_cons_succ]
            refine wpAnyE_done (by kernel_rfl) (fun wy1 hE => ?_) _
            have hbz1 := bthen hbz hE
            have b0 := cellb b0 hE
            have b1 := cellb b1 hE
            have b2 := cellb b2 hE
            have b3 := cellb b3 hE
            have c5 := cellb c5 hE
            have i2 := i2.carry hE
            clear hE
            have hB := hbz1
            obtain ⟨W9, hW9⟩ : ∃ v, v = wy1 := ⟨_, rfl⟩
            rw [← hW9] at hB i2 ⊢
            clear hW9
            go_wp2_with (refine wpList_storeA rfl _ _ _ rfl (w.heap.size + 1) zer12 zer12 rfl rfl i2 rfl Tryz.infoA12 ?_)
            have i9 := BlkI.setRowA i2 zer12
            have hld9 := Tryz.loadVar12 hz12 i9
            exact bodyPost_ret (v := .tuple #[.agg (ia zer12), .int .i64 1]) (results_cell_tmp (p := 2) (q := 3) rfl _ _ (w.heap.size + 1) _ rfl _ rfl hld9) rfl ⟨by rw [HR1.out, HR2.out], below_rowA hB (by omega) _⟩
    · obtain rfl : k = 12 := by omega
      obtain ⟨r1, r2⟩ := bak_good hgood.out
      have HR1 := Lib.hid r1
      have HR2 := Lib.hid r2
      rw [lvF_all S] at i5
      have hll : (upto (lvS S) 12).length = 12 := upto_length _ _
      generalize upto (lvS S) 12 = l at i5 HR2 hll
      clear r1 r2 hgood
      have hld := load12 hll i5
      go_wp2_with (first | refine wpList_load rfl _ _ rfl hld ?_ | refine wpList_storeA rfl _ _ _ rfl (w.heap.size + 1) l (List.replicate 12 0) rfl rfl i2 (by rw [hll]; rfl) (by rw [hll]; exact Tryz.infoA12) ?_)
      have i9 := BlkI.setRowA i2 l
      have hld9 := Tryz.loadVar12 hll i9
      exact bodyPost_ret (v := .tuple #[.agg (ia l), .int .i64 0]) (results_cell_tmp (p := 2) (q := 3) rfl _ _ (w.heap.size + 1) _ rfl _ rfl hld9) rfl ⟨by rw [HR1.out, HR2.out], below_rowA hB (by omega) _⟩
end

section
set_option linter.unusedSimpArgs false
set_option linter.unusedVariables false
open Go.RowKit Flp

set_option maxHeartbeats 1000000 in
theorem samples_w (v : Value) (us : List Value) (w : World) (hl : us.length ≤ 1000000) (h1 : ∀ u ∈ us, u.oneCell' = true) (hv : Vals w v us) :
    Calls Tryz.prog 9 #[v] w fun e w' => (∃ u, e = .returned u ∧ Vals w' u us) ∧ Below w.heap.size w w' := by
  obtain ⟨i0, hi, hz0, hz1, hz2⟩ := info_parts Tryz.infoF32
  rcases Nat.eq_zero_or_pos us.length with h0 | h0
  · obtain rfl : us = [] := List.length_eq_zero_iff.1 h0
    obtain ⟨a, cp, rfl, _, _⟩ := hv
    go_enter Tryz.func9, Tryz.ntmps9
    go_wp2_with (at_builtin; refine wpList_append_empty rfl (.tmp 3) (.tmp 4) 27 27 99 99 rfl i0 _ Tryz.underlying27 Tryz.underlying27 hi hz0 w.heap.size 0 rfl a cp rfl ?_)
    go_ret
    exact ⟨⟨_, rfl, _, _, rfl, Nat.le_refl _, fun h => by simp at h⟩, below_new _ _⟩
  · obtain ⟨b, off, cap, rfl, hcs⟩ := hv.head h0
    have k1 := below_new w (.cells #[] 99)
    have hv1 : ∀ j u, us[j]? = some u → (w.alloc (.cells #[] 99)).cell? ⟨b, off + j, none⟩ = some u := fun j u hj => cellb (hcs j u hj) k1
    go_enter Tryz.func9, Tryz.ntmps9
    go_wp2_with (at_builtin; refine wpList_append_freshO rfl (.tmp 3) (.tmp 4) 27 27 99 rfl i0 (.float .f32 0) 1 4 Tryz.underlying27 hi hz0 hz1 hz2 rfl w.heap.size 0 rfl _ us.length _ rfl (srcV hv1 Tryz.underlying27 h1) h0 (by unfold maxLen; omega) (by omega) ?_; intro u w2 hown hb)
    have hP := Vals.of_own hown
    have hb' := bthen k1 hb
    go_ret
    exact ⟨⟨_, rfl, hP⟩, hb'⟩
theorem Short_any (v : Value) (us : List Value) (w : World) (hv : Vals w v us) :
    Calls Tryz.prog 4 #[v] w fun e w' => e = .returned (.bool (decide (us.length ≤ 49 ∨ us.length = 193))) ∧ w = w' := by
  obtain ⟨a, cp, rfl, _, _⟩ := hv
  obtain ⟨n, hn⟩ : ∃ n, n = us.length := ⟨_, rfl⟩
  rw [← hn]
  by_cases h : n ≤ 49
  · have d1 : (n : Int) ≤ 49 := by omega
    have HR := Lib.hid (show decide (n ≤ 49 ∨ n = 193) = true from decide_eq_true (.inl h))
    rw [HR.out]
    clear hn
    go_enter Tryz.func4, Tryz.ntmps4
    go_wp2
    go_ret
    exact ⟨rfl, rfl⟩
  · have d1 : ¬ (n : Int) ≤ 49 := by omega
    by_cases h2 : n = 193
    · have HR := Lib.hid (show decide (n ≤ 49 ∨ n = 193) = true from decide_eq_true (.inr h2))
      rw [HR.out]
      have d2 : ((n : Int) == 193) = true := by rw [beq_iff_eq]; omega
      clear hn h2
      go_enter Tryz.func4, Tryz.ntmps4
      go_wp2
      go_ret
      exact ⟨rfl, rfl⟩
    · have HR := Lib.hid (show decide (n ≤ 49 ∨ n = 193) = false from decide_eq_false (by omega))
      rw [HR.out]
      have d2 : ((n : Int) == 193) = false := by rw [beq_eq_false_iff_ne]; omega
      clear hn
      go_enter Tryz.func4, Tryz.ntmps4
      go_wp2
      go_ret
      exact ⟨rfl, rfl⟩
theorem xsV_one (xs : List Nat) : ∀ u ∈ xsV xs, u.oneCell' = true := by
  intro v hv
  obtain ⟨n, _, rfl⟩ := List.mem_map.1 hv
  rfl
theorem recP_len (xs : List Nat) : (recP xs).length = 12 := by
  unfold recP
  split
  · rename_i h
    by_cases h0 : lenE xs.length = 0
    · have := lenE_zero h0
      simp; omega
    · exact absurd ((rec_len h0).1.symm.trans h) h0
  · simp
theorem recP_bd (xs : List Nat) : ∀ x ∈ recP xs, -100 ≤ x ∧ x ≤ 100 := by
  by_cases h0 : lenE xs.length = 0
  · by_cases hg : ∀ x ∈ xs, lvE x = 0
    · unfold recP
      split
      · intro y hy
        obtain ⟨x, hx, rfl⟩ := List.mem_map.1 hy
        exact (lv_ok (hg x (List.mem_of_mem_take hx))).2.2.1
      · intro y hy
        rw [List.eq_of_mem_replicate hy]; omega
    · have hf : ∃ x ∈ xs, lvE x ≠ 0 := by
        apply Classical.byContradiction
        intro hn
        exact hg fun x hx => Classical.byContradiction fun h => hn ⟨x, hx, h⟩
      have hne : recE xs ≠ 0 := by
        unfold recE
        rw [if_neg (fun e => e h0)]
        cases hq : xs.find? (fun x => decide (lvE x ≠ 0)) with
        | none =>
          rw [List.find?_eq_none] at hq
          obtain ⟨x, hx, hb⟩ := hf
          exact absurd (decide_eq_true hb) (hq x hx)
        | some x =>
          have := List.find?_some hq
          simpa using this
      unfold recP
      rw [if_neg hne]
      intro y hy
      rw [List.eq_of_mem_replicate hy]; omega
  · rw [(rec_len h0).2]
    intro y hy
    rw [List.eq_of_mem_replicate hy]; omega
theorem bkP2_len (S : List Int) : (bkP2 S).length = 12 := by
  unfold bkP2 bakP
  split
  · split
    · exact upto_length _ _
    · rfl
  · rfl
/-- the words of a record. -/
def rwS (l : List Int) (c : Int) : List Nat := if withinE c 1 16 = 0 then (repsI c.toNat l).map fl else []
theorem rwS_eq (l : List Int) (c : Int) : xsV (rwS l c) = if withinE c 1 16 = 0 then reps c.toNat (l.map flV) else [] := by
  unfold rwS
  split
  · rw [← repsI_map]
    unfold xsV
    rw [List.map_map]; rfl
  · rfl
theorem rwS_ord {l : List Int} (h : ∀ x ∈ l, -100 ≤ x ∧ x ≤ 100) (c : Int) : ∀ x ∈ rwS l c, FloatKind.f32.format.order x x = some .eq := by
  unfold rwS
  split
  · intro x hx
    obtain ⟨n, hn, rfl⟩ := List.mem_map.1 hx
    exact (fl_facts (h n (repsI_mem _ _ n hn))).2.1
  · intro x hx; simp at hx
theorem rwS_len {l : List Int} (hl : l.length = 12) (c : Int) : (rwS l c).length ≤ 1000000 := by
  unfold rwS
  split
  · rename_i h
    obtain ⟨h1, h2⟩ := withinE_zero h
    rw [List.length_map, repsI_len _ _ hl]
    omega
  · simp
set_option maxRecDepth 100000 in
set_option maxHeartbeats 40000000 in
theorem rec_law (S : List Int) (c : Int) (v : Value) (xs : List Nat) (w : World) (hS : S.length = 48) (hv : Vals w v (xsV xs)) (hw : Powers w) (hp : Pows w) :
    Calls Tryz.prog 3 #[.agg (ia S), .int .i64 c, v] w fun e w' => e = .returned (.bool true) ∧ Below w.heap.size w w' := by
  have TSh := Lib.hid (fun W hv => Short_any v (xsV xs) W hv)
  have hxl : (xsV xs).length = xs.length := by unfold xsV; rw [List.length_map]
  by_cases hsh : ¬ (xs.length ≤ 49 ∨ xs.length = 193)
  · rw [hxl, decide_eq_false hsh] at TSh
    clear hsh hxl
    go_enter Tryz.func3, Tryz.ntmps3
    go_upto_region 1 with fail
    obtain ⟨W1, hW1⟩ : ∃ v, v = World.alloc w (Obj.cells (ia S) 26) := ⟨_, rfl⟩
    have kW1 : Below w.heap.size w W1 := by rw [hW1]; exact below_new _ _
    have iW1 : BlkI W1 (w.heap.size) 26 S := by rw [hW1]; exact BlkI.new _ _ _
    have sW1 : W1.heap.size = w.heap.size + 1 := by rw [hW1]; simp
    rw [← hW1]
    clear hW1
    go_wp2_with fail
    refine (TSh.out W1 (hv.carry kW1)).mono ?_
    rintro e W2 ⟨rfl, rfl⟩
    go_wp2_with fail
    refine (awake_any W1 (hw.carry kW1) (hp.carry kW1)).mono ?_
    rintro e W2 ⟨rfl, hb⟩
    go_wp2
    go_ret
    exact ⟨rfl, bthen kW1 hb⟩
  · have hsh := Classical.byContradiction hsh
    rw [hxl, decide_eq_true hsh] at TSh
    have hxn : xs.length ≤ 1000000 := by omega
    clear hsh
    have TN := Lib.hid (fun W => numbers_any S W hS)
    have TB := Lib.hid (fun W hw => Back_w S W hS hw)
    have TS := Lib.hid (fun v W hv => samples_w v (xsV xs) W (by rw [hxl]; exact hxn) (xsV_one xs) hv)
    have TL := Lib.hid (fun v W hv => Levels_w v xs W hxn hv)
    have TC := Lib.hid (fun W => CheckSpectrumR_any S W hS)
    have TBR := Lib.hid (fun W h => BackR_w S W hS (sm_of h))
    have TLR := Lib.hid (fun W hv => LevelsR_w v xs W hxn hv)
    have TR := Lib.hid (fun W => Record_w (recP xs) c W (recP_len xs) (patE_mk (recP_bd xs)))
    have TRR := Lib.hid (fun k W h => RecordR_w (recP xs) k W (recP_len xs) h)
    have TW := Lib.hid (fun W => CheckRange_any c 1 16 W)
    have TSS := Lib.hid (fun a b W ha hb => SameSamples_w a b (rwS (recP xs) c) W (rwS_len (recP_len xs) c) ha hb (rwS_ord (recP_bd xs) c))
    rw [← rwS_eq] at TR
    have HSL := Lib.hid hS
    have HPL := Lib.hid (bkP2_len S)
    have HLL := Lib.hid (recP_len xs)
    have HP0 := Lib.hid (fun (h : spcE S = 0) => show bakP S = bkP2 S by unfold bkP2; rw [if_pos h])
    have HE0 := Lib.hid (fun (h : spcE S = 0) => show bakE S = bkE2 S by unfold bkE2; rw [if_pos h])
    have HP1 := Lib.hid (fun (h : spcE S ≠ 0) => show bkP2 S = zer12 by unfold bkP2; rw [if_neg h])
    have HE1 := Lib.hid (fun (h : spcE S ≠ 0) => show spcE S = bkE2 S by unfold bkE2; rw [if_neg h])
    have HRW := Lib.hid (fun (h : withinE c 1 16 = 0) => show xsV (rwS (recP xs) c) = reps c.toNat ((recP xs).map flV) by rw [rwS_eq, if_pos h])
    have HRN := Lib.hid (fun (h : withinE c 1 16 ≠ 0) => show xsV (rwS (recP xs) c) = [] by rw [rwS_eq, if_neg h])
    have HCB := Lib.hid (fun (h : withinE c 1 16 = 0) => withinE_zero h)
    clear hxl hxn hS
    generalize recP xs = L at *
    generalize recE xs = EL at *
    generalize bkP2 S = P at *
    generalize bkE2 S = EB at *
    go_enter Tryz.func3, Tryz.ntmps3
    go_upto_region 1 with fail
    obtain ⟨W1, hW1⟩ : ∃ v, v = World.alloc w (Obj.cells (ia S) 26) := ⟨_, rfl⟩
    have kW1 : Below w.heap.size w W1 := by rw [hW1]; exact below_new _ _
    have iW1 : BlkI W1 (w.heap.size) 26 S := by rw [hW1]; exact BlkI.new _ _ _
    have sW1 : W1.heap.size = w.heap.size + 1 := by rw [hW1]; simp
    rw [← hW1]
    clear hW1
    have i3 := iW1
    have hB := kW1
    clear iW1 kW1 sW1
    go_wp2_with fail
    refine (TSh.out W1 (hv.carry hB)).mono ?_
    rintro e W2 ⟨rfl, rfl⟩
    clear TSh
    have hld := load48R HSL.out i3
    go_wp2_with (refine wpList_load rfl _ _ rfl hld ?_)
    refine (TN.out W1).mono ?_
    rintro e W2 ⟨rfl, hb⟩
    clear hld TN
    replace i3 := i3.carry hb
    replace hB := bthen hB hb
    clear hb
    go_wp2_with fail
    refine (TB.out W2 (hw.carry hB)).mono ?_
    rintro e W3 ⟨rfl, hb⟩
    clear TB
    replace i3 := i3.carry hb
    replace hB := bthen hB hb
    clear hb
    go_upto_region 4 with (refine wpList_storeA rfl _ _ _ rfl W3.heap.size P (List.replicate 12 0) rfl rfl (BlkI.new W3 30 (List.replicate 12 0)) (by rw [HPL.out]; rfl) (by rw [HPL.out]; exact Tryz.infoA12) ?_)
    obtain ⟨W4, hW4⟩ : ∃ v, v = World.setRow (World.alloc W3 (Obj.cells #[.int .i64 0, .int .i64 0, .int .i64 0, .int .i64 0, .int .i64 0, .int .i64 0, .int .i64 0, .int .i64 0, .int .i64 0, .int .i64 0, .int .i64 0, .int .i64 0] 30)) W3.heap.size (ia (P)) := ⟨_, rfl⟩
    have kW4 : Below W3.heap.size W3 W4 := by rw [hW4]; exact zrow_below _ _ _ _
    have iW4 : BlkI W4 W3.heap.size 30 (P) := by rw [hW4]; exact zrow_blk W3 _ (List.replicate 12 0) _
    rw [← hW4]
    clear hW4
    replace i3 := i3.carry kW4
    replace hB := bthen hB kW4
    have i7 := iW4
    obtain ⟨G7, hG⟩ : ∃ G, G = W3.heap.size := ⟨_, rfl⟩
    rw [← hG] at i7 ⊢
    clear iW4 kW4 hG
    go_wp2_with fail
    refine (TS.out v W4 (hv.carry hB)).mono ?_
    rintro e W5 ⟨⟨u, rfl, hu⟩, hb⟩
    clear TS
    replace i3 := i3.carry hb
    replace i7 := i7.carry hb
    replace hB := bthen hB hb
    clear hb
    go_wp2_with fail
    refine (TL.out u W5 hu).mono ?_
    rintro e W6 ⟨rfl, hb⟩
    clear TL hu
    replace i3 := i3.carry hb
    replace i7 := i7.carry hb
    replace hB := bthen hB hb
    clear hb
    go_upto_region 5 with (refine wpList_storeA rfl _ _ _ rfl W6.heap.size L (List.replicate 12 0) rfl rfl (BlkI.new W6 30 (List.replicate 12 0)) (by rw [HLL.out]; rfl) (by rw [HLL.out]; exact Tryz.infoA12) ?_)
    obtain ⟨W7, hW7⟩ : ∃ v, v = World.setRow (World.alloc W6 (Obj.cells #[.int .i64 0, .int .i64 0, .int .i64 0, .int .i64 0, .int .i64 0, .int .i64 0, .int .i64 0, .int .i64 0, .int .i64 0, .int .i64 0, .int .i64 0, .int .i64 0] 30)) W6.heap.size (ia (L)) := ⟨_, rfl⟩
    have kW7 : Below W6.heap.size W6 W7 := by rw [hW7]; exact zrow_below _ _ _ _
    have iW7 : BlkI W7 W6.heap.size 30 (L) := by rw [hW7]; exact zrow_blk W6 _ (List.replicate 12 0) _
    rw [← hW7]
    clear hW7
    replace i3 := i3.carry kW7
    replace i7 := i7.carry kW7
    replace hB := bthen hB kW7
    have i9 := iW7
    obtain ⟨G9, hG⟩ : ∃ G, G = W6.heap.size := ⟨_, rfl⟩
    rw [← hG] at i9 ⊢
    clear iW7 kW7 hG
    have hld := load48R HSL.out i3
    go_wp2_with (refine wpList_load rfl _ _ rfl hld ?_)
    refine (TC.out W7).mono ?_
    rintro e W8 ⟨rfl, hb⟩
    clear hld TC
    replace i3 := i3.carry hb
    replace i7 := i7.carry hb
    replace i9 := i9.carry hb
    replace hB := bthen hB hb
    clear hb
    go_upto_region 7 with fail
    obtain ⟨W9, hW9⟩ : ∃ v, v = World.alloc W8 (Obj.cells #[.int .i64 0, .int .i64 0, .int .i64 0, .int .i64 0, .int .i64 0, .int .i64 0, .int .i64 0, .int .i64 0, .int .i64 0, .int .i64 0, .int .i64 0, .int .i64 0] 30) := ⟨_, rfl⟩
    have kW9 : Below W8.heap.size W8 W9 := by rw [hW9]; exact below_new _ _
    have iW9 : BlkI W9 (W8.heap.size) 30 (List.replicate 12 0) := by rw [hW9]; exact BlkI.new W8 30 (List.replicate 12 0)
    have sW9 : W9.heap.size = W8.heap.size + 1 := by rw [hW9]; simp
    rw [← hW9]
    clear hW9
    have l7 := Blk.lt i7
    have l9 := Blk.lt i9
    replace i3 := i3.carry kW9
    replace i7 := i7.carry kW9
    replace i9 := i9.carry kW9
    have h129 : w.heap.size ≤ W8.heap.size := hB.size
    replace hB := bthen hB kW9
    have i12 := iW9
    have s12 : W8.heap.size ≤ W9.heap.size := by rw [sW9]; omega
    obtain ⟨G12, hG⟩ : ∃ G, G = W8.heap.size := ⟨_, rfl⟩
    rw [← hG] at i12 h129 l7 l9 s12 ⊢
    clear iW9 kW9 sW9 hG
    have HI7 := Lib.hid i7
    have HI9 := Lib.hid i9
    have HB := Lib.hid hB
    have HLT := Lib.hid (And.intro l7 (And.intro l9 (And.intro h129 s12)))
    clear i7 i9 hB l7 l9 h129 s12
    generalize spcE S = bad at *
    go_upto_if 38 with fail
    go_cut [11] from 39 to 43 (fun u11 wn => u11 = .int .i64 EB ∧ BlkI wn G12 30 P ∧ Below G12 W9 wn)
    case first =>
      obtain ⟨l7, l9, h129, s12⟩ := HLT.out
      by_cases h0 : bad = 0
      · subst h0
        have TB0 := TBR.out
        rw [HP0.out rfl, HE0.out rfl] at TB0
        have hld := load48R HSL.out i3
        have TB1 := Lib.hid (TB0 W9 rfl)
        clear TB0 TBR
        go_wp2_with (refine wpList_load rfl _ _ rfl hld ?_)
        refine TB1.out.mono ?_
        rintro e Wf ⟨rfl, hb⟩
        clear hld
        replace i12 := i12.carry hb
        go_wp2_with (refine wpList_storeA rfl _ _ _ rfl G12 P (List.replicate 12 0) rfl rfl i12 (by rw [HPL.out]; rfl) (by rw [HPL.out]; exact Tryz.infoA12) ?_)
        go_meet
        exact ⟨rfl, BlkI.setRowA i12 P, below_rowA (hb.mono s12) (Nat.le_refl _) _⟩
      · have z : (bad == 0) = false := by rw [beq_eq_false_iff_ne]; exact h0
        have HPE := Lib.hid (show BlkI W9 G12 30 P by rw [HP1.out h0]; exact i12)
        have HEE := Lib.hid (HE1.out h0)
        go_wp2_with fail
        go_meet
        exact ⟨by rw [HEE.out], HPE.out, Below.refl _ _⟩
    case rest =>
      obtain ⟨rfl, i12, hA⟩ := hcut
      obtain ⟨l7, l9, h129, s12⟩ := HLT.out
      have i7 := Blk.below HI7.out hA l7
      have i9 := Blk.below HI9.out hA l9
      have hB := HB.out.trans (hA.mono h129)
      clear hA HI7 HI9 HB HLT TBR HP0 HP1 HE0 HE1 i3 l7 l9 h129 s12
      go_wp2_with fail
      refine (TLR.out wc (hv.carry hB)).mono ?_
      rintro e Wa ⟨rfl, hb⟩
      clear TLR
      replace i7 := i7.carry hb
      replace i9 := i9.carry hb
      replace i12 := i12.carry hb
      replace hB := bthen hB hb
      clear hb
      go_upto_region 10 with (refine wpList_storeA rfl _ _ _ rfl Wa.heap.size L (List.replicate 12 0) rfl rfl (BlkI.new Wa 30 (List.replicate 12 0)) (by rw [HLL.out]; rfl) (by rw [HLL.out]; exact Tryz.infoA12) ?_)
      obtain ⟨Wb, hWb⟩ : ∃ v, v = World.setRow (World.alloc Wa (Obj.cells #[.int .i64 0, .int .i64 0, .int .i64 0, .int .i64 0, .int .i64 0, .int .i64 0, .int .i64 0, .int .i64 0, .int .i64 0, .int .i64 0, .int .i64 0, .int .i64 0] 30)) Wa.heap.size (ia (L)) := ⟨_, rfl⟩
      have kWb : Below Wa.heap.size Wa Wb := by rw [hWb]; exact zrow_below _ _ _ _
      have iWb : BlkI Wb Wa.heap.size 30 (L) := by rw [hWb]; exact zrow_blk Wa _ (List.replicate 12 0) _
      rw [← hWb]
      clear hWb
      replace i7 := i7.carry kWb
      replace i9 := i9.carry kWb
      replace i12 := i12.carry kWb
      replace hB := bthen hB kWb
      have i13 := iWb
      obtain ⟨G13, hG⟩ : ∃ G, G = Wa.heap.size := ⟨_, rfl⟩
      rw [← hG] at i13 ⊢
      clear iWb kWb hG
      have hld := load12 HLL.out i13
      go_wp2_with (refine wpList_load rfl _ _ rfl hld ?_)
      refine (TR.out Wb).mono ?_
      rintro e Wc ⟨⟨u, rfl, hu⟩, hb⟩
      clear TR hld
      replace i7 := i7.carry hb
      replace i9 := i9.carry hb
      replace i12 := i12.carry hb
      replace i13 := i13.carry hb
      replace hB := bthen hB hb
      clear hb
      go_wp2_with fail
      refine (TW.out Wc).mono ?_
      rintro e Wc' ⟨rfl, rfl⟩
      have HRW2 := Lib.hid (show withinE c 1 16 = 0 → xsV (rwS L c) = reps c.toNat (L.map flV) from HRW.out)
      have HRN2 := Lib.hid (show withinE c 1 16 ≠ 0 → xsV (rwS L c) = [] from HRN.out)
      have HCB2 := Lib.hid (show withinE c 1 16 = 0 → 1 ≤ c ∧ c ≤ 16 from HCB.out)
      clear HRW HRN HCB TW
      generalize withinE c 1 16 = en at *
      go_upto_if 58 with fail
      have HB := Lib.hid hB
      go_cut [18] from 59 to 61 (fun u18 wn => Vals wn u18 (xsV (rwS L c)) ∧ Below Wc.heap.size Wc wn)
      case first =>
        by_cases h0 : en = 0
        · obtain ⟨c1, c16⟩ := HCB2.out h0
          obtain ⟨k, hk⟩ : ∃ k : Nat, c = k := ⟨c.toNat, by omega⟩
          have TR1 := TRR.out k Wc (by omega)
          have hrw := HRW2.out h0
          rw [show c.toNat = k by omega] at hrw
          rw [← hrw, ← hk] at TR1
          have TR1 := Lib.hid TR1
          subst h0
          clear c1 c16 hrw hk
          have hld := load12 HLL.out i13
          go_wp2_with (refine wpList_load rfl _ _ rfl hld ?_)
          refine TR1.out.mono ?_
          rintro e Wf ⟨⟨u2, rfl, hu2⟩, hb⟩
          go_wp2_with fail
          go_meet
          exact ⟨hu2, hb⟩
        · have z : (en == 0) = false := by rw [beq_eq_false_iff_ne]; exact h0
          have HN := Lib.hid (HRN2.out h0)
          go_wp2_with fail
          go_meet
          exact ⟨by rw [HN.out]; exact Vals.nil _, Below.refl _ _⟩
      case rest =>
        obtain ⟨hu18, hA⟩ := hcut
        replace hu := hu.carry hA
        replace i7 := i7.carry hA
        replace i9 := i9.carry hA
        replace i12 := i12.carry hA
        replace i13 := i13.carry hA
        have hB := bthen HB.out hA
        have heqP := fun W => eqInts 30 12 Tryz.undA12 P P HPL.out HPL.out W
        have heqL := fun W => eqInts 30 12 Tryz.undA12 L L HLL.out HLL.out W
        simp only [beq_self_eq_true] at heqP heqL
        have a7 := load12 HPL.out i7
        have a9 := load12 HLL.out i9
        have a12 := load12 HPL.out i12
        have a13 := load12 HLL.out i13
        have TQ := Lib.hid (TSS.out _ _ wc hu hu18)
        clear TRR TSS HRW2 HRN2 HCB2 HB hA
        go_wp2_with (first | refine wpList_load rfl _ _ rfl a7 ?_ | refine wpList_load rfl _ _ rfl a12 ?_ | refine wpList_loadG rfl _ _ rfl a9 ?_ | refine wpList_loadG rfl _ _ rfl a13 ?_)
        refine TQ.out.mono ?_
        rintro e Wf ⟨rfl, hb⟩
        replace hB := bthen hB hb
        go_wp2_with fail
        refine (awake_any Wf (hw.carry hB) (hp.carry hB)).mono ?_
        rintro e Wg ⟨rfl, hb2⟩
        go_wp2
        go_ret
        exact ⟨rfl, bthen hB hb2⟩
end

end Go.Proofs.YtfeajpkjjlddlaaGreatDoor

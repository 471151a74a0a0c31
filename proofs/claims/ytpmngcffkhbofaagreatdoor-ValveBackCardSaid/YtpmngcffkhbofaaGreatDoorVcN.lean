/- Package valve: Worn, Wear. -/
import Derived.Test.YtpmngcffkhbofaaGreatDoorVcK
namespace Go.Proofs.YtpmngcffkhbofaaGreatDoor
section
set_option linter.unusedSimpArgs false
set_option linter.unusedVariables false
open Go.RowKit Flp
def gtF (a b : Nat) : Bool := FloatKind.f32.format.order a b == some .gt
def worE (xs : List Nat) (x : Nat) : Int := firstE (xs.map smpE ++ [smpE x])
def worK (xs : List Nat) (x : Nat) (k : Nat) : List Int := ((List.range k).filter fun i => gtF (xs[i]?.getD 0) x).map fun (i : Nat) => (i : Int)
def worR (xs : List Nat) (x : Nat) : List Int := if worE xs x = 0 then worK xs x 12 else []
theorem worK_succ (xs : List Nat) (x : Nat) (k : Nat) : worK xs x (k + 1) = worK xs x k ++ (if gtF (xs[k]?.getD 0) x = true then [(k : Int)] else []) := by
 unfold worK
 rw [List.range_succ, List.filter_append, List.map_append]
 congr 1
 by_cases h : gtF (xs[k]?.getD 0) x = true
 ·rw [if_pos h]; simp [h]
 ·rw [if_neg h]; simp [h]
theorem worK_len (xs : List Nat) (x : Nat) (k : Nat) : (worK xs x k).length ≤ k := by
 unfold worK
 rw [List.length_map]
 exact Nat.le_trans (List.length_filter_le _ _) (by simp)
theorem flat_nV (l : List Int) : l.flatMap nV = l.map (Value.int .i64) := by
 induction l with
 | nil => rfl
 | cons x l ih => rw [List.flatMap_cons, ih]; rfl
theorem Tryz.enterCS (args : Array Value) (w : World) : Sem.run Tryz.prog (callFunc 80 args) w = .ok (.enter 80 args) w :=
 MuLone.run_callFunc_enter Tryz.func80 (by kernel_rfl) rfl args w
theorem Rw.of_fa {w : World} {B : Nat} {T : TypeId} {l : List Nat} (h : BlkF w B T l) (n : Nat) (hn : n = l.length) : Rw 1 fV w (.slice (some ⟨B, 0, none⟩) n n) l := by
 subst hn
 refine ⟨_, _, rfl, Nat.le_refl _, fun _ => ⟨B, 0, rfl, fun j x hj i u hi => ?_⟩⟩
 cases i with
 | zero =>
   simp [fV] at hi
   subst hi
   rw [Nat.zero_add, Nat.mul_one, Nat.add_zero]
   exact Blk.cell h (by rw [List.getElem?_map, hj]; rfl)
 | succ i => simp [fV] at hi
set_option maxRecDepth 100000 in
set_option maxHeartbeats 4000000 in
theorem Worn_any (xs : List Nat) (x : Nat) (w : World) (hx : xs.length = 12) :
 Calls Tryz.prog 33 #[.agg (fa xs), .float .f32 x] w fun r w' => (∃ u, r = .returned (.tuple #[u, .int .i64 (worE xs x)]) ∧ Ints w' u (worR xs x)) ∧ Below w.heap.size w w' := by
 have TM := Lib.hid (fun (v : Value) (W : World) (h : Rw 1 fV W v xs) => mapFE_any 80 #[] Tryz.enterCS smpE v xs W (by omega) h (fun y _ w1 _ => CheckSample_w y w1))
 have TS := Lib.hid (fun W => CheckSample_w x W)
 have h0 : worE xs x ≠ 0 → worR xs x = [] := fun h => by unfold worR; rw [if_neg h]
 have h1 : worE xs x = 0 → worR xs x = worK xs x 12 := fun h => by unfold worR; rw [if_pos h]
 have TF := Lib.hid (fun (u : Value) (W : World) (h : Ints W u (xs.map smpE ++ [smpE x])) => first_any u _ W (by simp [maxLen, hx]) h)
 have hE : worE xs x = firstE (xs.map smpE ++ [smpE x]) := rfl
 rw [← hE] at TF
 have HML := Lib.hid (show (xs.map smpE).length = 12 by rw [List.length_map, hx])
 obtain ⟨ML, hML⟩ : ∃ l, l = xs.map smpE := ⟨_, rfl⟩
 rw [← hML] at TM TF HML
 obtain ⟨E, hEE⟩ : ∃ e, e = worE xs x := ⟨_, rfl⟩
 rw [← hEE] at TF h0 h1 ⊢
 obtain ⟨R, hR⟩ : ∃ e, e = worR xs x := ⟨_, rfl⟩
 rw [← hR] at h0 h1 ⊢
 obtain ⟨sx, hsx⟩ : ∃ e, e = smpE x := ⟨_, rfl⟩
 rw [← hsx] at TS TF
 have H0 := Lib.hid h0
 have H1 := Lib.hid h1
 have HX := Lib.hid hx
 obtain ⟨i0, hi, hz0, hz1, hz2⟩ := info_parts Tryz.infZapiErrno
 obtain ⟨j0, hj, hy0, hy1, hy2⟩ := info_parts Tryz.infZint
 clear h0 h1 hE hEE hR hML hsx
 go_enter Tryz.func33, Tryz.ntmps33
 go_upto_region 1 with fail
 obtain ⟨W1, hW1⟩ : ∃ v, v = World.alloc w (Obj.cells (fa xs) 79) := ⟨_, rfl⟩
 have kW1 : Below w.heap.size w W1 := by rw [hW1]; exact below_new _ _
 have iW1 : BlkF W1 w.heap.size 79 xs := by rw [hW1]; exact Blk.new _ _ _
 rw [← hW1]
 clear hW1
 have hw1 := kW1.size
 have iW0 := iW1
 have hrw := Rw.of_fa iW1 12 HX.out.symm
 go_wp2_with fail
 refine (TM.out _ W1 hrw).mono ?_
 rintro e w2 ⟨⟨u, rfl, hu⟩, hb2⟩
 have hW1s : W1.heap.size ≤ w2.heap.size := hb2.size
 replace iW1 := Blk.carry iW1 hb2
 have hB := bthen kW1 hb2
 clear hb2 hrw kW1 TM
 go_wp2_with fail
 refine (TS.out w2).mono ?_
 rintro e w3 ⟨rfl, hb3⟩
 replace iW1 := Blk.carry iW1 hb3
 replace hB := bthen hB hb3
 replace hW1s : W1.heap.size ≤ w3.heap.size := Nat.le_trans hW1s hb3.size
 have hu3 := hu.carry hb3
 clear hu hb3 TS
 have kn := below_new w3 (.cells #[.int .i64 sx] 27)
 have hu4 := own_below hu3 kn
 have iW4 := Blk.carry iW1 kn
 have hB4 := bthen hB kn
 have hs4 : W1.heap.size ≤ (w3.alloc (.cells #[.int .i64 sx] 27)).heap.size := Nat.le_trans hW1s kn.size
 clear hu3 iW1 hB
 go_wp2_with (at_builtin; refine wpList_append_own _ rfl (.tmp 11) (.tmp 14) 150 rfl W1.heap.size 27 i0 (.int .i64 0) 1 8 Tryz.undZapiErrno hi hz0 hz1 hz2 rfl (by decide) u ML.length _ rfl hu4 ⟨w3.heap.size, 0, none⟩ 1 1 [.int .i64 sx] rfl rfl (cell_one_new _ _ _) (by simp [Value.oneCell']) (by unfold maxLen; rw [HML.out]; omega) (by rw [HML.out]; omega) hs4 ?_; intro v5 w5 hown5 hgrow5 _)
 have hB5 : Below w.heap.size w w5 := hB4.grown hgrow5 (Nat.le_trans hw1 hs4) (fun k' hk' => by have := (World.ownsRow.lt hu4 k' hk').1; omega)
 have iW5 := Blk.kept iW4 hgrow5 (fun e' => by have := (World.ownsRow.lt hu4 _ e'.symm).1; have := Blk.lt iW0; omega)
 have hv5 : Ints w5 v5 (ML ++ [sx]) := Ints.of_own (n := ML.length + 1) (base := W1.heap.size) (e := 27) (by rw [List.map_append, ← flat_nV]; exact hown5) (by simp)
 clear hown5 hgrow5 hu4 iW4 hB4 hs4 kn
 go_wp2_with fail
 refine (TF.out v5 w5 hv5).mono ?_
 rintro e w6 ⟨rfl, rfl⟩
 clear TF hv5 hW1s
 by_cases hz : E = 0
 ·subst hz
  obtain rfl := H1.out (by trivial)
  have hld := loadF12 HX.out iW5
  have HB5 := Lib.hid hB5
  clear H0 H1
  go_wp2_with (refine wpList_load rfl _ _ rfl hld ?_)
  go_loopw [7, 21] (fun u i wr => ∃ k : Nat, k ≤ 12 ∧ i = .int .i64 k ∧ wr.ownsRow w5.heap.size 3 1 u (worK xs x k).length ((worK xs x k).map (Value.int .i64)) ∧ Below w5.heap.size w5 wr) (fun _ i _ => 12 - (intOf i).toNat)
  case atStart => exact ⟨0, by omega, rfl, World.ownsRow_nil _ _ _ _, Below.refl _ _⟩
  case round =>
   clear iW5 hld
   obtain ⟨k, hk, rfl, hown, hbel⟩ := hrel
   obtain ⟨oa, oc, rfl⟩ := own_slice hown
   by_cases hlt : k < 12
   ·have hdk : (k : Int) < 12 := by omega
    have hidx := fun W => idxF12 HX.out hlt W
    have hs := worK_succ xs x k
    have hl := worK_len xs x k
    obtain ⟨y, hy⟩ : ∃ y, y = xs[k]?.getD 0 := ⟨_, rfl⟩
    rw [← hy] at hidx hs
    obtain ⟨L, hL⟩ : ∃ L, L = worK xs x k := ⟨_, rfl⟩
    rw [← hL] at hs hl hown ⊢
    obtain ⟨g, hg⟩ : ∃ g, g = gtF y x := ⟨_, rfl⟩
    rw [← hg] at hs
    have hgo : (FloatKind.f32.format.order y x == some .gt) = g := hg.symm
    have HS := Lib.hid hs
    clear hs hy hL hg
    cases g with
    | true =>
      rw [if_pos rfl] at HS
      have kn := below_new wr (.cells #[.int .i64 (k : Int)] 3)
      have hown2 := own_below hown kn
      have hbel2 := bthen hbel kn
      have hs2 := hbel2.size
      clear hown hbel
      go_wp2_with (at_builtin; refine wpList_append_own _ rfl (.tmp 28) (.tmp 30) 63 rfl w5.heap.size 3 j0 (.int .i64 0) 1 8 Tryz.undZint hj hy0 hy1 hy2 rfl (by decide) (.slice oa L.length oc) L.length _ rfl hown2 ⟨wr.heap.size, 0, none⟩ 1 1 [.int .i64 (k : Int)] rfl rfl (cell_one_new _ _ _) (by simp [Value.oneCell']) (by unfold maxLen; omega) (by omega) hs2 ?_; intro v9 w9 hown9 hgrow9 _)
      have hbel9 := hbel2.grown hgrow9 hs2 (fun k' hk' => (World.ownsRow.lt hown2 k' hk').1)
      have hown5 : w9.ownsRow w5.heap.size 3 1 v9 (L ++ [(k : Int)]).length ((L ++ [(k : Int)]).map (Value.int .i64)) := by
       rw [List.length_append, List.map_append]; exact hown9
      clear hown9 hgrow9 hown2 hbel2 hs2 kn
      (try go_wp2)
      go_roundw
      case rel => exact ⟨k + 1, by omega, by go_num, by rw [HS.out]; exact hown5, hbel9⟩
      case measure => simp [intOf]; omega
    | false =>
      rw [if_neg (by decide), List.append_nil] at HS
      go_wp2
      go_roundw
      case rel => exact ⟨k + 1, by omega, by go_num, by rw [HS.out]; exact hown, hbel⟩
      case measure => simp [intOf]; omega
   ·obtain rfl : k = 12 := by omega
    have hdk : ¬ ((12 : Nat) : Int) < 12 := by omega
    have HI := Lib.hid (Ints.of_own hown rfl)
    obtain ⟨L, hL⟩ : ∃ L, L = worK xs x 12 := ⟨_, rfl⟩
    rw [← hL] at HI hown ⊢
    have HL := Lib.hid hL
    clear hL hown
    go_wp2
    refine bodyPost_ret (v := .tuple #[.slice oa L.length oc, .int .i64 0]) (by simp [results, Tryz.f33, go_sem]) rfl ?_
    exact ⟨⟨_, rfl, by rw [← HL.out]; exact HI.out⟩, bthen HB5.out hbel⟩
 ·obtain rfl := H0.out hz
  have b1 : (E != 0) = true := by rw [bne_iff_ne]; exact hz
  clear H0 H1 hz
  go_wp2
  refine bodyPost_ret (v := .tuple #[.slice none 0 0, .int .i64 E]) (by simp [results, Tryz.f33, go_sem]) rfl ?_
  exact ⟨⟨_, rfl, Ints.nil _⟩, hB5⟩
end
section
set_option linter.unusedSimpArgs false
set_option linter.unusedVariables false
open Go.RowKit Flp
def usedV (l : List P2) (ws : List Int) (i : Nat) : Int := swS l i (l.length - 1) * (ws[i]?.getD 0)
def wearB (l : List P2) (ws : List Int) : Bool := (List.range 12).any fun i => decide (16384 < usedV l ws i)
def wgG (_ : Nat) (n : Int) : Int := withinE n 0 1024
def wear1E (l : List P2) (ws : List Int) : Int := firstE [trainE l, eachE wgG ws]
def wearE (l : List P2) (ws : List Int) : Int := if wear1E l ws = 0 then (if wearB l ws = true then 4 else 0) else wear1E l ws
def zerF : List Nat := List.replicate 12 0
def wearK (l : List P2) (ws : List Int) (k : Nat) : List Nat := upto (fun i => if i < k then wq (usedV l ws i) else 0) 12
def wearR (l : List P2) (ws : List Int) : List Nat := if wearE l ws = 0 then wearK l ws 12 else zerF
theorem wearK_zero (l : List P2) (ws : List Int) : zerF = wearK l ws 0 := by
 unfold wearK zerF upto
 rw [show (fun i => if i < 0 then wq (usedV l ws i) else 0) = fun _ => 0 from funext fun i => by rw [if_neg (by omega)]]
 rfl
theorem wearK_len (l : List P2) (ws : List Int) (k : Nat) : (wearK l ws k).length = 12 := upto_length _ _
theorem wearK_set (l : List P2) (ws : List Int) (k : Nat) : (wearK l ws k).set k (wq (usedV l ws k)) = wearK l ws (k + 1) := by
 unfold wearK
 refine upto_set _ _ _ _ _ ?_ ?_
 ·rw [if_pos (by omega)]
 ·intro i hi
  by_cases h : i < k
  ·rw [if_pos (by omega), if_pos h]
  ·rw [if_neg (by omega), if_neg h]
theorem wgG_ok {ws : List Int} (h : eachE wgG ws = 0) : ∀ n ∈ ws, 0 ≤ n ∧ n ≤ 1024 := by
 intro n hn
 obtain ⟨k, hk⟩ := List.getElem?_of_mem hn
 have := eachE_zero h k n hk
 unfold wgG at this
 rw [withinE_zero] at this
 exact this
theorem wear1E_ok {l : List P2} {ws : List Int} (h : wear1E l ws = 0) : TrOk l ∧ ∀ n ∈ ws, 0 ≤ n ∧ n ≤ 1024 := by
 unfold wear1E at h
 rw [firstE_cons0, firstE_cons0] at h
 exact ⟨trainE_ok h.1, wgG_ok h.2.1⟩
theorem BlkF.set {w : World} {B : Nat} {T : TypeId} {l : List Nat} (h : BlkF w B T l) (j : Nat) (x : Nat) : BlkF (w.setCell ⟨B, j, none⟩ (.float .f32 x)) B T (l.set j x) := by
 have := Blk.set h j (.float .f32 x)
 rwa [← List.map_set] at this
theorem BlkF.cell {w : World} {B : Nat} {T : TypeId} {l : List Nat} (h : BlkF w B T l) {j : Nat} (hj : j < l.length) : w.cell? ⟨B, j, none⟩ = some (.float .f32 (l[j]?.getD 0)) := Blk.cell h (by simp [hj])
theorem usedV_rng {l : List P2} {ws : List Int} (hl : l.length ≤ 256) (hw : ∀ n ∈ ws, 0 ≤ n ∧ n ≤ 1024) (i : Nat) : 0 ≤ usedV l ws i ∧ usedV l ws i ≤ 262144 := by
 have h1 := swS_rng l i (l.length - 1)
 have h2 : 0 ≤ ws[i]?.getD 0 ∧ ws[i]?.getD 0 ≤ 1024 := by
  cases hq : ws[i]? with
  | none => simp
  | some y => exact hw y (List.mem_of_getElem? hq)
 have h3 : swS l i (l.length - 1) ≤ 256 := by omega
 unfold usedV
 constructor
 ·exact Int.mul_nonneg h1.1 h2.1
 ·have := Int.mul_le_mul h3 h2.2 h2.1 (by omega)
  omega
set_option maxRecDepth 100000 in
set_option maxHeartbeats 8000000 in
theorem Wear_any (v : Value) (l : List P2) (ws : List Int) (w : World) (hl : l.length ≤ 1000000) (hws : ws.length = 12) (hv : Prs w v l) :
 Calls Tryz.prog 32 #[v, .agg (ia ws)] w fun r w' => r = .returned (.tuple #[.agg (fa (wearR l ws)), .int .i64 (wearE l ws)]) ∧ Below w.heap.size w w' := by
 have TE := Lib.hid (fun (u : Value) (W : World) (h : Ints W u ws) => eachI_any 78 #[] Tryz.enterWe1 wgG (fun _ _ => True) W.heap.size u ws W (by omega) (Nat.le_refl _) (fun w1 h1 => h.carry h1) trivial (fun _ _ _ _ _ => trivial) (fun k x hx w1 h1 _ => (Wear1_any k x w1).mono fun r w2 ⟨hr, hb⟩ => ⟨hr, by rw [← hb]; exact Below.refl _ _, fun _ => trivial⟩))
 have TC := Lib.hid (fun W (h : Prs W v l) => CheckTrain_any v l W (by omega) h)
 have TS := Lib.hid (fun W (hok : TrOk l) (h : Prs W v l) => switchings_any v l W hl hok h)
 have hE1 : wear1E l ws = firstE [trainE l, eachE wgG ws] := rfl
 have h0 : wear1E l ws ≠ 0 → wearE l ws = wear1E l ws ∧ wearR l ws = zerF := fun h => by
  have e : wearE l ws = wear1E l ws := by unfold wearE; rw [if_neg h]
  exact ⟨e, by unfold wearR; rw [if_neg (by rw [e]; exact h)]⟩
 have h1 : wear1E l ws = 0 → ∀ k, k < 12 → 16384 < usedV l ws k → wearE l ws = 4 ∧ wearR l ws = zerF := fun h k hk hu => by
  have hb : wearB l ws = true := by
   unfold wearB
   rw [List.any_eq_true]
   exact ⟨k, List.mem_range.2 hk, decide_eq_true hu⟩
  have e : wearE l ws = 4 := by unfold wearE; rw [if_pos h, if_pos hb]
  exact ⟨e, by unfold wearR; rw [if_neg (by rw [e]; decide)]⟩
 have h2 : wear1E l ws = 0 → (∀ k, k < 12 → usedV l ws k ≤ 16384) → wearE l ws = 0 ∧ wearR l ws = wearK l ws 12 := fun h hu => by
  have hb : wearB l ws = false := by
   unfold wearB
   rw [List.any_eq_false]
   intro k hk
   rw [decide_eq_true_eq]
   have := hu k (List.mem_range.1 hk)
   omega
  have e : wearE l ws = 0 := by unfold wearE; rw [if_pos h, hb]; rfl
  exact ⟨e, by unfold wearR; rw [if_pos e]⟩
 have hok := @wear1E_ok l ws
 obtain ⟨e0, he0⟩ : ∃ e, e = trainE l := ⟨_, rfl⟩
 obtain ⟨e1, he1⟩ : ∃ e, e = eachE wgG ws := ⟨_, rfl⟩
 rw [← he0, ← he1] at hE1
 rw [← he0] at TC
 rw [← he1] at TE
 have TF := Lib.hid (fun W => first2 e0 e1 27 W)
 rw [← hE1] at TF
 obtain ⟨E1, hE1'⟩ : ∃ e, e = wear1E l ws := ⟨_, rfl⟩
 rw [← hE1'] at TF h0 h1 h2 hok
 obtain ⟨E, hE⟩ : ∃ e, e = wearE l ws := ⟨_, rfl⟩
 obtain ⟨R, hR⟩ : ∃ e, e = wearR l ws := ⟨_, rfl⟩
 rw [← hE, ← hR] at h0 h1 h2 ⊢
 obtain ⟨va, vc, rfl, -⟩ := hv.slice
 have H0 := Lib.hid h0
 have H1 := Lib.hid h1
 have H2 := Lib.hid h2
 have HOK := Lib.hid hok
 have HWS := Lib.hid hws
 have hinf := Tryz.infoF12
 clear h0 h1 h2 hok hE1 he0 he1 hE1' hE hR hws
 go_enter Tryz.func32, Tryz.ntmps32
 go_upto_region 1 with fail
 obtain ⟨W1, hW1⟩ : ∃ v, v = World.alloc w (Obj.cells (ia ws) 75) := ⟨_, rfl⟩
 have kW1 : Below w.heap.size w W1 := by rw [hW1]; exact below_new _ _
 have iW1 : BlkI W1 w.heap.size 75 ws := by rw [hW1]; exact BlkI.new _ _ _
 have sW1 : W1.heap.size = w.heap.size + 1 := by rw [hW1]; simp
 rw [← hW1]
 clear hW1
 obtain ⟨W2, hW2⟩ : ∃ v, v = World.alloc W1 (Obj.cells (fa zerF) 79) := ⟨_, rfl⟩
 have hW2' : W2 = W1.alloc (Obj.cells #[Value.float FloatKind.f32 0, Value.float FloatKind.f32 0, Value.float FloatKind.f32 0, Value.float FloatKind.f32 0, Value.float FloatKind.f32 0, Value.float FloatKind.f32 0, Value.float FloatKind.f32 0, Value.float FloatKind.f32 0, Value.float FloatKind.f32 0, Value.float FloatKind.f32 0, Value.float FloatKind.f32 0, Value.float FloatKind.f32 0] 79) := hW2
 have kW2 : Below W1.heap.size W1 W2 := by rw [hW2]; exact below_new _ _
 have i2 : BlkF W2 (w.heap.size + 1) 79 zerF := by rw [hW2, ← sW1]; exact Blk.new _ _ _
 have i1 : BlkI W2 w.heap.size 75 ws := Blk.carry iW1 kW2
 rw [← hW2']
 have hB := bthen kW1 kW2
 have hv := hv.carry hB
 clear hW2 hW2' kW1 kW2 iW1 sW1
 go_wp2_with fail
 refine (TE.out _ W2 (BlkI.ints i1 HWS.out.symm)).mono ?_
 rintro e w3 ⟨rfl, hb3⟩
 replace i1 := Blk.carry i1 hb3
 replace i2 := Blk.carry i2 hb3
 replace hB := bthen hB hb3
 replace hv := hv.carry hb3
 clear hb3 TE
 go_wp2_with fail
 refine (TC.out w3 hv).mono ?_
 rintro e w4 ⟨rfl, hb4⟩
 replace i1 := Blk.carry i1 hb4
 replace i2 := Blk.carry i2 hb4
 replace hB := bthen hB hb4
 replace hv := hv.carry hb4
 clear hb4 TC
 go_wp2_with fail
 refine (TF.out w4).mono ?_
 rintro e w5 ⟨rfl, hw5⟩
 have hb5 : Below w4.heap.size w4 w5 := by rw [← hw5]; exact below_new _ _
 replace i1 := Blk.carry i1 hb5
 replace i2 := Blk.carry i2 hb5
 replace hB := bthen hB hb5
 replace hv := hv.carry hb5
 clear hb5 hw5 TF
 by_cases hz : E1 = 0
 ·subst hz
  have H1' := Lib.hid (H1.out (by trivial))
  have H2' := Lib.hid (H2.out (by trivial))
  obtain ⟨hok, hwr⟩ := HOK.out (by trivial)
  have HUR := Lib.hid (usedV_rng hok.len hwr)
  have TS2 := Lib.hid (show (∀ W, Prs W (.slice va l.length vc) l → _) ∧ Prs w5 (.slice va l.length vc) l from ⟨fun W h => TS.out W hok h, hv⟩)
  clear H0 H1 H2 HOK TS hok hwr hv
  go_upto_region 6 with fail
  obtain ⟨W6, hW6⟩ : ∃ v, v = World.alloc w5 (Obj.cells (fa zerF) 79) := ⟨_, rfl⟩
  have hW6' : W6 = w5.alloc (Obj.cells #[Value.float FloatKind.f32 0, Value.float FloatKind.f32 0, Value.float FloatKind.f32 0, Value.float FloatKind.f32 0, Value.float FloatKind.f32 0, Value.float FloatKind.f32 0, Value.float FloatKind.f32 0, Value.float FloatKind.f32 0, Value.float FloatKind.f32 0, Value.float FloatKind.f32 0, Value.float FloatKind.f32 0, Value.float FloatKind.f32 0] 79) := hW6
  have kW6 : Below w5.heap.size w5 W6 := by rw [hW6]; exact below_new _ _
  have i6 : BlkF W6 w5.heap.size 79 zerF := by rw [hW6]; exact Blk.new _ _ _
  rw [← hW6']
  have hG : w.heap.size + 1 < w5.heap.size := Blk.lt i2
  replace i1 := Blk.carry i1 kW6
  replace i2 := Blk.carry i2 kW6
  replace hB := bthen hB kW6
  have TS3 := Lib.hid (TS2.out.1 W6 (TS2.out.2.carry kW6))
  obtain ⟨G, hGe⟩ : ∃ G, G = w5.heap.size := ⟨_, rfl⟩
  rw [← hGe] at i6 hG ⊢
  clear hW6 hW6' kW6 hGe TS2
  go_wp2_with fail
  refine TS3.out.mono ?_
  rintro e w7 ⟨rfl, hb7⟩
  replace i1 := Blk.carry i1 hb7
  replace i2 := Blk.carry i2 hb7
  replace i6 := Blk.carry i6 hb7
  replace hB := bthen hB hb7
  rw [wearK_zero l ws] at i6
  clear hb7 TS3
  go_wp2_with fail
  go_loopw [25] (fun i wx => ∃ k : Nat, k ≤ 12 ∧ i = .int .i64 k ∧ (∀ j, j < k → usedV l ws j ≤ 16384) ∧ BlkF wx G 79 (wearK l ws k) ∧ BlkF wx (w.heap.size + 1) 79 zerF ∧ BlkI wx w.heap.size 75 ws ∧ Below w.heap.size w wx) (fun i _ => 12 - (intOf i).toNat)
  case atStart => exact ⟨0, by omega, rfl, (fun j hj => by omega), i6, i2, i1, hB⟩
  case round =>
   clear i6 i2 i1 hB
   obtain ⟨k, hk, rfl, hall, i6, i2, i1, hB⟩ := hrel
   have HALL := Lib.hid hall
   clear hall
   by_cases hlt : k < 12
   ·have hdk : (k : Int) < 12 := by omega
    have hidx := fun W => idx12 (swL_len l) hlt W
    have hsk : (swL l)[k]?.getD 0 = swS l k (l.length - 1) := by
     unfold swL
     rw [upto_get _ _ _ hlt]; rfl
    rw [hsk] at hidx
    have c1 := BlkI.cell i1 (j := k) (by rw [HWS.out]; exact hlt)
    have hur := HUR.out k
    have hu : usedV l ws k = swS l k (l.length - 1) * (ws[k]?.getD 0) := rfl
    obtain ⟨S, hS⟩ : ∃ S, S = swS l k (l.length - 1) := ⟨_, rfl⟩
    obtain ⟨y, hy⟩ : ∃ y, y = ws[k]?.getD 0 := ⟨_, rfl⟩
    rw [← hS] at hidx hu
    rw [← hy] at c1 hu
    have hset := wearK_set l ws k
    obtain ⟨U, hU⟩ : ∃ U, U = usedV l ws k := ⟨_, rfl⟩
    rw [← hU] at hur hu hset
    have q1 : IntKind.i64.wrap (S * y) = U := by rw [← hu]; exact IntWalk.i64_in _ (by omega)
    have HU := Lib.hid hU
    have HSET := Lib.hid hset
    clear hsk hS hy hU hu hset
    by_cases hbig : 16384 < U
    ·obtain ⟨rfl, rfl⟩ := H1'.out k hlt (by rw [← HU.out]; exact hbig)
     have hr2 := BlkF.setRowA i2 zerF
     have hld := loadF12 rfl hr2
     clear H1' H2' HALL i6
     go_wp2_with (refine wpList_storeF rfl _ _ _ rfl (w.heap.size + 1) zerF zerF rfl rfl i2 rfl hinf ?_)
     exact bodyPost_ret (v := .tuple #[.agg (fa zerF), .int .i64 4]) (results_cell_tmp (p := 4) (q := 5) rfl _ _ (w.heap.size + 1) _ rfl _ rfl hld) rfl ⟨rfl, below_rowA hB (by omega) _⟩
    ·have HNB := Lib.hid (show ∀ j, j < k + 1 → usedV l ws j ≤ 16384 from fun j hj => by
      by_cases e : j = k
      ·subst e; rw [← HU.out]; omega
      ·exact HALL.out j (by omega))
     have g := fun W => wq_run (P := Tryz.prog) W 78 U (by omega)
     obtain ⟨z, hz⟩ : ∃ z, z = floatOfInt .f32 U := ⟨_, rfl⟩
     rw [← hz] at g
     have k1 : floatOfInt .f32 U = z := hz.symm
     obtain ⟨Q, hQ⟩ : ∃ q, q = wq U := ⟨_, rfl⟩
     rw [← hQ] at g HSET
     have hnb : ¬ 16384 < U := hbig
     have hst := fun a m W => run_store Tryz.prog W a (.float .f32 Q) m rfl
     have c6 := BlkF.cell i6 (j := k) (by rw [wearK_len]; exact hlt)
     have f6 := Blk.frozen i6 k
     have j6 := BlkF.set i6 k Q
     have j2 := Blk.other i2 (show w.heap.size + 1 ≠ G by omega) (j := k) (.float .f32 Q)
     have j1 := Blk.other i1 (show w.heap.size ≠ G by omega) (j := k) (.float .f32 Q)
     have hB2 := hB.setCell (p := ⟨G, k, none⟩) (show w.heap.size ≤ G by omega) (.float .f32 Q)
     rw [HSET.out] at j6
     have J6 := Lib.hid j6
     have J2 := Lib.hid j2
     have J1 := Lib.hid j1
     have HB2 := Lib.hid hB2
     clear hz hQ i6 i2 i1 j6 j2 j1 hB2 hB HALL hbig
     go_wp2
     go_roundw
     case rel => exact ⟨k + 1, by omega, by go_num, HNB.out, J6.out, J2.out, J1.out, HB2.out⟩
     case measure => simp [intOf]; omega
   ·obtain rfl : k = 12 := by omega
    have hdk : ¬ ((12 : Nat) : Int) < 12 := by omega
    obtain ⟨rfl, rfl⟩ := H2'.out HALL.out
    have hld := loadF12 (wearK_len l ws 12) i6
    have hr2 := BlkF.setRowA i2 (wearK l ws 12)
    have hld2 := loadF12 (wearK_len l ws 12) hr2
    have hinf2 : (Tryz.prog.info? 79).map (·.size) = some (wearK l ws 12).length := by rw [wearK_len]; exact hinf
    have hlo : zerF.length = (wearK l ws 12).length := by rw [wearK_len]; rfl
    obtain ⟨L, hL⟩ : ∃ L, L = wearK l ws 12 := ⟨_, rfl⟩
    rw [← hL] at hld hld2 hr2 hinf2 hlo
    have HL := Lib.hid hL
    clear H1' H2' HALL i6 hL hr2
    go_wp2_with (first | refine wpList_load rfl _ _ rfl hld ?_ | refine wpList_storeF rfl _ _ _ rfl (w.heap.size + 1) L zerF rfl rfl i2 hlo hinf2 ?_)
    exact bodyPost_ret (v := .tuple #[.agg (fa L), .int .i64 0]) (results_cell_tmp (p := 4) (q := 5) rfl _ _ (w.heap.size + 1) _ rfl _ rfl hld2) rfl ⟨by rw [HL.out], below_rowA hB (by omega) _⟩
 ·obtain ⟨rfl, rfl⟩ := H0.out hz
  have b1 : (E != 0) = true := by rw [bne_iff_ne]; exact hz
  have hr2 := BlkF.setRowA i2 zerF
  have hld := loadF12 rfl hr2
  clear H0 H1 H2 HOK TS hv hz
  go_wp2_with (refine wpList_storeF rfl _ _ _ rfl (w.heap.size + 1) zerF zerF rfl rfl i2 rfl hinf ?_)
  exact bodyPost_ret (v := .tuple #[.agg (fa zerF), .int .i64 E]) (results_cell_tmp (p := 4) (q := 5) rfl _ _ (w.heap.size + 1) _ rfl _ rfl hld) rfl ⟨rfl, below_rowA hB (by omega) _⟩
end
section
set_option linter.unusedSimpArgs false
set_option linter.unusedVariables false
open Go.RowKit Flp
def exA : List P2 := [(1, 3), (2, 3), (3, 5), (4, 5)]
def exB : List P2 := [(1, 3), (2, 1), (3, 5), (4, 5), (5, 4)]
def exC : List P2 := [(2, 1), (4, 5)]
def exD : List P2 := [(1, 3), (2, 3), (3, 5), (4, 5), (5, 4)]
def exV : List P2 := [(1, 3), (2, 1), (3, 5), (4, 5)]
def exM : List Mo := [(⟨#[109, 49]⟩, 0, 10, 2), (⟨#[109, 50]⟩, 5, 20, 3)]
def exO : List I3 := [(8, 4, 10), (15, 8, 6)]
def exL : List Lg := [(0, exA), (1, exB), (2, exC)]
def exT : List Tg := [(0, 65535, 0, 0, 0, 0), (3, 0, 9, 9, 0, 0), (0, 1, 0, 0, 0, 0)]
def exK : List P2 := [(0, 1), (1, 5), (0, 4), (3, 5), (4, 5), (5, 5), (6, 5), (7, 5), (8, 5), (9, 5), (10, 5), (11, 5)]
theorem ex_dif : difT (difO 0 1 exA exB) = 2 ∧ (difO 0 1 exA exB).isSome = true ∧ difE 0 1 exA exB = 0 := ⟨by kernel_rfl, by kernel_rfl, by kernel_rfl⟩
theorem ex_ch2 : chT 0 1 exA exB 1 2 = 3 ∧ chE 0 1 exA exB 1 2 = 0 := ⟨by kernel_rfl, by kernel_rfl⟩
theorem ex_ch3 : chT 0 1 exA exB 1 3 = 0 ∧ chE 0 1 exA exB 1 3 = 7 := ⟨by kernel_rfl, by kernel_rfl⟩
theorem ex_swt : swtE 0 1 exA exB 3 = 0 ∧ swtR 0 1 exA exB 3 = exD := ⟨by kernel_rfl, by kernel_rfl⟩
theorem ex_trn : trnL 1 [3, 3, 5, 5, 4] 5 = exD := by kernel_rfl
theorem ex_bmp : bumpsE exD 1 = 0 ∧ bumpsR exD 1 = [3] := ⟨by kernel_rfl, by kernel_rfl⟩
theorem ex_beh0 : behE exL 0 = 0 ∧ behR exL 0 = [0, 2] := ⟨by kernel_rfl, by kernel_rfl⟩
theorem ex_beh1 : behE exL 1 = 0 ∧ behR exL 1 = [] := ⟨by kernel_rfl, by kernel_rfl⟩
theorem ex_vot : votE exL = 0 ∧ votR exL = exV := ⟨by kernel_rfl, by kernel_rfl⟩
theorem ex_tel : logE 0 exA = 0 ∧ telR 0 exA = [(0, 1, 3, 0, 0, 0), (0, 2, 3, 0, 0, 0), (0, 3, 5, 0, 0, 0), (0, 4, 5, 0, 0, 0)] := ⟨by kernel_rfl, by kernel_rfl⟩
theorem ex_rc : rcE 0 0 exT = 0 ∧ rcR 0 0 exT = (0, [(65535, 0), (65537, 0)]) := ⟨by kernel_rfl, by kernel_rfl⟩
theorem ex_mis : misE exK 8 3 = 0 ∧ misR exK 8 3 = [0, 2] := ⟨by kernel_rfl, by kernel_rfl⟩
theorem ex_sw : swOr exA = [0, 1, 1, 0, 0, 0, 0, 0, 0, 0, 0, 0] ∧ trainE exA = 0 := ⟨by kernel_rfl, by kernel_rfl⟩
theorem ex_wear : wearR exA [8, 8, 8, 0, 0, 0, 0, 0, 0, 0, 0, 0] = [0, 1056964608, 1056964608, 0, 0, 0, 0, 0, 0, 0, 0, 0] ∧ wearE exA [8, 8, 8, 0, 0, 0, 0, 0, 0, 0, 0, 0] = 0 := ⟨by kernel_rfl, by kernel_rfl⟩
theorem ex_worn : worR [0, 1056964608, 1056964608, 0, 0, 0, 0, 0, 0, 0, 0, 0] 1048576000 = [1, 2] ∧ worE [0, 1056964608, 1056964608, 0, 0, 0, 0, 0, 0, 0, 0, 0] 1048576000 = 0 := ⟨by kernel_rfl, by kernel_rfl⟩
theorem ex_byp : bypE exA 1 = 0 ∧ bypR exA 1 = [(1, 2), (2, 2), (3, 4), (4, 4)] := ⟨by kernel_rfl, by kernel_rfl⟩
theorem ex_sub : substE exA 2 3 = 0 ∧ substR exA 2 3 = [(1, 3), (2, 3), (3, 9), (4, 9)] := ⟨by kernel_rfl, by kernel_rfl⟩
theorem ex_plan : planR exM exO = [0, 1] ∧ planC exM exO = 16 ∧ planE exM exO = 0 := ⟨by kernel_rfl, by kernel_rfl, by kernel_rfl⟩
theorem ex_pri : priR exM exO = [10, 0] ∧ priE exM exO = 0 := ⟨by kernel_rfl, by kernel_rfl⟩
theorem ex_prf : prR exM exO [4, 6] = 10 ∧ prE exM exO [4, 6] = 0 := ⟨by kernel_rfl, by kernel_rfl⟩
theorem ex_spr0 : sprR exM exO [0, 1] [] = 2 ∧ sprE exM exO [0, 1] [] = 0 := ⟨by kernel_rfl, by kernel_rfl⟩
theorem ex_spr1 : sprR exM exO [0, 1] [(15, 1)] = 1 ∧ sprE exM exO [0, 1] [(15, 1)] = 0 := ⟨by kernel_rfl, by kernel_rfl⟩
theorem ex_prt : prtS 2 exC = ⟨#[108, 111, 103, 32, 50, 10, 112, 117, 108, 115, 101, 32, 50, 32, 49, 10, 112, 117, 108, 115, 101, 32, 52, 32, 53, 10]⟩ ∧ logE 2 exC = 0 := ⟨by kernel_rfl, by kernel_rfl⟩
theorem ex_tr1 : trnL 1 [3, 1, 5, 5] 4 = exV := by kernel_rfl
theorem ex_tr2 : trnL 1 [2, 2, 4, 4] 4 = [(1, 2), (2, 2), (3, 4), (4, 4)] := by kernel_rfl
theorem ex_tr3 : trnL 1 [3, 3, 9, 9] 4 = [(1, 3), (2, 3), (3, 9), (4, 9)] := by kernel_rfl
theorem ex_neqT (W : World) : Sem.run Tryz.prog (binOp .neq 53 (.agg #[.int .i64 0, .int .i64 3, .int .i64 5, .int .i64 0, .int .i64 0, .int .i64 0]) (.agg #[.int .i64 0, .int .i64 3, .int .i64 5, .int .i64 0, .int .i64 0, .int .i64 0])) W = .ok (.bool false) W := by kernel_rfl
theorem ex_eqI (W : World) : Sem.run Tryz.prog (Op.equalIn 10000 75 (.agg (ia [0, 1, 1, 0, 0, 0, 0, 0, 0, 0, 0, 0])) (.agg #[.int .i64 0, .int .i64 1, .int .i64 1, .int .i64 0, .int .i64 0, .int .i64 0, .int .i64 0, .int .i64 0, .int .i64 0, .int .i64 0, .int .i64 0, .int .i64 0])) W = .ok true W := by kernel_rfl
theorem ex_eqF (W : World) : Sem.run Tryz.prog (Op.equalIn 10000 79 (.agg (fa [0, 1056964608, 1056964608, 0, 0, 0, 0, 0, 0, 0, 0, 0])) (.agg #[.float .f32 0, .float .f32 1056964608, .float .f32 1056964608, .float .f32 0, .float .f32 0, .float .f32 0, .float .f32 0, .float .f32 0, .float .f32 0, .float .f32 0, .float .f32 0, .float .f32 0])) W = .ok true W := by kernel_rfl
theorem ex_fld (x : Int) (a : Option Addr) (n c : Nat) (W : World) : Sem.run Tryz.prog (Instr.field 32 (.agg #[.int .i64 x, .slice a n c]) 1) W = .ok (.slice a n c) W := by kernel_rfl
theorem wpList_loadG {P : Program} {w : World} {ops : Array Oper} {rest : List Oper} {o : Oper} {a : Act} {Q : Exit → Act → World → Prop} (hg : Region.wanted o (yielded ops a.tmps) = true) (t : TypeId) (x : Operand) (hop : o.op = Op.load t x) {v : Value}
 (h : (Instr.loadAt t (a.eval x)).run P w = .ok v w) (hK : wpList P ops Q rest (a.put o.dst v) w) : wpList P ops Q (o :: rest) a w := by
 refine wpList_step fun K hK' => ?_
 rw [if_pos hg]
 unfold Oper.wp execOp
 simp only [hop, h, Sem.run_bind, Sem.run_pure, Result.andThen_ok]
 exact hK' _ _ hK
end
end Go.Proofs.YtpmngcffkhbofaaGreatDoor

/- Package valve: slices.SortedFunc over deliveries. -/
import Derived.Test.YtpmngcffkhbofaaGreatDoorVcC
import Derived.Test.YtpmngcffkhbofaaGreatDoorSort
import Derived.Maps.OwnIn
namespace Go.Proofs.YtpmngcffkhbofaaGreatDoor
section
set_option linter.unusedSimpArgs false
set_option linter.unusedVariables false
open Go.RowKit Go.Maps Go.Sort
attribute [local go_sem] Oper.semAt_some
/-- the law for a loop over an iterator of pairs that the round boxes. -/
theorem wp_rangeB {P : Program} {g : Operand} {p s : Nat} {T : TypeId} {assign body : Code} {Q : Exit → Act → World → Prop} {a : Act} {w : World}
 {gf : Nat} {lb : Array Value} (hg : a.eval g = .func (.func gf) #[] lb) (eg : ∀ args w, (callFunc gf args).run P w = .ok (.enter gf args) w)
 {X : List P2 → P2 → Prop} {Kp : World → World → Prop} {S Sp : List P2 → Prop} {w0 : World} (hseq : SeqX Fence.wide 4 P gf lb (fun x : P2 => #[.agg #[.int .i64 x.1, .int .i64 x.2]]) (fun pre x _ => X pre x) Kp S Sp false w0)
 (hKt : ∀ {A B C : World}, Kp A B → Kp B C → Kp A C) (hKb : ∀ (W : World) (l : Nat) (o o' : Obj), w.heap.size ≤ l → W.heap[l]? = some o → o.isCells = false → o.isWalk = false → Kp W (W.putObj l o')) (hb0 : Below w0.heap.size w0 w)
 (I : List P2 → World → Prop) (Ix : Code → List P2 → World → Prop) (hI : OwnFrom w.heap.size I) (hIx : ∀ c, OwnFrom w.heap.size (Ix c)) (h0 : I [] w)
 (hKl : ∀ pre W W', I pre W → Below W.heap.size W W' → Kp W W')
 (hassign : ∀ (l : Nat) (x : P2) (W : World) (K : Act → World → Prop), (∀ (B8 : Nat) (W' : World), Below W.heap.size W W' → BlkI W' B8 T [x.1, x.2] → W.heap.size ≤ B8 → K { tmps := (a.tmps.setIfInBounds p (.agg #[.int .i64 x.1, .int .i64 x.2])).setIfInBounds s (.pointer (some ⟨B8, 0, none⟩)), defers := [] } W') →
   assign.wpIn (Fence.wide.inRound l) 3 P (Exit.then K (fun _ _ _ => False)) { tmps := a.tmps.setIfInBounds p (.agg #[.int .i64 x.1, .int .i64 x.2]), defers := [] } W)
 (hbody : ∀ (l : Nat) (pre : List P2) (x : P2) (B8 : Nat) (W : World), I pre W → X pre x → BlkI W B8 T [x.1, x.2] → w.heap.size ≤ B8 → body.wpIn (Fence.wide.inRound l) 3 P (ownPostG w.heap.size Kp I Ix (pre ++ [x]) W) { tmps := (a.tmps.setIfInBounds p (.agg #[.int .i64 x.1, .int .i64 x.2])).setIfInBounds s (.pointer (some ⟨B8, 0, none⟩)), defers := [] } W)
 (hsz : ∀ pre W, I pre W → w.heap.size ≤ W.heap.size)
 (hdone : ∀ (D : Nat) (xs : List P2) (W : World), w.heap.size ≤ D → S xs → I xs W → W.heap[D]? = some (.deferred (some [])) → Q .normal { a with defers := { target := .collected D, args := #[] } :: a.defers } W)
 (hstop : ∀ (D : Nat) (c : Code) (pre : List P2) (W : World), w.heap.size ≤ D → Sp pre → Ix c pre W → W.heap[D]? = some (.deferred (some [])) → c.wp P Q { a with defers := { target := .collected D, args := #[] } :: a.defers } W) :
 (Code.rangeFunc g #[p] assign body).wp P Q a w :=
 (wpIn_wide (n := 5)).1 (wpIn_rangeX rfl (by omega) hg trivial eg hseq hKt hKb hb0 (fun _ => rfl) I Ix hI hIx h0 (fun e => by cases e)
   (fun pre x a' W => ∃ B8, a' = { tmps := (a.tmps.setIfInBounds p (.agg #[.int .i64 x.1, .int .i64 x.2])).setIfInBounds s (.pointer (some ⟨B8, 0, none⟩)), defers := [] } ∧ BlkI W B8 T [x.1, x.2] ∧ w.heap.size ≤ B8 ∧ X pre x)
   (fun pre x a' _ A B row ⟨B8, h1, h2, h4, h6⟩ hg hr => ⟨B8, h1, blk_own h2 hg (fun r e => ne_of_blk h2 (hr r e).2), h4, h6⟩)
   (fun l pre x W K hi hx hK => by
     have e : ((#[p].zip #[Value.agg #[.int .i64 x.1, .int .i64 x.2]]).foldl (fun t (p, v) => t.setIfInBounds p v) a.tmps) = a.tmps.setIfInBounds p (.agg #[.int .i64 x.1, .int .i64 x.2]) := by simp
     rw [e]
     have hW := hsz _ _ hi
     exact hassign l x W K (fun B8 W' hb h8 n8 => hK _ _ ((keeps_of_below hb).from _) (hKl _ _ _ hi hb) (hI _ _ _ none hi (grownD hb) (fun r e => by cases e)) ⟨B8, rfl, h8, by omega, hx⟩))
   (fun l pre x a' W hi ⟨B8, e, h8, n8, hx⟩ => by subst e; exact hbody l pre x B8 W hi hx h8 n8) hdone (fun D c pre W h1 h2 h3 h4 => wpIn_wide.2 (hstop D c pre W h1 h2 h3 h4)))
set_option maxRecDepth 100000 in
set_option maxHeartbeats 2000000 in
theorem values1_in (l B : Nat) (a : Option Addr) (n cp : Nat) (ds : List P2) (J Jx : List P2 → World → Prop) (w0 : World) (hn9 : n ≤ 1000000) (hv : Prs w0 (.slice a n cp) ds)
 (hY : ∀ pre x W, J pre W → (∃ post, ds = pre ++ x :: post) → YieldAt Fence.wide 3 Tryz.prog l #[.agg #[.int .i64 x.1, .int .i64 x.2]] W fun e W' =>
   (e = .returned (.bool true) ∧ J (pre ++ [x]) W' ∧ Below w0.heap.size W W') ∨ (e = .returned (.bool false) ∧ Jx (pre ++ [x]) W'))
 (hJ : ∀ pre A B, J pre A → A.grownBy B none → J pre B)
 (W : World) (hW : Below w0.heap.size w0 W) (iB : Blk W B 96 [.slice a n cp]) (h00 : J [] W) :
 CallsIn Fence.wide 4 Tryz.prog 151 #[.func (.yield l) #[] #[], .pointer (some ⟨B, 0, none⟩)] W fun e W' => (∃ v, e = .returned v) ∧ (J ds W' ∨ (∃ pre, Jx pre W')) := by
 refine callsIn_of_wp Tryz.func151 rfl trivial ?_ rfl
 simp only [Tryz.ntmps151, List.size_toArray, List.length_cons, List.length_nil, Nat.reduceAdd, Nat.reduceSub, Array.replicate_succ, Array.replicate_zero, List.push_toArray, List.append_toArray, List.nil_append, List.cons_append]
 have hwf : ∀ f, Fence.wide.fn f := fun _ => trivial
 have HY := Lib.hid hY
 have HJ := Lib.hid hJ
 have HV := Lib.hid hv
 have HN := Lib.hid hv.len
 have x1 := iB.cell (j := 0) (v := .slice a n cp) rfl
 clear hY hJ hv iB
 gi_wp2_with fail
 gi_loopw [7] (fun i wr => ∃ (k : Nat), k ≤ n ∧ i = .int .i64 (k : Int) ∧ J (ds.take k) wr ∧ Below w0.heap.size w0 wr)
  (fun r _ => match r with | .int _ n => (1000000 - n).toNat | _ => 0)
 case atStart => exact ⟨0, Nat.zero_le _, rfl, h00, hW⟩
 case round =>
  clear x1
  obtain ⟨k, hk, rfl, hj, hbel⟩ := hrel
  by_cases hkn : k = n
  ·subst hkn
   have hn : ¬ (k : Int) < (k : Int) := by omega
   rw [List.take_of_length_le (by rw [HN.out]; exact Nat.le_refl _)] at hj
   gi_wp2
   go_end0
   exact ⟨⟨_, rfl⟩, .inl hj⟩
  ·have hlt : (k : Int) < (n : Int) := by omega
   obtain ⟨p, hp⟩ : ∃ p, ds[k]? = some p := ⟨_, List.getElem?_eq_getElem (by rw [← HN.out]; omega)⟩
   obtain ⟨b, off, cp', he, hcs⟩ := (HV.out.carry hbel).head (by rw [← HN.out]; omega)
   simp only [Value.slice.injEq] at he
   obtain ⟨rfl, -, rfl⟩ := he
   obtain ⟨d0, d1⟩ := rw2 (hcs k p hp) (show pV p = [.int .i64 p.1, .int .i64 p.2] from rfl)
   have hts : ds.take (k + 1) = ds.take k ++ [p] := by rw [List.take_add_one, hp]; rfl
   have hsp : ds = ds.take k ++ p :: ds.drop (k + 1) := by
    have h := (List.take_append_drop (k + 1) ds).symm
    rw [hts] at h
    simpa using h
   obtain ⟨px, py⟩ := p
   dsimp only at d0 d1
   have HTS := Lib.hid hts
   have HSP := Lib.hid hsp
   have hw0 := hbel.size
   clear hcs hp hts hsp
   gi_upto_region 3 with fail
   obtain ⟨W1, hW1⟩ : ∃ v, v = World.alloc wr (Obj.cells #[.int .i64 px, .int .i64 py] 95) := ⟨_, rfl⟩
   have kW1 : Below wr.heap.size wr W1 := by rw [hW1]; exact below_new _ _
   have iW1 : Blk W1 (wr.heap.size) 95 [.int .i64 px, .int .i64 py] := by rw [hW1]; exact Blk.new _ _ _
   have sW1 : W1.heap.size = wr.heap.size + 1 := by rw [hW1]; simp
   rw [← hW1]
   clear hW1
   have e0 := iW1.cell (j := 0) (v := .int .i64 px) rfl
   have e1 := iW1.cell (j := 1) (v := .int .i64 py) rfl
   have hj1 := HJ.out _ wr W1 hj (grownD kW1)
   have hbel1 := hbel.trans (kW1.mono hw0)
   obtain ⟨fn, tmps, assign, body, hy, hR2⟩ := HY.out _ (px, py) W1 hj1 ⟨_, HSP.out⟩
   simp only at hy
   clear d0 d1 hj hbel iW1 sW1 kW1 hj1
   gi_wp2_with fail
   refine hR2.mono ?_
   rintro e W3 (⟨rfl, hj3, hk3⟩ | ⟨rfl, hjx⟩)
   ·clear hR2 hy
    gi_wp2
    go_roundw
    case rel => exact ⟨k + 1, by omega, by go_num, by rw [HTS.out]; exact hj3, hbel1.trans hk3⟩
    case measure => simp; omega
   ·clear hR2 hy
    gi_wp2
    refine bodyPost_ret (results_none rfl _ _ _) rfl ?_
    exact ⟨⟨_, rfl⟩, .inr ⟨_, hjx⟩⟩
theorem values_any (a : Option Addr) (n c : Nat) (w : World) :
 Calls Tryz.prog 104 #[.slice a n c] w fun e w' => e = .returned (.func (.func 151) #[] #[.pointer (some ⟨w.heap.size, 0, none⟩)]) ∧ w.alloc (.cells #[.slice a n c] 96) = w' := by
 go_enter Tryz.func104, Tryz.ntmps104
 go_wp2
 go_ret
 exact ⟨rfl, rfl⟩
end
section
set_option linter.unusedSimpArgs false
set_option linter.unusedVariables false
open Go.RowKit Go.Maps Go.Sort
attribute [local go_sem] Oper.semAt_some
theorem isNaNI_any (x : Int) (w : World) : Calls Tryz.prog 177 #[.int .i64 x] w fun r w' => r = .returned (.bool false) ∧ w = w' := by
 go_enter Tryz.func177, Tryz.ntmps177
 go_wp2
 go_ret
 exact ⟨ret_bool (by simp), rfl⟩
/-- cmp.Compare. -/
def cmpI (x y : Int) : Int := if x < y then -1 else if y < x then 1 else 0
set_option maxHeartbeats 400000 in
theorem CompareI_any (x y : Int) (w : World) : Calls Tryz.prog 138 #[.int .i64 x, .int .i64 y] w fun r w' => r = .returned (.int .i64 (cmpI x y)) ∧ w = w' := by
 by_cases h1 : x < y
 ·have H := Lib.hid (show cmpI x y = -1 by simp [cmpI, h1])
  generalize cmpI x y = r at H ⊢
  go_enter Tryz.func138, Tryz.ntmps138
  go_wp2_with fail
  refine (isNaNI_any _ _).mono ?_
  rintro e w' ⟨rfl, rfl⟩
  go_wp2_with fail
  refine (isNaNI_any _ _).mono ?_
  rintro e w' ⟨rfl, rfl⟩
  go_wp2
  go_ret
  exact ⟨ret_int H.out.symm, rfl⟩
 ·by_cases h2 : y < x
  ·have H := Lib.hid (show cmpI x y = 1 by simp [cmpI, h1, h2])
   generalize cmpI x y = r at H ⊢
   go_enter Tryz.func138, Tryz.ntmps138
   go_wp2_with fail
   refine (isNaNI_any _ _).mono ?_
   rintro e w' ⟨rfl, rfl⟩
   go_wp2_with fail
   refine (isNaNI_any _ _).mono ?_
   rintro e w' ⟨rfl, rfl⟩
   go_wp2
   go_ret
   exact ⟨ret_int H.out.symm, rfl⟩
  ·have H := Lib.hid (show cmpI x y = 0 by simp [cmpI, h1, h2])
   generalize cmpI x y = r at H ⊢
   go_enter Tryz.func138, Tryz.ntmps138
   go_wp2_with fail
   refine (isNaNI_any _ _).mono ?_
   rintro e w' ⟨rfl, rfl⟩
   go_wp2_with fail
   refine (isNaNI_any _ _).mono ?_
   rintro e w' ⟨rfl, rfl⟩
   go_wp2
   go_ret
   exact ⟨ret_int H.out.symm, rfl⟩
def cmpP (x y : P2) : Int := cmpI x.1 y.1
theorem ltP (x y : P2) : ltOf cmpP x y = decide (x.1 < y.1) := by
 unfold ltOf cmpP cmpI
 by_cases h1 : x.1 < y.1
 ·simp [h1]
 ·by_cases h2 : y.1 < x.1 <;> simp [h1, h2]
theorem swoP : SWO (ltOf cmpP) where
 irrefl x := by rw [ltP]; simp
 trans x y z h1 h2 := by rw [ltP] at *; simp at *; omega
 ntrans x y z h1 h2 := by rw [ltP] at *; simp at *; omega
theorem Tryz.enterCmpD (args : Array Value) (w : World) : Sem.run Tryz.prog (callFunc 105 args) w = .ok (.enter 105 args) w :=
 MuLone.run_callFunc_enter Tryz.func105 (by kernel_rfl) rfl args w
theorem Tryz.enterCmpP (args : Array Value) (w : World) : Sem.run Tryz.prog (callFunc 71 args) w = .ok (.enter 71 args) w :=
 MuLone.run_callFunc_enter Tryz.func71 (by kernel_rfl) rfl args w
theorem compareD_any (a b c d : Int) (w : World) : Calls Tryz.prog 105 #[.agg #[.int .i64 a, .int .i64 b], .agg #[.int .i64 c, .int .i64 d]] w fun r w' => r = .returned (.int .i64 (cmpI a c)) ∧ w' = (w.alloc (.cells #[.int .i64 a, .int .i64 b] 95)).alloc (.cells #[.int .i64 c, .int .i64 d] 95) := by
 have T := Lib.hid (fun W => CompareI_any a c W)
 go_enter Tryz.func105, Tryz.ntmps105
 go_wp2_with fail
 refine (T.out _).mono ?_
 rintro e w' ⟨rfl, rfl⟩
 go_wp2
 go_ret
 exact ⟨rfl, rfl⟩
theorem compareP_any (a b c d : Int) (w : World) : Calls Tryz.prog 71 #[.agg #[.int .i64 a, .int .i64 b], .agg #[.int .i64 c, .int .i64 d]] w fun r w' => r = .returned (.int .i64 (cmpI a c)) ∧ w' = (w.alloc (.cells #[.int .i64 a, .int .i64 b] 104)).alloc (.cells #[.int .i64 c, .int .i64 d] 104) := by
 have T := Lib.hid (fun W => CompareI_any a c W)
 go_enter Tryz.func71, Tryz.ntmps71
 go_wp2_with fail
 refine (T.out _).mono ?_
 rintro e w' ⟨rfl, rfl⟩
 go_wp2
 go_ret
 exact ⟨rfl, rfl⟩
theorem grow2 (w : World) (o o' : Obj) : ∃ q os', (w.alloc o).alloc o' = Go.Sort.grow (w.drewN q) os' := ⟨0, _, by rw [alloc_eq_grow, alloc_eq_grow, grow_grow]; rfl⟩
theorem lays_D (blk off size : Nat) (w : World) : CmpLays Tryz.prog 105 #[] pV 2 cmpP blk off size w := fun m os dk hs x y => by
 refine Calls.mono (compareD_any x.1 x.2 y.1 y.2 _) ?_
 rintro e w' ⟨rfl, rfl⟩
 exact ⟨rfl, grow2 _ _ _⟩
theorem lays_P (blk off size : Nat) (w : World) : CmpLays Tryz.prog 71 #[] pV 2 cmpP blk off size w := fun m os dk hs x y => by
 refine Calls.mono (compareP_any x.1 x.2 y.1 y.2 _) ?_
 rintro e w' ⟨rfl, rfl⟩
 exact ⟨rfl, grow2 _ _ _⟩
theorem below_mapBlock {B blk : Nat} {w0 w : World} (h : Below B w0 w) (hb : B ≤ blk) (f : Array Value → Array Value) : Below B w0 (mapBlock w blk f) :=
 h.trans ⟨rfl, rfl, rfl, by simp [mapBlock], fun k hk => by simp [mapBlock, Array.getElem?_modify]; omega⟩
theorem below_growS {B : Nat} {w0 w : World} (h : Below B w0 w) (hb : B ≤ w.heap.size) (os : Array Obj) : Below B w0 (Go.Sort.grow w os) :=
 h.trans ⟨rfl, rfl, rfl, by simp [Go.Sort.grow], fun k hk => by
  show (w.heap ++ os)[k]? = w.heap[k]?
  rw [Array.getElem?_append_left (by omega)]⟩
theorem below_sortK {B blk off n : Nat} {w0 w : World} (h : Below B w0 w) (hb : B ≤ blk) (hlt : blk < w.heap.size) (d : Array P2) (os : Array Obj) : Below B w0 (sortWorldK pV 2 w blk off n d os) := by
 have h1 : Below B w0 (Sort.ahead w n) := h.trans ⟨rfl, rfl, rfl, Nat.le_refl _, fun _ _ => rfl⟩
 have h2 := below_mapBlock h1 hb (putCells id off (flatK pV 2 d))
 refine below_growS h2 ?_ os
 have e : (mapBlock (Sort.ahead w n) blk (putCells id off (flatK pV 2 d))).heap.size = w.heap.size := by simp [mapBlock, Sort.ahead]
 omega
theorem holds_own {w : World} {g : Nat} {cur : Array Value} {T : TypeId} {l : List P2} (hh : w.heap[g]? = some (.cells cur T (0, 0))) (ht : cur.toList.take (l.length * 2) = l.flatMap pV) : HoldsK pV 2 w g 0 l.toArray := fun j hj => by
 have hj2 : j < l.length * 2 := by simpa using hj
 have hx : j / 2 < l.length := by omega
 have hm : j % 2 < 2 := Nat.mod_lt _ (by decide)
 have h1 := flat_get pV_len l (j / 2) l[j / 2] (List.getElem?_eq_getElem hx) (j % 2) (pV l[j / 2])[j % 2] (List.getElem?_eq_getElem (by rw [pV_len]; exact hm))
 rw [show j / 2 * 2 + j % 2 = j by omega] at h1
 have e := congrArg (fun x : List Value => x[j]?) ht
 simp only [List.getElem?_take] at e
 rw [if_pos hj2, h1] at e
 have hc : cur[j]? = some ((pV l[j / 2])[j % 2]'(by rw [pV_len]; exact hm)) := by rw [← Array.getElem?_toList]; exact e
 have hf : (flatK pV 2 l.toArray)[j]! = (pV l[j / 2])[j % 2]'(by rw [pV_len]; exact hm) := by
  rw [get_flatK _ _ _ _ (by simpa using hj2)]
  have : l.toArray[j / 2]! = l[j / 2] := by rw [getElem!_pos _ (j / 2) (by simpa using hx)]; simp
  rw [this, getElem!_pos _ (j % 2) (by rw [pV_len]; exact hm)]
 refine ⟨?_, ?_⟩
 ·rw [Nat.zero_add, hf]
  simp [World.cell?, hh, hc]
 ·simp [World.frozen?, hh]
theorem rw_holds {w : World} {g cap : Nat} {l : List P2} (h : HoldsK pV 2 w g 0 l.toArray) (hc : l.length ≤ cap) : Prs w (.slice (some ⟨g, 0, none⟩) l.length cap) l := by
 refine ⟨_, cap, rfl, hc, fun _ => ⟨g, 0, rfl, fun j x hj i u hi => ?_⟩⟩
 have hlt := (List.getElem?_eq_some_iff.1 hj).1
 have hi2 : i < 2 := by have := (List.getElem?_eq_some_iff.1 hi).1; rwa [pV_len] at this
 have h1 := (h (j * 2 + i) (by simp; omega)).1
 rw [get_flatK _ _ _ _ (by simp; omega)] at h1
 rw [show (j * 2 + i) / 2 = j by omega, show (j * 2 + i) % 2 = i by omega] at h1
 have e1 : l.toArray[j]! = x := by
  rw [getElem!_pos _ j (by simpa using hlt)]
  have := (List.getElem?_eq_some_iff.1 hj).2
  simpa using this
 rw [e1, getElem!_pos _ i (by rw [pV_len]; exact hi2)] at h1
 have e2 : (pV x)[i]'(by rw [pV_len]; exact hi2) = u := (List.getElem?_eq_some_iff.1 hi).2
 rw [e2] at h1
 rw [Nat.zero_add] at h1 ⊢
 exact h1
theorem perm_of_in {d d' : Array P2} (h : PermIn 0 d.size d d') : d'.toList.Perm d.toList := by
 obtain ⟨h1, _, h3⟩ := h
 have e1 : (d'.extract 0 d.size) = d' := by rw [← h1]; simp
 have e2 : (d.extract 0 d.size) = d := by simp
 rwa [e1, e2] at h3
theorem sorted_of_in {d : Array P2} {n : Nat} (h : SortedIn (ltOf cmpP) 0 n d) (hn : n = d.size) : d.toList.Pairwise (fun x y => x.1 ≤ y.1) := by
 rw [List.pairwise_iff_getElem]
 intro i j hi hj hij
 have := h i j (Nat.zero_le _) hij (by rw [hn]; simpa using hj)
 rw [ltP, decide_eq_false_iff_not] at this
 rw [getElem!_pos d i (by simpa using hi), getElem!_pos d j (by simpa using hj)] at this
 simp only [Array.getElem_toList]
 omega
theorem sizeD (w : World) : (Go.sizeOf 95).run Tryz.prog w = .ok 2 w := by kernel_rfl
theorem sizeP (w : World) : (Go.sizeOf 104).run Tryz.prog w = .ok 2 w := by kernel_rfl
theorem aggD (w : World) : (isAgg 95).run Tryz.prog w = .ok true w := by kernel_rfl
theorem aggP (w : World) : (isAgg 104).run Tryz.prog w = .ok true w := by kernel_rfl
theorem pV_cell (x : P2) : ∀ v ∈ pV x, v.oneCell' = true := fun v hv => by
 simp [pV] at hv
 rcases hv with rfl | rfl <;> rfl
set_option maxHeartbeats 1000000 in
theorem sortD_any (base : Nat) (v : Value) (l : List P2) (w : World) (hl : l.length ≤ 1000000) (hown : OwR w base 95 2 pV v l) :
 Calls Tryz.prog 150 #[v, .func (.func 105) #[] #[]] w fun e w' => (e = .returned (.tuple #[]) ∧ ∃ l', l'.Perm l ∧ l'.Pairwise (fun x y => x.1 ≤ y.1) ∧ Prs w' v l') ∧ Below base w w' := by
 obtain ⟨h1, h2⟩ := hown
 rcases h2 with ⟨rfl, h2⟩ | ⟨g, cap, cur, rfl, hg, hh, hnc, hcap, hcs, htk⟩
 ·obtain rfl := List.length_eq_zero_iff.1 h2
  refine Calls.mono (AnyF.slices_SortFunc_none { Tryz.sortD with } none 0 _ w) ?_
  rintro e w' ⟨rfl, rfl⟩
  exact ⟨⟨rfl, [], List.Perm.refl _, List.Pairwise.nil, Rw.nil _ _ _ _ _⟩, Below.refl _ _⟩
 have hblk : g < w.heap.size := (Array.getElem?_eq_some_iff.1 hh).1
 have hH := holds_own hh htk
 have hcon := AnyQ.slices_SortFunc Tryz.sortD 2 aggD sizeD pV pV_len pV_cell cmpP swoP 105 #[] g 0 cap l.toArray w Tryz.enterCmpD (lays_D g 0 _ w) hH hblk (by simp; omega)
 refine Calls.mono (f := 150) hcon ?_
 rintro e w' ⟨rfl, d', n, os, hp, hs, rfl⟩
 have hsz : d'.size = l.toArray.size := hp.1
 have hlen : d'.toList.length = l.length := by simpa using hsz
 refine ⟨⟨rfl, d'.toList, by simpa using perm_of_in hp, sorted_of_in hs hsz.symm, ?_⟩, below_sortK (Below.refl _ _) hg hblk _ _⟩
 have := rw_holds (l := d'.toList) (cap := cap) (holdsK_sortWorldK_c pV 2 w g 0 l.toArray d' n os hH hblk hsz) (by rw [hlen]; exact hnc)
 rwa [hlen] at this
set_option maxHeartbeats 1000000 in
theorem sortP_any (base : Nat) (v : Value) (l : List P2) (w : World) (hl : l.length ≤ 1000000) (hown : OwR w base 104 2 pV v l) :
 Calls Tryz.prog 70 #[v, .func (.func 71) #[] #[]] w fun e w' => (e = .returned (.tuple #[]) ∧ ∃ l', l'.Perm l ∧ l'.Pairwise (fun x y => x.1 ≤ y.1) ∧ Prs w' v l') ∧ Below base w w' := by
 obtain ⟨h1, h2⟩ := hown
 rcases h2 with ⟨rfl, h2⟩ | ⟨g, cap, cur, rfl, hg, hh, hnc, hcap, hcs, htk⟩
 ·obtain rfl := List.length_eq_zero_iff.1 h2
  refine Calls.mono (AnyF.slices_SortFunc_none { Tryz.sortP with } none 0 _ w) ?_
  rintro e w' ⟨rfl, rfl⟩
  exact ⟨⟨rfl, [], List.Perm.refl _, List.Pairwise.nil, Rw.nil _ _ _ _ _⟩, Below.refl _ _⟩
 have hblk : g < w.heap.size := (Array.getElem?_eq_some_iff.1 hh).1
 have hH := holds_own hh htk
 have hcon := AnyQ.slices_SortFunc Tryz.sortP 2 aggP sizeP pV pV_len pV_cell cmpP swoP 71 #[] g 0 cap l.toArray w Tryz.enterCmpP (lays_P g 0 _ w) hH hblk (by simp; omega)
 refine Calls.mono (f := 70) hcon ?_
 rintro e w' ⟨rfl, d', n, os, hp, hs, rfl⟩
 have hsz : d'.size = l.toArray.size := hp.1
 have hlen : d'.toList.length = l.length := by simpa using hsz
 refine ⟨⟨rfl, d'.toList, by simpa using perm_of_in hp, sorted_of_in hs hsz.symm, ?_⟩, below_sortK (Below.refl _ _) hg hblk _ _⟩
 have := rw_holds (l := d'.toList) (cap := cap) (holdsK_sortWorldK_c pV 2 w g 0 l.toArray d' n os hH hblk hsz) (by rw [hlen]; exact hnc)
 rwa [hlen] at this
end
section
set_option linter.unusedSimpArgs false
set_option linter.unusedVariables false
open Go.RowKit Go.Maps Go.Sort
attribute [local go_sem] Oper.semAt_some
theorem Tryz.infZvalveDelivery : (Tryz.prog.info? 95).map (fun i => (i.zero, i.size, i.bytes)) = some (some (.agg #[.int .i64 0, .int .i64 0]), 2, 16) := by kernel_rfl
theorem Tryz.undZvalveDelivery : Tryz.prog.underlying 96 = some (.slice 95) := by kernel_rfl
theorem OwR.kpl {β : Type} {h : β → List Value} {n₀ n₁ e m : Nat} {A B : World} {v : Value} {l : List β} (ho : OwR A n₁ e m h v l) (k : KPl n₀ n₁ A B) : OwR B n₁ e m h v l := by
 obtain ⟨h1, h2⟩ := ho
 refine ⟨h1, ?_⟩
 rcases h2 with h2 | ⟨g, cap, cur, hv, hg, hh, r⟩
 ·exact .inl h2
 ·exact .inr ⟨g, cap, cur, hv, hg, k.2 _ _ _ hg hh, r⟩
theorem ownsRow_cells {W : World} {base : Nat} {e : TypeId} {size : Nat} {v : Value} {k : Nat} {xs : List Value} (h : W.ownsRow base e size v k xs) {j : Nat} {o : Obj} (hj : v.ownBlock = some j) (ho : W.heap[j]? = some o) : o.isCells = true := by
 rcases h.2 with ⟨rfl, _⟩ | ⟨g, cap, cur, rfl, _, hg, _⟩
 ·simp [Value.ownBlock] at hj
 ·obtain rfl : g = j := by simpa [Value.ownBlock] using hj
  have := hg.symm.trans ho
  cases this
  rfl
theorem own_base {w : World} {b base e size n : Nat} {v : Value} {xs : List Value} (h : w.ownsRow base e size v n xs) (hb : b ≤ base) : w.ownsRow b e size v n xs := by
 obtain ⟨h1, h2⟩ := h
 refine ⟨h1, ?_⟩
 rcases h2 with h2 | ⟨g, cap, cur, hv, hg, r⟩
 ·exact .inl h2
 ·exact .inr ⟨g, cap, cur, hv, by omega, r⟩
/-- between the rounds: what has been gathered. -/
def ApI (w0 w : World) (n₁ SB : Nat) (pre : List P2) (W : World) : Prop :=
 (∃ v, Blk W SB 96 [v] ∧ OwR W n₁ 95 2 pV v pre) ∧ Below w.heap.size w W ∧ n₁ ≤ W.heap.size
theorem ApI.own {w0 w : World} {n₁ SB H : Nat} (hH : w.heap.size ≤ H) : OwnFrom H (ApI w0 w n₁ SB) := by
 rintro pre A B row ⟨⟨v, h1, h2⟩, h3, h4⟩ hg hr
 have hk : KPl w.heap.size n₁ A B := KPl.of_grown hg (fun r e => ⟨by have := (hr r e).1; omega, (hr r e).2⟩) h3.size
 exact ⟨⟨v, blk_own h1 hg (fun r e => ne_of_blk h1 (hr r e).2), h2.kpl hk⟩, h3.trans hk.1, Nat.le_trans h4 hg.size⟩
set_option maxRecDepth 100000 in
set_option maxHeartbeats 4000000 in
theorem AppendSeq_any (B : Nat) (a : Option Addr) (n cp : Nat) (ds : List P2) (w : World) (hn9 : n ≤ 1000000) (hv : Prs w (.slice a n cp) ds) (iB : Blk w B 96 [.slice a n cp]) :
 Calls Tryz.prog 191 #[.slice none 0 0, .func (.func 151) #[] #[.pointer (some ⟨B, 0, none⟩)]] w fun e w' => (∃ u, e = .returned u ∧ OwR w' w.heap.size 95 2 pV u ds) ∧ Below w.heap.size w w' := by
 have HV := Lib.hid hv
 have HN := Lib.hid hv.len
 refine calls_of_postR Tryz.func191 rfl ?_
 simp only [Tryz.ntmps191, List.size_toArray, List.length_cons, List.length_nil, Nat.reduceAdd, Nat.reduceSub, Array.replicate_succ, Array.replicate_zero, List.push_toArray, List.append_toArray, List.nil_append, List.cons_append]
 go_upto_region 1 with fail
 obtain ⟨V, hV⟩ : ∃ v, v = World.alloc w (Obj.cells #[.slice none 0 0] 96) := ⟨_, rfl⟩
 have kV : Below w.heap.size w V := by rw [hV]; exact below_new _ _
 have iV : Blk V (w.heap.size) 96 [.slice none 0 0] := by rw [hV]; exact Blk.new _ _ _
 have sV : V.heap.size = w.heap.size + 1 := by rw [hV]; simp
 rw [← hV]
 clear hV
 have iB := Blk.carry iB kV
 have hwV := kV.size
 have hsV : w.heap.size < V.heap.size := by omega
 clear sV hv
 go_wp2_with fail
 refine wp_rangeB (p := 7) (s := 5) (T := 95) (gf := 151) (lb := #[.pointer (some ⟨B, 0, none⟩)]) (X := fun pre x => ∃ post, ds = pre ++ x :: post) (Kp := fun A B => Below w.heap.size A B) (S := fun ys => ys = ds) (Sp := fun _ => True) (w0 := V) rfl (enters_of Tryz.func151 (by kernel_rfl) rfl)
  (fun l J Jx W hW hJ _ hY h00 => (values1_in l B a n cp ds J Jx w hn9 HV.out hY (fun pre A B h hg => hJ pre A B none h hg (fun r e => by cases e)) W (kV.trans (hW.mono hwV)) (Blk.carry iB hW) h00).mono fun _ _ ⟨h1, h2⟩ => ⟨h1, h2.imp (fun h => ⟨_, rfl, h⟩) (fun ⟨pre, h⟩ => ⟨pre, trivial, h⟩)⟩)
  (fun h k => h.trans k) (fun W l o o' hl h h1 _ => (KPl.turn (n₀ := w.heap.size) (n₁ := 0) W l o o' (by omega) h h1).1) (Below.refl _ _)
  (ApI w w V.heap.size w.heap.size) (fun _ _ _ => False) (ApI.own hwV) (fun _ _ _ _ _ h _ _ => h)
  ⟨⟨_, iV, ⟨rfl, .inl ⟨rfl, rfl⟩⟩⟩, kV, Nat.le_refl _⟩ (fun pre W W' hI hb => hb.mono hI.2.1.size) ?assign ?body (fun pre W hI => hI.2.2) ?done ?stop
 case assign =>
  clear iV iB kV
  intro l x W K hK
  have HK := Lib.hid hK
  obtain ⟨x0, x1⟩ := x
  clear hK
  gi_wp2
  exact HK.out W.heap.size _ (below_new _ _) (BlkI.new W 95 [x0, x1]) (Nat.le_refl _)
 case body =>
  clear iV iB kV
  rintro ll pre ⟨x0, x1⟩ B8 W ⟨⟨v, j1, hown⟩, hBW, hn1⟩ ⟨post, hpost⟩ h8 n8
  dsimp only at h8
  simp only [List.setIfInBounds_toArray, List.set_cons_succ, List.set_cons_zero]
  have hwf : ∀ f, (Fence.wide.inRound ll).fn f := fun _ => trivial
  have hlen : pre.length < n := by
   rw [HN.out, hpost]; simp
  have p0 : W.cell? ⟨B8, 0, none⟩ = some (.int .i64 x0) := BlkI.cell h8 (j := 0) (by simp)
  have p1 : W.cell? ⟨B8, 1, none⟩ = some (.int .i64 x1) := BlkI.cell h8 (j := 1) (by simp)
  obtain ⟨va, vc, hve⟩ := own_slice hown
  subst hve
  have c1 := j1.cell (j := 0) (v := .slice va pre.length vc) rfl
  have f1 := j1.frozen 0
  have hln : ∀ j u, (pV (x0, x1))[j]? = some u → (W.alloc (.cells #[.int .i64 x0, .int .i64 x1] 95)).cell? ((⟨W.heap.size, 0, none⟩ : Addr).add j) = some u := fun j u hj => by
   rw [addr_add, Nat.zero_add]
   exact Blk.cell (Blk.new W 95 (pV (x0, x1))) hj
  have kn := below_new W (.cells #[.int .i64 x0, .int .i64 x1] 95)
  have hownA := own_below hown kn
  obtain ⟨i0, hi, hz0, hz1, hz2⟩ := info_parts Tryz.infZvalveDelivery
  have HP := Lib.hid hpost
  have J1 := Lib.hid (j1.carry kn)
  have hwW := hBW.size
  clear hpost h8 hown j1
  gi_wp2_with (gi_at_builtin; refine wpListIn_append_own_at _ rfl (.tmp 8) (.tmp 10) 96 rfl V.heap.size 95 i0 _ 2 16 Tryz.undZvalveDelivery hi hz0 hz1 hz2 rfl (by decide) _ _ _ rfl hownA ⟨W.heap.size, 0, none⟩ 1 1 (pV (x0, x1)) rfl rfl hln (by simp [pV, Value.oneCell']) (by unfold maxLen; omega) (by omega) (by simp; omega) ?_; intro v' w6 hown' hgrow hnil hat; have hB26 := below_grow hownA (by simp; omega) hgrow; have b6 := Blk.below J1.out hB26 (by omega); have e7 := b6.cell (j := 0) (v := .slice va pre.length vc) rfl; have f7 := b6.frozen 0; obtain ⟨va', vc', rfl⟩ := own_slice hown')
  have hk6 : KeepsOthers W w6 := (KeepsOthers.alloc W _).trans (KeepsOthers.of_grownBy hgrow (fun j o e ho => ownsRow_cells hownA e ho))
  have hB6 : Below w.heap.size W w6 := (kn.mono hwW).trans (hB26.mono (by omega))
  have hsz : V.heap.size ≤ w6.heap.size := by have := hB26.size; simp at this; omega
  have hown2 : OwR w6 V.heap.size 95 2 pV (.slice va' (pre.length + 1) vc') (pre ++ [(x0, x1)]) := by
   unfold OwR
   rw [List.length_append, List.flatMap_append, List.length_singleton, List.flatMap_cons, List.flatMap_nil, List.append_nil]
   exact hown'
  have hks := KPl.set (n₀ := w.heap.size) (n₁ := V.heap.size) w6 ⟨w.heap.size, 0, none⟩ (.slice va' (pre.length + 1) vc') (by simp) (by simp; omega)
  exact ⟨(hk6.trans (KeepsOthers.setCell _ _ _)).from _, hB6.trans hks.1, ⟨_, b6.set 0 _, hown2.kpl hks⟩, (hBW.trans hB6).trans hks.1, by simpa [World.setCell] using hsz⟩
 case done =>
  clear iV iB kV
  rintro D ys W hD rfl ⟨⟨v, j1, hown⟩, hBW, hn1⟩ hK
  obtain ⟨va, vc, hve⟩ := own_slice hown
  subst hve
  have c1 := j1.cell (j := 0) (v := .slice va ys.length vc) rfl
  have hk : KPl w.heap.size V.heap.size W (W.putObj D (.deferred none)) := KPl.turn W D _ _ (by omega) hK rfl
  have HO := Lib.hid (show OwR (W.putObj D (.deferred none)) w.heap.size 95 2 pV (.slice va ys.length vc) ys from own_base (hown.kpl hk) hwV)
  clear hown j1
  go_wp2
  refine postR_mark (v := .slice va ys.length vc) hK rfl ?_ ⟨⟨_, rfl, HO.out⟩, hBW.trans hk.1⟩
  simp [results, Tryz.f191, go_sem]
 case stop =>
  rintro D c pre W hD - hF hK
  exact hF.elim
theorem Collect_any (B : Nat) (a : Option Addr) (n cp : Nat) (ds : List P2) (w : World) (hn9 : n ≤ 1000000) (hv : Prs w (.slice a n cp) ds) (iB : Blk w B 96 [.slice a n cp]) :
 Calls Tryz.prog 149 #[.func (.func 151) #[] #[.pointer (some ⟨B, 0, none⟩)]] w fun e w' => (∃ u, e = .returned u ∧ OwR w' w.heap.size 95 2 pV u ds) ∧ Below w.heap.size w w' := by
 have T := Lib.hid (AppendSeq_any B a n cp ds w hn9 hv iB)
 clear hv iB
 go_enter Tryz.func149, Tryz.ntmps149
 go_wp2_with fail
 refine T.out.mono ?_
 rintro e w' ⟨⟨u, rfl, hu⟩, hb⟩
 go_wp2_with fail
 go_ret
 exact ⟨⟨_, rfl, hu⟩, hb⟩
set_option maxHeartbeats 1000000 in
theorem SortedD_any (B : Nat) (a : Option Addr) (n cp : Nat) (ds : List P2) (w : World) (hn9 : n ≤ 1000000) (hv : Prs w (.slice a n cp) ds) (iB : Blk w B 96 [.slice a n cp]) :
 Calls Tryz.prog 103 #[.func (.func 151) #[] #[.pointer (some ⟨B, 0, none⟩)], .func (.func 105) #[] #[]] w fun e w' => (∃ u l, e = .returned u ∧ l.Perm ds ∧ Prs w' u l) ∧ Below w.heap.size w w' := by
 have T := Lib.hid (Collect_any B a n cp ds w hn9 hv iB)
 have HN := Lib.hid hv.len
 clear hv iB
 go_enter Tryz.func103, Tryz.ntmps103
 go_wp2_with fail
 refine T.out.mono ?_
 rintro e w1 ⟨⟨u, rfl, hu⟩, hb1⟩
 have TS := Lib.hid (sortD_any w.heap.size u ds w1 (by rw [← HN.out]; exact hn9) hu)
 go_wp2_with fail
 refine TS.out.mono ?_
 rintro e w2 ⟨⟨rfl, l, h1, -, h2⟩, hb2⟩
 go_wp2_with fail
 go_ret
 exact ⟨⟨_, l, rfl, h1, h2⟩, hb1.trans hb2⟩
end
end Go.Proofs.YtpmngcffkhbofaaGreatDoor

/- Package valve: samples at every word; wear as numbers. -/
import Derived.Test.YtpmngcffkhbofaaGreatDoorVcJ
import Derived.Test.YtpmngcffkhbofaaGreatDoorFlpA
import Derived.Laws.Cover2
import Derived.Laws.Externs
namespace Go.Proofs.YtpmngcffkhbofaaGreatDoor
set_option linter.unusedSimpArgs false
set_option linter.unusedVariables false
open Go.RowKit Flp
theorem cmp_eq (a : Int) : compare a a = .eq := by simp [compare, compareOfLessAndEq]
theorem V_1024 : V32 1149239296 = some (1024 * U) := by
 have h : Ieee.single.read 1149239296 = .number false 8388608 (-13) := by decide +kernel
 unfold V32
 rw [h]
 show some (valU false 8388608 (-13)) = _
 unfold valU
 rw [signed_eq]
 simp only [Bool.false_eq_true, if_false, Int.one_mul]
 rw [U_def, show ((-13 : Int) + 2000).toNat = 1987 by decide, show uk = 1987 + 13 by rfl, Int.pow_add]
 have e1 : (2 : Int) ^ 13 = 8192 := by decide
 rw [e1]
 generalize (2 : Int) ^ 1987 = p
 congr 1
 rw [show ((8388608 : Nat) : Int) = 8388608 from rfl]
 omega
theorem V_n1024 : V32 3296722944 = some (-(1024 * U)) := by
 have h : Ieee.single.read 3296722944 = .number true 8388608 (-13) := by decide +kernel
 unfold V32
 rw [h]
 show some (valU true 8388608 (-13)) = _
 unfold valU
 rw [signed_eq]
 simp only [if_true, Int.neg_one_mul]
 rw [U_def, show ((-13 : Int) + 2000).toNat = 1987 by decide, show uk = 1987 + 13 by rfl, Int.pow_add]
 have e1 : (2 : Int) ^ 13 = 8192 := by decide
 rw [e1]
 generalize (2 : Int) ^ 1987 = p
 congr 1
 rw [show ((8388608 : Nat) : Int) = 8388608 from rfl]
 omega
theorem fl1024w : floatOfInt .f32 1024 = 1149239296 := by kernel_rfl
theorem negFw (W : World) : Sem.run Tryz.prog (Op.unary .neg (.float .f32 1149239296)) W = .ok (.float .f32 3296722944) W := by
 kernel_rfl
theorem cmp_lt {a b : Int} (h : a < b) : compare a b = .lt := by rw [Int.compare_eq_lt]; exact h
theorem cmp_gt {a b : Int} (h : b < a) : compare a b = .gt := by rw [Int.compare_eq_gt]; exact h
theorem whenPq_any (c : Bool) (e : Int) (w : World) : Calls Tryz.prog 178 #[.bool c, .int .i64 e] w fun r w' => r = .returned (.int .i64 (if c then e else 0)) ∧ w = w' := by
 cases c
 ·go_enter Tryz.func178, Tryz.ntmps178
  go_wp2
  go_ret
  exact ⟨rfl, rfl⟩
 ·go_enter Tryz.func178, Tryz.ntmps178
  go_wp2
  go_ret
  exact ⟨rfl, rfl⟩
set_option maxRecDepth 100000 in
set_option maxHeartbeats 2000000 in
/-- a sample's error, at every word. -/
theorem checkPart_w (x : Nat) (w : World) : Calls Tryz.prog 140 #[.float .f32 x, .int .i64 1024] w fun e w' => e = .returned (.int .i64 (smpE x)) ∧ Below w.heap.size w w' := by
 cases hv : V32 x with
 | none =>
   have hs : Ieee.single.sub x x = none := by rw [sub_self, hv]; rfl
   obtain ⟨r, hr, hrun⟩ := run_sub_nan (P := Tryz.prog) w 78 x x hs
   have o1 : FloatKind.f32.format.order r 0 = none := (order_nan hr 0).1
   have HE := Lib.hid (show smpE x = 1 by unfold smpE; rw [hv])
   clear hs hr hv
   go_enter Tryz.func140, Tryz.ntmps140
   go_wp2
   go_ret
   exact ⟨by rw [HE.out]; rfl, (Below.refl _ _).drew⟩
 | some v =>
   have g1 := fun W => run_float_arith (P := Tryz.prog) W .sub 78 .f32 x x 0 (show floatBits .sub .f32 x x = some 0 by show Ieee.single.sub x x = _; rw [sub_self, hv]; rfl)
   have o0 : FloatKind.f32.format.order 0 0 = some .eq := by kernel_rfl
   have c1 := fl1024w
   have n1 := negFw
   have p1 : FloatKind.f32.format.order x 3296722944 = some (compare v (-(1024 * U))) := order32 hv V_n1024
   have p2 : FloatKind.f32.format.order x 1149239296 = some (compare v (1024 * U)) := order32 hv V_1024
   have HS := Lib.hid (show smpE x = if v < -(1024 * U) ∨ 1024 * U < v then 3 else if 16 * v / U * U = 16 * v then 0 else 3 by unfold smpE; rw [hv])
   by_cases hlo : v < -(1024 * U)
   ·rw [cmp_lt hlo] at p1
    rw [if_pos (.inl hlo)] at HS
    clear p2 hv hlo
    go_enter Tryz.func140, Tryz.ntmps140
    go_wp2
    go_ret
    exact ⟨by rw [HS.out]; rfl, Below.refl _ _⟩
   ·have p1' : ¬ FloatKind.f32.format.order x 3296722944 = some .lt := by
     rw [p1]; intro e; exact hlo (Int.compare_eq_lt.1 (Option.some.inj e))
    have p1b : (FloatKind.f32.format.order x 3296722944 == some .lt) = false := by rw [beq_eq_false_iff_ne]; exact p1'
    by_cases hhi : 1024 * U < v
    ·rw [cmp_gt hhi] at p2
     rw [if_pos (.inr hhi)] at HS
     clear p1 hv hlo hhi
     go_enter Tryz.func140, Tryz.ntmps140
     go_wp2
     go_ret
     exact ⟨by rw [HS.out]; rfl, Below.refl _ _⟩
    ·have p2' : ¬ FloatKind.f32.format.order x 1149239296 = some .gt := by
      rw [p2]; intro e; exact hhi (Int.compare_eq_gt.1 (Option.some.inj e))
     have p2b : (FloatKind.f32.format.order x 1149239296 == some .gt) = false := by rw [beq_eq_false_iff_ne]; exact p2'
     have e10 : (2 : Int) ^ 10 = 1024 := by decide
     obtain ⟨y, hy, hyv⟩ := mul_16 hv (by rw [e10]; omega)
     have g5 := fun W => run_float_arith (P := Tryz.prog) W .mul 78 .f32 1098907648 x y hy
     have hU := U_pos
     have hyb : -(16384 * U) ≤ 16 * v ∧ 16 * v ≤ 16384 * U := by omega
     have ht := toInt32 hyv 16384 (by omega) hyb
     have g6 := fun W => run_convert_float_int (P := Tryz.prog) W 78 3 .f32 .i64 y _ (by kernel_rfl) Tryz.underlying3 ht
     obtain ⟨tb1, tb2⟩ := tdiv_bound 16384 (by omega) hyb
     obtain ⟨t, htd⟩ : ∃ t, t = Int.tdiv (16 * v) U := ⟨_, rfl⟩
     rw [← htd] at g6 tb1 tb2
     have hz := ofInt32 t (by omega)
     obtain ⟨z, hzd⟩ : ∃ z, z = floatOfInt .f32 t := ⟨_, rfl⟩
     have k1 : floatOfInt .f32 t = z := hzd.symm
     rw [← hzd] at hz
     have p3 : FloatKind.f32.format.order z y = some (compare (t * U) (16 * v)) := order32 hz hyv
     rw [if_neg (by omega)] at HS
     have hcond : (t * U = 16 * v) ↔ (16 * v / U * U = 16 * v) := by rw [htd]; exact tdiv_mul _
     have TW := Lib.hid (fun (c : Bool) (W : World) => whenPq_any c 3 W)
     by_cases hc : t * U = 16 * v
     ·rw [hc, cmp_eq] at p3
      rw [if_pos (hcond.1 hc)] at HS
      clear hcond hc hv hlo hhi p1 p2 p1' p2' hy hyv hyb ht hz hzd htd tb1 tb2 hU e10
      go_enter Tryz.func140, Tryz.ntmps140
      go_wp2_with fail
      refine (TW.out _ w).mono ?_
      rintro e w1 ⟨rfl, rfl⟩
      go_wp2
      go_ret
      exact ⟨by rw [HS.out]; rfl, Below.refl _ _⟩
     ·have p3' : ¬ FloatKind.f32.format.order z y = some .eq := by
       rw [p3]; intro e; exact hc (Int.compare_eq_eq.1 (Option.some.inj e))
      have p3b : (FloatKind.f32.format.order z y == some .eq) = false := by rw [beq_eq_false_iff_ne]; exact p3'
      rw [if_neg (fun e => hc (hcond.2 e))] at HS
      clear hcond hc hv hlo hhi p1 p2 p3 p1' p2' hy hyv hyb ht hz hzd htd tb1 tb2 hU e10
      go_enter Tryz.func140, Tryz.ntmps140
      go_wp2_with fail
      refine (TW.out _ w).mono ?_
      rintro e w1 ⟨rfl, rfl⟩
      go_wp2
      go_ret
      exact ⟨by rw [HS.out]; rfl, Below.refl _ _⟩
theorem CheckSample_w (x : Nat) (w : World) : Calls Tryz.prog 80 #[.float .f32 x] w fun e w' => e = .returned (.int .i64 (smpE x)) ∧ Below w.heap.size w w' := by
 have T := Lib.hid (fun W => checkPart_w x W)
 go_enter Tryz.func80, Tryz.ntmps80
 go_wp2_with fail
 refine (T.out w).mono ?_
 rintro e w' ⟨rfl, hb⟩
 go_wp2_with fail
 go_ret
 exact ⟨rfl, hb⟩
set_option maxRecDepth 100000 in
set_option maxHeartbeats 2000000 in
theorem mapFE_any (K : Nat) (cap : Array Value) (henter : ∀ args w, Sem.run Tryz.prog (callFunc K args) w = .ok (.enter K args) w) (g : Nat → Int) (v : Value) (l : List Nat) (w : World) (hl : l.length ≤ 1000000) (hv : Rw 1 fV w v l)
 (hf : ∀ x ∈ l, ∀ w1, Below w.heap.size w w1 → Calls Tryz.prog K (#[.float .f32 x] ++ cap) w1 fun r w2 => r = .returned (.int .i64 (g x)) ∧ Below w1.heap.size w1 w2) :
 Calls Tryz.prog 79 #[v, .func (.func K) #[] cap] w fun r w' => (∃ u, r = .returned u ∧ OwR w' w.heap.size 27 1 nV u (l.map g)) ∧ Below w.heap.size w w' := by
 rcases Nat.eq_zero_or_pos l.length with h0 | h0
 ·obtain rfl : l = [] := List.length_eq_zero_iff.1 h0
  obtain ⟨a, cp, rfl, _, _⟩ := hv
  go_enter Tryz.func79, Tryz.ntmps79
  go_wp2
  go_loop [5, 10] (fun v i => v = .slice none 0 0 ∧ i = .int .i64 0) (fun _ _ => 0)
  case atStart => exact ⟨rfl, rfl⟩
  case round =>
   obtain ⟨rfl, rfl⟩ := hrel
   go_wp2
   go_ret
   exact ⟨⟨_, rfl, World.ownsRow_nil _ _ _ _⟩, Below.refl _ _⟩
 ·obtain ⟨b, off, cp, rfl, hcs⟩ := hv.head h0
  clear hv
  obtain ⟨i0, hi, hz0, hz1, hz2⟩ := info_parts Tryz.infZapiErrno
  go_enter Tryz.func79, Tryz.ntmps79
  go_wp2
  go_loopw [5, 10] (fun v i wr => ∃ k : Nat, k ≤ l.length ∧ i = .int .i64 k ∧ wr.ownsRow w.heap.size 27 1 v k (((l.take k).map g).flatMap nV) ∧ Below w.heap.size w wr) (fun _ i _ => l.length - (intOf i).toNat)
  case atStart => exact ⟨0, by omega, rfl, World.ownsRow_nil _ _ _ _, Below.refl _ _⟩
  case round =>
   obtain ⟨k, hk, rfl, hown, hbel⟩ := hrel
   by_cases hlt : k < l.length
   ·obtain ⟨x, hx⟩ : ∃ x, l[k]? = some x := ⟨_, List.getElem?_eq_getElem hlt⟩
    have c0 := rw1 (hcs k x hx) (show fV x = [.float .f32 x] from rfl)
    have c0 := cellb c0 hbel
    have hts := flatMap_take_succ nV g l k x hx
    have hts : ((l.take (k + 1)).map g).flatMap nV = ((l.take k).map g).flatMap nV ++ [.int .i64 (g x)] := hts
    have TF := Lib.hid (fun W hE => hf x (List.mem_of_getElem? hx) W hE)
    obtain ⟨y0, hy0⟩ : ∃ y, y = (g x) := ⟨_, rfl⟩
    rw [← hy0] at TF hts
    have HTS := Lib.hid hts
    clear hcs hx hts hy0
    go_wp2_with fail
    refine (TF.out _ hbel).mono ?_
    rintro e w2 ⟨rfl, hb2⟩
    have hbx2 := bthen hbel hb2
    have hown := own_below hown hb2
    clear hb2 hbel c0
    go_wp2_with (at_builtin; refine wpList_append_own _ rfl _ _ 150 rfl w.heap.size 27 i0 (.int .i64 0) 1 8 Tryz.undZapiErrno hi hz0 hz1 hz2 rfl (by decide) _ _ _ rfl (own_below hown (below_new _ _)) ⟨w2.heap.size, 0, none⟩ 1 1 [.int .i64 y0] rfl rfl (fun j u hj => (Blk.new w2 27 [.int .i64 y0]).news j u hj) (by simp [Value.oneCell']) (by unfold maxLen; omega) (by omega) (by have := hbx2.size; simp; omega) ?_; intro v' w1 hown' hgrow _)
    have hbel' : Below w.heap.size w w1 := (bthen hbx2 (below_new w2 (.cells #[.int .i64 y0] 27))).trans (below_grow (own_below hown (below_new _ _)) (by have := hbx2.size; simp; omega) hgrow)
    have hown2 : w1.ownsRow w.heap.size 27 1 v' (k + 1) (((l.take (k + 1)).map g).flatMap nV) := by
     rw [HTS.out]; exact hown'
    clear hown hbx2 hown' hgrow
    go_wp2
    go_roundw
    case rel => exact ⟨k + 1, by omega, by go_num, hown2, hbel'⟩
    case measure => simp [intOf]; omega
   ·obtain rfl : k = l.length := by omega
    have hout : OwR wr w.heap.size 27 1 nV u5 (l.map g) := by
     unfold OwR
     rw [List.take_length] at hown
     rw [List.length_map]; exact hown
    clear hown
    go_wp2
    go_ret
    exact ⟨⟨_, rfl, hout⟩, hbel⟩
/-- a list of words, as an array's value. -/
def fa (l : List Nat) : Array Value := (l.map (Value.float .f32)).toArray
abbrev BlkF (w : World) (B : Nat) (T : TypeId) (l : List Nat) : Prop := Blk w B T (l.map (Value.float .f32))
theorem fa_size (l : List Nat) : (fa l).size = l.length := by simp [fa]
theorem fa_get (l : List Nat) (k : Nat) (h : k < l.length) : (fa l)[k]? = some (.float .f32 (l[k]?.getD 0)) := by simp [fa, h]
theorem fa_one (l : List Nat) : (fa l).all (·.oneCell') = true := by
 rw [Array.all_eq_true_iff_forall_mem]
 intro v hv
 simp [fa] at hv
 obtain ⟨x, _, rfl⟩ := hv
 rfl
theorem Tryz.undF12 : Tryz.prog.underlying 79 = some (.array 12 78) := by kernel_rfl
theorem Tryz.infoF12 : (Tryz.prog.info? 79).map (·.size) = some 12 := by kernel_rfl
theorem Tryz.infoF1 : (Tryz.prog.info? 78).map (·.size) = some 1 := by kernel_rfl
theorem idxF12 {l : List Nat} (hl : l.length = 12) {k : Nat} (hk : k < 12) (w : World) : Sem.run Tryz.prog (Instr.index 79 (.agg (fa l)) (.int .i64 k)) w = .ok (.float .f32 (l[k]?.getD 0)) w := by
 obtain ⟨i, hi⟩ : ∃ i, Tryz.prog.info? 78 = some i := by
  cases h : Tryz.prog.info? 78 with
  | none => have := Tryz.infoF1; rw [h] at this; cases this
  | some i => exact ⟨i, rfl⟩
 have hs : i.size = 1 := by have := Tryz.infoF1; rw [hi] at this; simpa using this
 simp [Instr.index, asIntOf, run_underlying Tryz.undF12, sizeOf, typeInfo, hi, hs]
 rw [if_pos hk]
 have hg : (fa l)[k]? = some (.float .f32 (l[k]?.getD 0)) := fa_get l k (by omega)
 simp [part, isAgg, run_underlying (show Tryz.prog.underlying 78 = some _ by kernel_rfl), hg]
theorem loadF12 {l : List Nat} (hl : l.length = 12) {w : World} {B : Nat} (h : BlkF w B 79 l) : Sem.run Tryz.prog (Instr.loadAt 79 (.pointer (some ⟨B, 0, none⟩))) w = .ok (.agg (fa l)) w := by
 have := run_loadVar_row (P := Tryz.prog) w B 79 79 (fa l) (0, 0) _ h Tryz.undF12 rfl (by rw [Tryz.infoF12, fa_size, hl])
 simp only [Instr.loadAt, Instr.sureAddr, Sem.run_bind, Sem.run_pure, Result.andThen_ok, this]
theorem wpList_storeF {w : World} {ops : Array Oper} {rest : List Oper} {o : Oper} {a : Act} {Q : Exit → Act → World → Prop} (hg : o.guard = none) (T : TypeId) (x y : Operand) (hop : o.op = Op.store T x y) (B : Nat) (l old : List Nat)
 (hx : a.eval x = .pointer (some ⟨B, 0, none⟩)) (hy : a.eval y = .agg (fa l)) (hB : BlkF w B T old) (hlo : old.length = l.length) (hi : (Tryz.prog.info? T).map (·.size) = some l.length)
 (hK : wpList Tryz.prog ops Q rest (a.put o.dst undef) (w.setRow B (fa l))) : wpList Tryz.prog ops Q (o :: rest) a w :=
 wpList_plain hg fun _ hK' => wp_store_row T x y hop B (fa l) hx hy T (fa old) hB (by rw [hi, fa_size]) (by rw [fa_size, fa_size, hlo]) (fa_one l) (hK' _ _ hK)
theorem BlkF.setRowA {w : World} {B : Nat} {T : TypeId} {old : List Nat} (h : BlkF w B T old) (l : List Nat) : BlkF (w.setRow B (fa l)) B T l := setRow_heap w B _ _ T (0, 0) h
/-- a number of sixteenths, as a word. -/
def wq (n : Int) : Nat := (Ieee.single.div (floatOfInt .f32 n) 1098907648).getD 0
theorem div_16 {x : Nat} {v : Int} (hx : V32 x = some v) : ∃ q, Ieee.single.div x 1098907648 = some q := by
 have h16 : Ieee.single.read 1098907648 = .number false 8388608 (-19) := by decide +kernel
 unfold V32 at hx
 cases h : Ieee.single.read x with
 | infinity t => rw [h] at hx; cases hx
 | nan t u => rw [h] at hx; cases hx
 | number s m e =>
   unfold Ieee.Format.div
   rw [h16, h]
   exact ⟨_, rfl⟩
theorem wq_run {P : Program} (W : World) (T : TypeId) (n : Int) (h : 0 ≤ n ∧ n ≤ 16384) : Sem.run P (binOp .quo T (.float .f32 (floatOfInt .f32 n)) (.float .f32 1098907648)) W = .ok (.float .f32 (wq n)) W := by
 obtain ⟨q, hq⟩ := div_16 (ofInt32 n (by omega))
 have e : wq n = q := by unfold wq; rw [hq]; rfl
 rw [e]
 exact run_float_arith (P := P) W .quo T .f32 _ _ q (show floatBits .quo .f32 _ _ = some q from hq)
end Go.Proofs.YtpmngcffkhbofaaGreatDoor

/- Floats: a level as a sample and back. -/
import Derived.Test.YtfeajpkjjlddlaaGreatDoorHarH
import Derived.Laws.FloatArith
import Derived.Laws.Cover2
import Derived.Test.YtfeajpkjjlddlaaGreatDoorHpJ
import Derived.Test.YtfeajpkjjlddlaaGreatDoorHarG
import Derived.Laws.CopyRow
import Derived.Test.YtfeajpkjjlddlaaGreatDoorHpI
import Derived.Test.YtfeajpkjjlddlaaGreatDoorBlk
import Derived.Test.YtfeajpkjjlddlaaGreatDoorHqA
import Derived.BigRegionIn
import Derived.WideMake
import Derived.Laws.Cells
import Derived.Test.YtfeajpkjjlddlaaGreatDoorHarM
import Derived.Test.YtfeajpkjjlddlaaGreatDoorHarN
import Derived.Test.YtfeajpkjjlddlaaGreatDoorTxtF
import Derived.Stop.RegionWithIn
namespace Go.Proofs.YtfeajpkjjlddlaaGreatDoor
section
set_option linter.unusedSimpArgs false
set_option linter.unusedVariables false
open Go.RowKit

/-- the sample of a level. -/
def fl (n : Int) : Nat := floatOfInt .f32 n
def flOk (n : Int) : Bool :=
  floatBits .sub .f32 (fl n) (fl n) == some 0 && (FloatKind.f32.format.order (fl n) (fl n) == some .eq) && !(FloatKind.f32.format.order (fl n) 3296722944 == some .lt) && !(FloatKind.f32.format.order (fl n) 1149239296 == some .gt) &&
    floatBits .mul .f32 1098907648 (fl n) == some (fl (16 * n)) && floatToIntVal .f32 (fl (16 * n)) .i64 == some (16 * n) && (FloatKind.f32.format.order (fl (16 * n)) (fl (16 * n)) == some .eq) && floatToIntVal .f32 (fl n) .i64 == some n
theorem flOk_all : (List.range 201).all (fun k => flOk ((k : Int) - 100)) = true := by kernel_rfl
theorem fl1024 : floatOfInt .f32 1024 = 1149239296 := by kernel_rfl
theorem fl_facts {n : Int} (h : -100 ≤ n ∧ n ≤ 100) : floatBits .sub .f32 (fl n) (fl n) = some 0 ∧ FloatKind.f32.format.order (fl n) (fl n) = some .eq ∧ ¬ FloatKind.f32.format.order (fl n) 3296722944 = some .lt ∧ ¬ FloatKind.f32.format.order (fl n) 1149239296 = some .gt ∧
    floatBits .mul .f32 1098907648 (fl n) = some (fl (16 * n)) ∧ floatToIntVal .f32 (fl (16 * n)) .i64 = some (16 * n) ∧ FloatKind.f32.format.order (fl (16 * n)) (fl (16 * n)) = some .eq ∧ floatToIntVal .f32 (fl n) .i64 = some n := by
  have := List.all_eq_true.1 flOk_all (n + 100).toNat (List.mem_range.2 (by omega))
  rw [show (((n + 100).toNat : Nat) : Int) - 100 = n by omega] at this
  unfold flOk at this
  simp only [Bool.and_eq_true, beq_iff_eq, Bool.not_eq_true', beq_eq_false_iff_ne] at this
  obtain ⟨⟨⟨⟨⟨⟨⟨h1, h2⟩, h3⟩, h4⟩, h5⟩, h6⟩, h7⟩, h8⟩ := this
  exact ⟨h1, h2, h3, h4, h5, h6, h7, h8⟩
theorem negF (W : World) : Sem.run Tryz.prog (Op.unary .neg (.float .f32 1149239296)) W = .ok (.float .f32 3296722944) W := by
  kernel_rfl
set_option maxRecDepth 100000 in
theorem checkPart_any (n : Int) (h : -100 ≤ n ∧ n ≤ 100) (w : World) : Calls Tryz.prog 133 #[.float .f32 (fl n), .int .i64 1024] w fun e w' => e = .returned (.int .i64 0) ∧ Below w.heap.size w w' := by
  obtain ⟨h1, h2, h3, h4, h5, h6, h7, h8⟩ := fl_facts h
  have g1 := fun W => run_float_arith (P := Tryz.prog) W .sub 99 .f32 (fl n) (fl n) 0 h1
  have g5 := fun W => run_float_arith (P := Tryz.prog) W .mul 99 .f32 1098907648 (fl n) (fl (16 * n)) h5
  have g6 := fun W => run_convert_float_int (P := Tryz.prog) W 99 3 .f32 .i64 (fl (16 * n)) (16 * n) (by kernel_rfl) Tryz.underlying3 h6
  have o0 : FloatKind.f32.format.order 0 0 = some .eq := by kernel_rfl
  have n1 := negF
  have c1 := fl1024
  have k1 : floatOfInt .f32 (16 * n) = fl (16 * n) := rfl
  have h3b : (FloatKind.f32.format.order (fl n) 3296722944 == some .lt) = false := by rw [beq_eq_false_iff_ne]; exact h3
  have h4b : (FloatKind.f32.format.order (fl n) 1149239296 == some .gt) = false := by rw [beq_eq_false_iff_ne]; exact h4
  generalize fl (16 * n) = y at h7 g5 g6 k1
  generalize fl n = x at h2 h3 h4 h3b h4b g1 g5 ⊢
  clear h1 h5 h6 h8
  go_enter Tryz.func133, Tryz.ntmps133
  go_wp2
  go_ret
  exact ⟨rfl, Below.refl _ _⟩
set_option maxRecDepth 100000 in
theorem CheckSample_any (n : Int) (h : -100 ≤ n ∧ n ≤ 100) (w : World) : Calls Tryz.prog 99 #[.float .f32 (fl n)] w fun e w' => e = .returned (.int .i64 0) ∧ Below w.heap.size w w' := by
  have T := Lib.hid (fun W => checkPart_any n h W)
  clear h
  go_enter Tryz.func99, Tryz.ntmps99
  go_wp2_with fail
  refine (T.out w).mono ?_
  rintro e w' ⟨rfl, hb⟩
  go_wp2_with fail
  go_ret
  exact ⟨rfl, hb⟩
set_option maxRecDepth 100000 in
theorem level_any (n : Int) (h : -100 ≤ n ∧ n ≤ 100) (w : World) : Calls Tryz.prog 44 #[.float .f32 (fl n)] w fun e w' => e = .returned (.tuple #[.int .i64 n, .int .i64 0]) ∧ Below w.heap.size w w' := by
  obtain ⟨h1, h2, h3, h4, h5, h6, h7, h8⟩ := fl_facts h
  have T := Lib.hid (fun W => CheckSample_any n h W)
  have g8 := fun W => run_convert_float_int (P := Tryz.prog) W 99 3 .f32 .i64 (fl n) n (by kernel_rfl) Tryz.underlying3 h8
  have k1 : floatOfInt .f32 n = fl n := rfl
  have hw : withinE n (-100) 100 = 0 := by unfold withinE; rw [if_neg (by omega)]
  have TW := Lib.hid (fun W => withinH_any n (-100) 100 W)
  rw [hw] at TW
  generalize fl n = x at h2 T g8 k1 ⊢
  clear h h1 h3 h4 h5 h6 h7 h8 hw
  go_enter Tryz.func44, Tryz.ntmps44
  go_wp2_with fail
  refine (T.out w).mono ?_
  rintro e w1 ⟨rfl, hb⟩
  go_wp2_with (first | (go_at_call 43; refine (whenH_any _ _ _).mono ?_; rintro e w' ⟨rfl, rfl⟩) | (go_at_call 54; refine (TW.out _).mono ?_; rintro e w' ⟨rfl, rfl⟩))
  have hI : BlkI (w1.alloc (Obj.cells #[Value.int IntKind.i64 (whenE false 1), Value.int IntKind.i64 0] 31)) w1.heap.size 31 [whenE false 1, 0] := Blk.new w1 _ _
  refine (firstH_any _ [whenE false 1, 0] _ (by simp [maxLen]) (BlkI.ints hI rfl)).mono ?_
  rintro e w2 ⟨rfl, rfl⟩
  go_wp2_with fail
  go_ret2
  exact ⟨rfl, bthen hb (below_new _ _)⟩
set_option maxRecDepth 100000 in
theorem Record1_any (n : Int) (w : World) : Calls Tryz.prog 56 #[.int .i64 n] w fun e w' => e = .returned (.float .f32 (fl n)) ∧ w = w' := by
  have k1 : floatOfInt .f32 n = fl n := rfl
  go_enter Tryz.func56, Tryz.ntmps56
  go_wp2
  go_ret
  exact ⟨rfl, rfl⟩
end

section
set_option linter.unusedSimpArgs false
set_option linter.unusedVariables false
open Go.RowKit

theorem Tryz.infoF32 : (Tryz.prog.info? 99).map (fun i => (i.zero, i.size, i.bytes)) = some (some (.float .f32 0), 1, 4) := by kernel_rfl
def flV (n : Int) : Value := .float .f32 (fl n)
theorem Tryz.enterRec1 (args : Array Value) (w : World) : Sem.run Tryz.prog (callFunc 56 args) w = .ok (.enter 56 args) w :=
  MuLone.run_callFunc_enter Tryz.func56 (by kernel_rfl) rfl args w
set_option maxRecDepth 100000 in
set_option maxHeartbeats 2000000 in
theorem mappedF_any (v : Value) (l : List Int) (w : World) (hl : l.length ≤ 1000000) (h0 : 0 < l.length) (hv : Ints w v l) :
    Calls Tryz.prog 55 #[v, .func (.func 56) #[] #[]] w fun r w' => (∃ u, r = .returned u ∧ w'.ownsRow w.heap.size 99 1 u l.length (l.map flV)) ∧ Below w.heap.size w w' := by
  obtain ⟨a, cp, rfl, _, hcs0⟩ := hv
  obtain ⟨b, off, rfl, hcs⟩ := hcs0 h0
  clear hcs0
  obtain ⟨i0, hi, hz0, hz1, hz2⟩ := info_parts Tryz.infoF32
  go_enter Tryz.func55, Tryz.ntmps55
  go_wp2
  go_loopw [5, 10] (fun v i wr => ∃ k : Nat, k ≤ l.length ∧ i = .int .i64 k ∧ wr.ownsRow w.heap.size 99 1 v k ((l.take k).map flV) ∧ Below w.heap.size w wr) (fun _ i _ => l.length - (intOf i).toNat)
  case atStart => exact ⟨0, by omega, rfl, World.ownsRow_nil _ _ _ _, Below.refl _ _⟩
  case round =>
    obtain ⟨k, hk, rfl, hown, hbel⟩ := hrel
    by_cases hlt : k < l.length
    · have c0 := cellb (hcs k hlt) hbel
      have HT := Lib.hid (show l.take (k + 1) = l.take k ++ [l[k]?.getD 0] by rw [List.take_add_one, List.getElem?_eq_getElem hlt]; rfl)
      generalize l[k]?.getD 0 = x at c0 HT
      clear hcs
      go_wp2_with fail
      refine (Record1_any x wr).mono ?_
      rintro e w2 ⟨rfl, rfl⟩
      go_wp2_with (at_builtin; refine wpList_append_own _ rfl _ _ 27 rfl w.heap.size 99 i0 (.float .f32 0) 1 4 Tryz.underlying27 hi hz0 hz1 hz2 rfl (by decide) _ _ _ rfl (hown.alloc _) ⟨wr.heap.size, 0, none⟩ 1 1 [.float .f32 (fl x)] rfl rfl (cell_one_new _ _ _) (by simp [Value.oneCell']) (by unfold maxLen; omega) (by omega) (by have := hbel.size; simp; omega) ?_; intro v' w1 hown' hgrow _)
      have hbel' := below_own hbel hown hgrow
      have hown2 : w1.ownsRow w.heap.size 99 1 v' (k + 1) ((l.take (k + 1)).map flV) := by
        rw [HT.out, List.map_append]; exact hown'
      clear hown hbel hown' hgrow
      go_wp2
      go_roundw
      case rel => exact ⟨k + 1, by omega, by go_num, hown2, hbel'⟩
      case measure => simp [intOf]; omega
    · obtain rfl : k = l.length := by omega
      rw [List.take_length] at hown
      go_wp2
      go_ret
      exact ⟨⟨_, rfl, hown⟩, hbel⟩
end

section
set_option linter.unusedSimpArgs false
set_option linter.unusedVariables false
open Go.RowKit

/-- k times. -/
def reps (k : Nat) (xs : List Value) : List Value := (List.replicate k xs).flatten
theorem reps_len (k : Nat) (xs : List Value) (h : xs.length = 12) : (reps k xs).length = 12 * k := by
  simp [reps, h, Nat.mul_comm]
theorem reps_succ (k : Nat) (xs : List Value) : reps (k + 1) xs = reps k xs ++ xs := by
  unfold reps
  rw [List.replicate_succ', List.flatten_append]; simp
/-- what lies in the new row as k parts are copied. -/
def rowR (c k : Nat) (xs : List Value) : List Value := reps k xs ++ List.replicate (12 * (c - k)) (.float .f32 0)
theorem rowR_len (c k : Nat) (xs : List Value) (h : xs.length = 12) (hk : k ≤ c) : (rowR c k xs).length = 12 * c := by
  unfold rowR
  rw [List.length_append, reps_len k xs h, List.length_replicate]; omega
theorem rowR_step (c k : Nat) (xs : List Value) (h : xs.length = 12) (hk : k < c) : (rowR c k xs).take (12 * k) ++ xs ++ (rowR c k xs).drop (12 * k + 12) = rowR c (k + 1) xs := by
  have hl := reps_len k xs h
  unfold rowR
  rw [List.take_append_of_le_length (by omega), List.take_of_length_le (by omega), List.drop_append, List.drop_of_length_le (by omega), List.nil_append, List.drop_replicate, reps_succ, hl, show 12 * (c - k) - (12 * k + 12 - 12 * k) = 12 * (c - (k + 1)) by omega]
theorem wpList_copyR {P : Program} {w : World} {ops : Array Oper} {rest : List Oper} {o : Oper} {a : Act} {Q : Exit → Act → World → Prop} (hgd : o.guard = none) (d s : Operand) (dT sT : TypeId)
    (ho : o.op = .call { callee := .builtin .copy, args := #[d, s], argTypes := #[dT, sT] }) (elem : TypeId) (hu : P.underlying dT = some (.slice elem)) (hsz : (P.info? elem).map (·.size) = some 1)
    (g o' dLen dCap : Nat) (ad : Addr) (sLen sCap : Nat) (hd : a.eval d = .slice (some ⟨g, o', none⟩) dLen dCap) (hs : a.eval s = .slice (some ad) sLen sCap)
    (vs : List Value) (t : TypeId) (hg : Blk w g t vs) (cs : List Value) (hn : cs.length = Nat.min sLen dLen) (hfit : o' + cs.length ≤ vs.length)
    (hsrc : ∀ j v, cs[j]? = some v → w.cell? (ad.add j) = some v) (h1 : ∀ v ∈ cs, v.oneCell' = true)
    (h : wpList P ops Q rest (a.put o.dst (goInt cs.length)) (w.setRow g (vs.take o' ++ cs ++ vs.drop (o' + cs.length)).toArray)) : wpList P ops Q (o :: rest) a w := by
  refine wpList_plain hgd fun K hK => ?_
  have hrun := run_copy_row (P := P) w dT sT o.type elem g o' dLen dCap ad sLen sCap vs.toArray t cs hu hsz hg hn hsrc (by simpa using hfit) h1
  unfold Oper.wp
  obtain ⟨Wn, hWn⟩ : ∃ v, v = w.setRow g (vs.toArray.toList.take o' ++ cs ++ vs.toArray.toList.drop (o' + cs.length)).toArray := ⟨_, rfl⟩
  rw [← hWn] at hrun
  have h' : wpList P ops Q rest (a.put o.dst (goInt cs.length)) Wn := by rw [hWn]; exact h
  simp [execOp, ho, resolve, invoke, builtin, hd, hs, hrun, Result.andThen]
  exact hK _ _ h'
theorem wp_copyR {P : Program} {w : World} {o : Oper} {a : Act} {K : Act → World → Prop} {Q : Exit → Act → World → Prop} (d s : Operand) (dT sT : TypeId)
    (ho : o.op = .call { callee := .builtin .copy, args := #[d, s], argTypes := #[dT, sT] }) (elem : TypeId) (hu : P.underlying dT = some (.slice elem)) (hsz : (P.info? elem).map (·.size) = some 1)
    (g o' dLen dCap : Nat) (ad : Addr) (sLen sCap : Nat) (hd : a.eval d = .slice (some ⟨g, o', none⟩) dLen dCap) (hs : a.eval s = .slice (some ad) sLen sCap)
    (vs : List Value) (t : TypeId) (hg : Blk w g t vs) (cs : List Value) (hn : cs.length = Nat.min sLen dLen) (hfit : o' + cs.length ≤ vs.length)
    (hsrc : ∀ j v, cs[j]? = some v → w.cell? (ad.add j) = some v) (h1 : ∀ v ∈ cs, v.oneCell' = true)
    (h : K (a.put o.dst (goInt cs.length)) (w.setRow g (vs.take o' ++ cs ++ vs.drop (o' + cs.length)).toArray)) : o.wp P a w K Q := by
  have hrun := run_copy_row (P := P) w dT sT o.type elem g o' dLen dCap ad sLen sCap vs.toArray t cs hu hsz hg hn hsrc (by simpa using hfit) h1
  unfold Oper.wp
  obtain ⟨Wn, hWn⟩ : ∃ v, v = w.setRow g (vs.toArray.toList.take o' ++ cs ++ vs.toArray.toList.drop (o' + cs.length)).toArray := ⟨_, rfl⟩
  rw [← hWn] at hrun
  have h' : K (a.put o.dst (goInt cs.length)) Wn := by rw [hWn]; exact h
  simp [execOp, ho, resolve, invoke, builtin, hd, hs, hrun, Result.andThen]
  exact h'
theorem reps_head (k : Nat) (xs ys : List Value) (h : xs.length = 12) (hk : 1 ≤ k) (j : Nat) (v : Value) (hj : xs[j]? = some v) : (reps k xs ++ ys)[j]? = some v := by
  obtain ⟨m, rfl⟩ : ∃ m, k = m + 1 := ⟨k - 1, by omega⟩
  have hlt : j < xs.length := (List.getElem?_eq_some_iff.1 hj).1
  unfold reps
  rw [List.replicate_succ, List.flatten_cons, List.append_assoc, List.getElem?_append_left hlt]
  exact hj
theorem Tryz.sizeF32 : (Tryz.prog.info? 99).map (·.size) = some 1 := by kernel_rfl
theorem Blk.setRowV {w : World} {B : Nat} {T : TypeId} {vs : List Value} (h : Blk w B T vs) (us : List Value) : Blk (w.setRow B us.toArray) B T us := setRow_heap w B _ _ T (0, 0) h
set_option maxRecDepth 100000 in
set_option maxHeartbeats 4000000 in
theorem Repeat_any (b off cp : Nat) (xs : List Value) (c : Nat) (w : World) (hx : xs.length = 12) (hc1 : 1 ≤ c) (hc3 : c ≤ 3) (h1 : ∀ v ∈ xs, v.oneCell' = true) (hcs : ∀ j v, xs[j]? = some v → w.cell? ⟨b, off + j, none⟩ = some v) :
    Calls Tryz.prog 57 #[.slice (some ⟨b, off, none⟩) 12 cp, .int .i64 (c : Int)] w fun r w' => (∃ g, r = .returned (.slice (some ⟨g, 0, none⟩) (12 * c) (12 * c)) ∧ Blk w' g 99 (reps c xs)) ∧ Below w.heap.size w w' := by
  obtain ⟨i0, hi, hz0, hz1, hz2⟩ := info_parts Tryz.infoF32
  have HMUL := Lib.hid (fun W => Tryz.bits_Mul 12 c (by omega) (by omega) W)
  have d1 : ¬ (c : Int) < 0 := by omega
  have v1 : IntKind.u64.wrap (c : Int) = (c : Int) := by rw [IntKind.wrap_u64]; omega
  have m1 : 12 * c / 18446744073709551616 = 0 := by omega
  have m2 : 12 * c % 18446744073709551616 = 12 * c := by omega
  rw [m1, m2] at HMUL
  have HX := Lib.hid hx
  have HCS := Lib.hid hcs
  have H1 := Lib.hid h1
  clear m1 m2 hx hcs h1
  go_enter Tryz.func57, Tryz.ntmps57
  go_wp2_with fail
  refine (HMUL.out w).mono ?_
  rintro e w' ⟨rfl, rfl⟩
  have d2 : ¬ 9223372036854775807 < 12 * (c : Int) := by omega
  have v2 : IntKind.i64.wrap (12 * (c : Int)) = 12 * (c : Int) := IntWalk.i64_in _ (by omega)
  have hz4 : i0.bytes * (12 * c) ≤ 281474976710656 := by rw [hz2]; omega
  have hL : 12 * (c : Int) = ((12 * c : Nat) : Int) := by omega
  have HLL := Lib.hid hL
  clear hL
  go_upto_region 7 with (refine wpList_make_full _ rfl _ _ _ rfl w'.heap.size 99 i0 (.float .f32 0) 1 Tryz.underlying27 hi hz0 hz1 .i64 .i64 (12 * (c : Int)) (12 * (c : Int)) (12 * c) rfl rfl HLL.out HLL.out hz4 (by unfold maxLen; omega) (Nat.le_refl _) ?_; intro W1 hown hg1)
  obtain ⟨G, hG⟩ : ∃ G, G = w'.heap.size := ⟨_, rfl⟩
  have hBase : Below w'.heap.size w' W1 := ⟨hg1.1, hg1.2, hg1.3, hg1.size, fun k hk => hg1.block k hk (fun e => by cases e)⟩
  have b0 : Blk W1 G 99 (rowR c 0 xs) := by
    rcases hown.2 with ⟨h', _⟩ | ⟨g', cap', cur, h', _, hg', _, _, hsz, htake⟩
    · simp at h'
    · simp only [Value.slice.injEq, Option.some.injEq, Addr.mk.injEq, and_true, true_and] at h'
      obtain ⟨rfl, rfl⟩ := h'
      have hcur : cur.toList = List.replicate (12 * c) (.float .f32 0) := by
        rw [List.take_of_length_le (by rw [Array.length_toList]; omega)] at htake
        rw [htake, Nat.mul_one]
        exact toList_madeCells_one _ _
      rw [hG]
      refine hg'.trans ?_
      rw [show rowR c 0 xs = List.replicate (12 * c) (.float .f32 0) by unfold rowR reps; simp, ← hcur]
  have hGs : w'.heap.size ≤ G := by omega
  have hGne : ∀ j v, xs[j]? = some v → b ≠ G := fun j v hj e => by
    have h9 := HCS.out j v hj
    have h10 : b < w'.heap.size := lt_of_cellSome h9
    omega
  rw [← hG] at hown ⊢
  clear hown hg1 hG
  have hsr1 : ∀ j v, xs[j]? = some v → W1.cell? ((⟨b, off, none⟩ : Addr).add j) = some v := fun j v hj => by
    rw [addr_add]; exact cellb (HCS.out j v hj) hBase
  have HS1 := Lib.hid hsr1
  clear hsr1
  have HMN := Lib.hid (show xs.length = Nat.min 12 (12 * c) by rw [HX.out]; exact (Nat.min_eq_left (by omega)).symm)
  have HFT := Lib.hid (show 0 + xs.length ≤ (rowR c 0 xs).length by rw [HX.out, rowR_len c 0 xs HX.out (by omega)]; omega)
  go_upto_region 8 with (refine wpList_copyR rfl _ _ _ _ rfl 99 Tryz.underlying27 Tryz.sizeF32 G 0 (12 * c) (12 * c) ⟨b, off, none⟩ 12 cp rfl rfl (rowR c 0 xs) 99 b0 xs HMN.out HFT.out HS1.out H1.out ?_)
  obtain ⟨W2, hW2⟩ : ∃ v, v = W1.setRow G (xs ++ List.drop xs.length (rowR c 0 xs)).toArray := ⟨_, rfl⟩
  have b1 : Blk W2 G 99 (rowR c 1 xs) := by
    have h := rowR_step c 0 xs HX.out (by omega)
    rw [← h, hW2, HX.out]
    have h9 := Blk.setRowV b0 (xs ++ List.drop 12 (rowR c 0 xs))
    simpa using h9
  have hB2 : Below w'.heap.size w' W2 := by rw [hW2]; exact below_rowA hBase hGs _
  rw [← hW2, HX.out]
  clear hW2 b0 hBase HS1 HMN HFT
  have H12 : ((12 : Nat) : Int) = 12 := rfl
  rw [H12]
  go_loopw [8] (fun v wr => ∃ k : Nat, 1 ≤ k ∧ k ≤ c ∧ v = .int .i64 (12 * (k : Int)) ∧ Blk wr G 99 (rowR c k xs) ∧ Below w'.heap.size w' wr) (fun v _ => match v with | .int _ n => (36 - n).toNat | _ => 0)
  case atStart => exact ⟨1, by omega, hc1, rfl, b1, hB2⟩
  case round =>
    obtain ⟨k, hk1, hkc, rfl, hb, hB⟩ := hrel
    by_cases hkc' : k = c
    · subst hkc'
      have hn : ¬ 12 * (k : Int) < ((12 * k : Nat) : Int) := by omega
      have hr : rowR k k xs = reps k xs := by unfold rowR; simp
      rw [hr] at hb
      go_wp2
      go_ret
      exact ⟨⟨_, rfl, hb⟩, hB⟩
    · have hlt : 12 * (k : Int) < ((12 * c : Nat) : Int) := by omega
      have HMN := Lib.hid (show xs.length = Nat.min (12 * k) (12 * c - 12 * k) by rw [HX.out]; show 12 = min (12 * k) (12 * c - 12 * k); omega)
      have HFT := Lib.hid (show 12 * k + xs.length ≤ (rowR c k xs).length by rw [HX.out, rowR_len c k xs HX.out (by omega)]; omega)
      have HSR := Lib.hid (show ∀ j v, xs[j]? = some v → (rowR c k xs)[j]? = some v from fun j v hj => reps_head k xs _ HX.out hk1 j v hj)
      have hs1 : 12 * (k : Int) + 12 = 12 * ((k + 1 : Nat) : Int) := by omega
      have hw1 : IntKind.i64.wrap (12 * (k : Int) + 12) = 12 * ((k + 1 : Nat) : Int) := by rw [hs1]; exact IntWalk.i64_in _ (by omega)
      have hkm : k + 1 ≤ c := by omega
      have hms : (36 - 12 * ((k + 1 : Nat) : Int)).toNat < (36 - 12 * (k : Int)).toNat := by omega
      have ht1 : (12 * (k : Int)).toNat = 12 * k := by omega
      have hp1 : 0 ≤ 12 * (k : Int) := by omega
      have hp2 : k ≤ c := hkc
      have hp4 : ¬ c = k := by omega
      have hp5 : ¬ 12 * c = 12 * k := by omega
      have hp3 : 12 * k ≤ 12 * c := by omega
      have HH := Lib.hid (And.intro hms (And.intro hw1 hkm))
      have hG2 : Blk wr G 99 (rowR c k xs) := hb
      clear hms hw1 hkm hs1
      go_upto_region 9 with fail
      refine wp_region_held_drew (S := (fun _ => True)) (by kernel_rfl) trivial (fun hHeld0 => ?_)
      obtain ⟨wzd, hwz⟩ : ∃ v, v = wr.drew := ⟨_, rfl⟩
      rw [← hwz]
      have hbzd : Below w'.heap.size w' wzd := by rw [hwz]; exact hB.drew
      have hlzd : Below wr.heap.size wr wzd := by rw [hwz]; exact (Below.refl _ _).drew
      have hb := hb.carry hlzd
      clear hwz hlzd
      refine wpAnyH_take (i := 0) (oi := { dst := some 38, op := Op.move (Operand.tmp 8), type := 3, pos := "slices.go:528", after := #[], guard := none }) (v := ?_) rfl (by kernel_rfl) (by kernel_rfl) (by kernel_rfl) (fun _ _ _ h => h) (Or.inl ⟨by rfl, ?_⟩) (by assumption) ?_
      rotate_left
      · (intro w hSw; (try dsimp only at hSw); go_simp); (try with_reducible rfl)
      try simp only [Act.put, List.setIfInBounds_toArray, List.set_cons_zero, List.set_cons_succ]
      refine wpAnyH_take (i := 1) (oi := { dst := some 39, op := Op.move (Operand.tmp 7), type := 27, pos := "slices.go:528", after := #[], guard := none }) (v := ?_) rfl (by kernel_rfl) (by kernel_rfl) (by kernel_rfl) (fun _ _ _ h => h) (Or.inl ⟨by rfl, ?_⟩) (by assumption) ?_
      rotate_left
      · (intro w hSw; (try dsimp only at hSw); go_simp); (try with_reducible rfl)
      try simp only [Act.put, List.setIfInBounds_toArray, List.set_cons_zero, List.set_cons_succ]
      refine wpAnyH_take (i := 2) (oi := { dst := some 40, op := Op.move (Operand.tmp 8), type := 3, pos := "slices.go:528", after := #[], guard := none }) (v := ?_) rfl (by kernel_rfl) (by kernel_rfl) (by kernel_rfl) (fun _ _ _ h => h) (Or.inl ⟨by rfl, ?_⟩) (by assumption) ?_
      rotate_left
      · (intro w hSw; (try dsimp only at hSw); go_simp); (try with_reducible rfl)
      try simp only [Act.put, List.setIfInBounds_toArray, List.set_cons_zero, List.set_cons_succ]
      refine wpAnyH_take (i := 3) (oi := { dst := some 41, op := Op.slice 27 (Operand.tmp 39) (some (Operand.tmp 40)) none none, type := 27, pos := "slices.go:528", after := #[{ on := 1, ground := Ground.data }, { on := 2, ground := Ground.data }], guard := none }) (v := ?_) rfl (by kernel_rfl) (by kernel_rfl) (by kernel_rfl) (fun _ _ _ h => h) (Or.inl ⟨by rfl, ?_⟩) (by assumption) ?_
      rotate_left
      · (intro w hSw; (try dsimp only at hSw); go_simp); (try with_reducible rfl)
      try simp only [Act.put, List.setIfInBounds_toArray, List.set_cons_zero, List.set_cons_succ]
      refine wpAnyH_take (i := 4) (oi := { dst := some 42, op := Op.move (Operand.tmp 7), type := 27, pos := "slices.go:528", after := #[], guard := none }) (v := ?_) rfl (by kernel_rfl) (by kernel_rfl) (by kernel_rfl) (fun _ _ _ h => h) (Or.inl ⟨by rfl, ?_⟩) (by assumption) ?_
      rotate_left
      · (intro w hSw; (try dsimp only at hSw); go_simp); (try with_reducible rfl)
      try simp only [Act.put, List.setIfInBounds_toArray, List.set_cons_zero, List.set_cons_succ]
      refine wpAnyH_take (i := 5) (oi := { dst := some 43, op := Op.move (Operand.tmp 8), type := 3, pos := "slices.go:528", after := #[], guard := none }) (v := ?_) rfl (by kernel_rfl) (by kernel_rfl) (by kernel_rfl) (fun _ _ _ h => h) (Or.inl ⟨by rfl, ?_⟩) (by assumption) ?_
      rotate_left
      · (intro w hSw; (try dsimp only at hSw); go_simp); (try with_reducible rfl)
      try simp only [Act.put, List.setIfInBounds_toArray, List.set_cons_zero, List.set_cons_succ]
      refine wpAnyH_take (i := 6) (oi := { dst := some 44, op := Op.slice 27 (Operand.tmp 42) none (some (Operand.tmp 43)) none, type := 27, pos := "slices.go:528", after := #[{ on := 4, ground := Ground.data }, { on := 5, ground := Ground.data }], guard := none }) (v := ?_) rfl (by kernel_rfl) (by kernel_rfl) (by kernel_rfl) (fun _ _ _ h => h) (Or.inl ⟨by rfl, ?_⟩) (by assumption) ?_
      rotate_left
      · (intro w hSw; (try dsimp only at hSw); go_simp); (try with_reducible rfl)
      try simp only [Act.put, List.setIfInBounds_toArray, List.set_cons_zero, List.set_cons_succ]
      refine wpAnyH_ready (rs := [7]) (by kernel_rfl) (by simp) ?_
      refine (AllReadyH.cons (o := { dst := some 45, op := Op.call { callee := Callee.builtin Builtin.copy, args := #[Operand.tmp 41, Operand.tmp 44], argTypes := #[27, 27] }, type := 3, pos := "slices.go:528", after := #[{ on := 3, ground := Ground.data }, { on := 6, ground := Ground.data }], guard := none }) rfl (fun K hK => ?_) AllReadyH.nil)
      rw [if_pos (by rfl)]
      refine wp_copyR _ _ _ _ rfl 99 Tryz.underlying27 Tryz.sizeF32 G (12 * k) (12 * c - 12 * k) (12 * c - 12 * k) ⟨G, 0, none⟩ (12 * k) (12 * c) rfl rfl (rowR c k xs) 99 hb xs HMN.out HFT.out (fun j v hj => by rw [addr_add]; show World.cell? _ ⟨G, 0 + j, none⟩ = _; rw [Nat.zero_add]; exact Blk.cell hb (HSR.out j v hj)) H1.out ?_
      obtain ⟨wz7, hwz⟩ : ∃ v, v = World.setRow wzd G (List.take (12 * k) (rowR c k xs) ++ xs ++ List.drop (12 * k + xs.length) (rowR c k xs)).toArray := ⟨_, rfl⟩
      rw [← hwz]
      have hbz7 : Below w'.heap.size w' wz7 := by rw [hwz]; exact below_rowA hbzd hGs _
      have b2 : Blk wz7 G 99 (rowR c (k + 1) xs) := by rw [hwz, HX.out, ← rowR_step c k xs HX.out (by have := HH.out; omega)]; exact Blk.setRowV hb _
      clear hwz hb
      refine hK.out _ _ trivial (fun hHeld1 => ?_)
      clear hK K hHeld0
      try simp only [Act.put, List.setIfInBounds_toArray, List.set_cons_zero, List.set_cons_succ]
      refine wpAnyH_take (i := 8) (oi := { dst := some 46, op := Op.binOp BinOp.add 3 (Operand.tmp 38) (Operand.tmp 45) 3, type := 3, pos := "slices.go:528", after := #[{ on := 0, ground := Ground.data }, { on := 7, ground := Ground.data }], guard := none }) (v := ?_) rfl (by kernel_rfl) (by kernel_rfl) (by kernel_rfl) (fun _ _ _ h => h) (Or.inl ⟨by rfl, ?_⟩) (by assumption) ?_
      rotate_left
      · (intro w hSw; (try dsimp only at hSw); go_simp); (try with_reducible rfl)
      try simp only [Act.put, List.setIfInBounds_toArray, List.set_cons_zero, List.set_cons_succ]
      refine wpAnyH_take (i := 9) (oi := { dst := some 8, op := Op.assign (Operand.tmp 46), type := 3, pos := "slices.go:528", after := #[{ on := 8, ground := Ground.data }, { on := 7, ground := Ground.chain }, { on := 0, ground := Ground.phase }, { on := 1, ground := Ground.phase }, { on := 2, ground := Ground.phase }, { on := 3, ground := Ground.phase }, { on := 4, ground := Ground.phase }, { on := 5, ground := Ground.phase }, { on := 6, ground := Ground.phase }, { on := 7, ground := Ground.phase }, { on := 8, ground := Ground.phase }], guard := none }) (v := ?_) rfl (by kernel_rfl) (by kernel_rfl) (by kernel_rfl) (fun _ _ _ h => h) (Or.inl ⟨by rfl, ?_⟩) (by assumption) ?_
      rotate_left
      · (intro w hSw; (try dsimp only at hSw); go_simp); (try with_reducible rfl)
      try simp only [Act.put, List.setIfInBounds_toArray, List.set_cons_zero, List.set_cons_succ]
      refine wpAnyH_done (by kernel_rfl) ?_ _
      clear hHeld1
      have hB9 := hbz7
      rw [HX.out, H12, HH.out.2.1]
      (try go_wp2_with fail)
      go_roundw
      · exact ⟨k + 1, by omega, HH.out.2.2, rfl, b2, hB9⟩
      · exact HH.out.1
end

section
set_option linter.unusedSimpArgs false
set_option linter.unusedVariables false
open Go.RowKit

theorem flV_one (l : List Int) : ∀ v ∈ l.map flV, v.oneCell' = true := by
  intro v hv
  obtain ⟨n, _, rfl⟩ := List.mem_map.1 hv
  rfl
set_option maxRecDepth 100000 in
set_option maxHeartbeats 1000000 in
theorem Record_any (l : List Int) (c : Nat) (w : World) (hl : l.length = 12) (hp : patE l = 0) (hc1 : 1 ≤ c) (hc3 : c ≤ 3) :
    Calls Tryz.prog 13 #[.agg (ia l), .int .i64 (c : Int)] w fun r w' => (∃ g, r = .returned (.tuple #[.slice (some ⟨g, 0, none⟩) (12 * c) (12 * c), .int .i64 0]) ∧ Blk w' g 99 (reps c (l.map flV))) ∧ Below w.heap.size w w' := by
  have TP := Lib.hid (fun W => checkPattern_any l W hl)
  rw [hp] at TP
  have TW := Lib.hid (withinH_any (c : Int) 1 16)
  have hwe : withinE (c : Int) 1 16 = 0 := by unfold withinE; rw [if_neg (by omega)]
  rw [hwe] at TW
  have T2 := Lib.hid (first2H 0 0 31)
  clear hwe hp
  go_enter Tryz.func13, Tryz.ntmps13
  go_upto_region 1 with fail
  obtain ⟨W1, hW1⟩ : ∃ W, W = w.alloc (.cells (ia l) 30) := ⟨_, rfl⟩
  have kW1 : Below w.heap.size w W1 := by rw [hW1]; exact below_new _ _
  have iW1 : BlkI W1 w.heap.size 30 l := by rw [hW1]; exact BlkI.new _ _ _
  rw [← hW1]
  clear hW1
  have hld := load12 hl iW1
  go_wp2_with (refine wpList_load rfl _ _ rfl hld ?_)
  refine (TP.out W1).mono ?_
  rintro e w2 ⟨rfl, hb2⟩
  clear hld
  replace iW1 := iW1.carry hb2
  replace kW1 := bthen kW1 hb2
  clear hb2
  have TM := Lib.hid (mappedF_any (.slice (some ⟨w.heap.size, 0, none⟩) 12 12) l)
  go_wp2_with fail
  refine (TW.out w2).mono ?_
  rintro e w' ⟨rfl, rfl⟩
  go_wp2_with fail
  obtain ⟨W3, hW3⟩ : ∃ v, v = World.alloc w2 (Obj.cells #[.int .i64 0, .int .i64 0] 31) := ⟨_, rfl⟩
  have hb3 : Below w2.heap.size w2 W3 := by rw [hW3]; exact below_new _ _
  refine (T2.out w2).mono ?_
  rintro e w9 ⟨rfl, hw9⟩
  obtain rfl : W3 = w9 := hW3.trans hw9
  clear hW3 hw9
  replace iW1 := iW1.carry hb3
  replace kW1 := bthen kW1 hb3
  clear hb3
  rw [show firstE [0, 0] = 0 from rfl]
  go_wp2_with fail
  refine (TM.out W3 (by omega) (by omega) (BlkI.ints iW1 hl.symm)).mono ?_
  rintro e w4 ⟨⟨u, rfl, hown⟩, hb4⟩
  replace kW1 := bthen kW1 hb4
  obtain ⟨g, cp, hu, hcs⟩ : ∃ g cp, u = .slice (some ⟨g, 0, none⟩) 12 cp ∧ ∀ j v, (l.map flV)[j]? = some v → w4.cell? ⟨g, 0 + j, none⟩ = some v := by
    rw [hl] at hown
    have hv := Vals.of_own (us := l.map flV) (by rw [List.length_map, hl]; exact hown)
    obtain ⟨a, cp, hu, _, h⟩ := hv
    obtain ⟨b, off, ha, h⟩ := h (by rw [List.length_map]; omega)
    rw [List.length_map, hl] at hu
    rcases hown.2 with ⟨_, h0⟩ | ⟨g, cap, cur, hu', _⟩
    · omega
    · rw [hu'] at hu
      simp only [Value.slice.injEq, true_and] at hu
      rw [ha] at hu
      simp only [Option.some.injEq, Addr.mk.injEq, and_true] at hu
      obtain ⟨⟨rfl, rfl⟩, rfl⟩ := hu
      exact ⟨_, _, hu', h⟩
  subst hu
  clear hown TM hb4 iW1 TP TW T2
  have TR := Lib.hid (Repeat_any g 0 cp (l.map flV) c w4 (by rw [List.length_map, hl]) hc1 hc3 (flV_one l) hcs)
  clear hcs
  go_wp2_with fail
  refine TR.out.mono ?_
  rintro e w5 ⟨⟨G, rfl, hG⟩, hb5⟩
  replace kW1 := bthen kW1 hb5
  clear hb5 TR
  go_wp2_with fail
  go_ret2
  exact ⟨⟨_, rfl, hG⟩, kW1⟩
end

section
set_option linter.unusedSimpArgs false
set_option linter.unusedVariables false
open Go.RowKit

theorem srcV {P : Program} {w : World} {b off cap : Nat} {us : List Value} (hcs : ∀ j u, us[j]? = some u → w.cell? ⟨b, off + j, none⟩ = some u) {tx e : TypeId} (hk : P.underlying tx = some (.slice e)) (h1 : ∀ u ∈ us, u.oneCell' = true) : Src P 1 tx (.slice (some ⟨b, off, none⟩) us.length cap) us.length us w :=
  Src.ofSlice w hk _ _ _ _ (by simp) (fun j u hj => by rw [addr_add]; exact hcs j u hj) h1
set_option maxHeartbeats 1000000 in
theorem samples_any (g cap : Nat) (us : List Value) (w : World) (h0 : 0 < us.length) (hl : us.length ≤ 1000000) (h1 : ∀ u ∈ us, u.oneCell' = true) (hv : ∀ j u, us[j]? = some u → w.cell? ⟨g, 0 + j, none⟩ = some u) :
    Calls Tryz.prog 9 #[.slice (some ⟨g, 0, none⟩) us.length cap] w fun e w' => (∃ u, e = .returned u ∧ Vals w' u us) ∧ Below w.heap.size w w' := by
  obtain ⟨i0, hi, hz0, hz1, hz2⟩ := info_parts Tryz.infoF32
  have k1 := below_new w (.cells #[] 99)
  have hv1 : ∀ j u, us[j]? = some u → (w.alloc (.cells #[] 99)).cell? ⟨g, 0 + j, none⟩ = some u := fun j u hj => cellb (hv j u hj) k1
  go_enter Tryz.func9, Tryz.ntmps9
  go_wp2_with (at_builtin; refine wpList_append_freshO rfl (.tmp 3) (.tmp 4) 27 27 99 rfl i0 (.float .f32 0) 1 4 Tryz.underlying27 hi hz0 hz1 hz2 rfl w.heap.size 0 rfl _ us.length _ rfl (srcV hv1 Tryz.underlying27 h1) h0 (by unfold maxLen; omega) (by omega) ?_; intro u w2 hown hb)
  have hP := Vals.of_own hown
  have hb' := bthen k1 hb
  go_ret
  exact ⟨⟨_, rfl, hP⟩, hb'⟩

/-- blocks of cells below H stand. -/
def KB (H : Nat) (A B : World) : Prop := ∀ k, k < H → ∀ cs T fr, A.heap[k]? = some (.cells cs T fr) → B.heap[k]? = some (.cells cs T fr)
theorem KB.trans {H : Nat} {A B C : World} (h : KB H A B) (h' : KB H B C) : KB H A C := fun k hk cs T fr e => h' k hk cs T fr (h k hk cs T fr e)
theorem KB.refl (H : Nat) (A : World) : KB H A A := fun _ _ _ _ _ h => h
theorem KB.below {H : Nat} {A B : World} (h : Below A.heap.size A B) : KB H A B := fun k _ cs T fr e => (h.block k (Array.getElem?_eq_some_iff.1 e).1).trans e
theorem KB.turn {H : Nat} {W : World} {l : Nat} {o o' : Obj} (h : W.heap[l]? = some o) (ho : o.isCells = false) : KB H W (W.putObj l o') := fun k _ cs T fr e => by
  have hne : l ≠ k := by
    rintro rfl
    rw [h] at e
    cases e
    cases ho
  rw [World.putObj, Array.getElem?_setIfInBounds_ne hne]
  exact e
theorem Blk.kb {H : Nat} {A B : World} {b : Nat} {T : TypeId} {vs : List Value} (h : Blk A b T vs) (hk : KB H A B) (hb : b < H) : Blk B b T vs := hk b hb _ _ _ h

theorem grownF {A B : World} (h : Below A.heap.size A B) : A.grownBy B none := ⟨h.os, h.tape, h.output, h.size, fun k hk _ => h.block k hk⟩
def chunkV (g : Nat) (k : Nat) : Value := .slice (some ⟨g, 12 * k, none⟩) 12 12
set_option maxRecDepth 100000 in
set_option maxHeartbeats 2000000 in
theorem chunk1_in (n : Nat) (hn : 1 ≤ n) (l Bs Bn H g c cp : Nat) (J Jx : List (Value × Nat) → World → Prop)
    (hcp : 12 * c ≤ cp) (hc3 : c ≤ 3) (hBs : Bs < H) (hBn : Bn < H)
    (hY : ∀ pre x W, J pre W → (x.1 = chunkV g pre.length ∧ pre.length < c) → YieldAt Fence.wide (n - 1) Tryz.prog l #[x.1] W fun e W' =>
      (e = .returned (.bool true) ∧ J (pre ++ [x]) W' ∧ KB H W W') ∨ (e = .returned (.bool false) ∧ Jx (pre ++ [x]) W'))
    (hJ : ∀ pre A B, J pre A → A.grownBy B none → J pre B)
    (W : World) (iS : Blk W Bs 59 [.slice (some ⟨g, 0, none⟩) (12 * c) cp]) (iN : Blk W Bn 3 [.int .i64 12]) (h00 : J [] W) :
    CallsIn Fence.wide n Tryz.prog 100 #[.func (.yield l) #[] #[], .pointer (some ⟨Bs, 0, none⟩), .pointer (some ⟨Bn, 0, none⟩)] W fun e W' => (∃ v, e = .returned v) ∧
      ((∃ ys, J ys W') ∨ (∃ pre, Jx pre W')) := by
  refine callsIn_of_wp Tryz.func100 rfl trivial ?_ rfl
  simp only [Tryz.ntmps100, List.size_toArray, List.length_cons, List.length_nil, Nat.reduceAdd, Nat.reduceSub, Array.replicate_succ, Array.replicate_zero, List.push_toArray, List.append_toArray, List.nil_append, List.cons_append]
  have hwf : ∀ f, Fence.wide.fn f := fun _ => trivial
  have HY := Lib.hid hY
  have HJ := Lib.hid hJ
  clear hY hJ
  gi_wp2_with fail
  gi_loopw [4] (fun i wr => ∃ (k : Nat) (pre : List (Value × Nat)), k ≤ c ∧ i = .int .i64 (12 * (k : Int)) ∧ pre.length = k ∧ J pre wr ∧ Blk wr Bs 59 [.slice (some ⟨g, 0, none⟩) (12 * c) cp] ∧ Blk wr Bn 3 [.int .i64 12])
    (fun r _ => match r with | .int _ n => (36 - n).toNat | _ => 0)
  case atStart => exact ⟨0, [], Nat.zero_le _, rfl, rfl, h00, iS, iN⟩
  case round =>
    obtain ⟨k, pre, hk, rfl, hpre, hj, jS, jN⟩ := hrel
    have s0 := jS.cell (j := 0) (v := .slice (some ⟨g, 0, none⟩) (12 * c) cp) rfl
    have n0 := jN.cell (j := 0) (v := .int .i64 12) rfl
    by_cases hkc : k = c
    · subst hkc
      have hn : ¬ 12 * (k : Int) < ((12 * k : Nat) : Int) := by omega
      gi_wp2
      go_end0
      exact ⟨⟨_, rfl⟩, .inl ⟨pre, hj⟩⟩
    · have hlt : 12 * (k : Int) < ((12 * c : Nat) : Int) := by omega
      have hq1 : 0 ≤ 12 * (k : Int) := by omega
      have hq2 : (12 * (k : Int)).toNat = 12 * k := by omega
      have hq3 : k ≤ c := hk
      have hq4 : 12 * k ≤ 12 * c := by omega
      have hq5 : ¬ cp = 12 * k := by omega
      have hq6 : 12 * (k : Int) ≤ ((12 * c : Nat) : Int) := by omega
      have hq7 : ¬ ((12 * c - 12 * k : Nat) : Int) < 12 := by omega
      gi_wp2_with fail
      gi_region
      have hmin : min (12 : Int) ((12 * c - 12 * k : Nat) : Int) = 12 := by omega
      rw [hmin]
      clear hmin hq7 s0 n0
      have hbd : Below wr.heap.size wr wr.drew := (Below.refl _ _).drew
      replace hj := HJ.out _ _ _ hj (grownF hbd)
      replace jS := Blk.carry jS hbd
      replace jN := Blk.carry jN hbd
      generalize wr.drew = W2 at hj jS jN ⊢
      clear hbd
      have s0 := jS.cell (j := 0) (v := .slice (some ⟨g, 0, none⟩) (12 * c) cp) rfl
      have n0 := jN.cell (j := 0) (v := .int .i64 12) rfl
      have e1 : IntKind.i64.wrap (12 * (k : Int) + 12) = 12 * (k : Int) + 12 := IntWalk.i64_in _ (by omega)
      have e2 : 12 * (k : Int) ≤ 12 * (k : Int) + 12 := by omega
      have e3 : 12 * (k : Int) + 12 ≤ (cp : Int) := by omega
      have e4 : (12 * (k : Int) + 12).toNat = 12 * k + 12 := by omega
      have e5 : 0 ≤ 12 * (k : Int) + 12 := by omega
      have e6 : 12 * k + 12 - 12 * k = 12 := by omega
      obtain ⟨fn, tmps, assign, body, hy, hR⟩ := HY.out pre (chunkV g k, k) W2 hj ⟨by rw [hpre], by omega⟩
      simp only [chunkV] at hy
      gi_wp2_with fail
      refine hR.mono ?_
      rintro e W3 (⟨rfl, hj3, hk3⟩ | ⟨rfl, hjx⟩)
      · replace jS := Blk.kb jS hk3 hBs
        replace jN := Blk.kb jN hk3 hBn
        have s0 := jS.cell (j := 0) (v := .slice (some ⟨g, 0, none⟩) (12 * c) cp) rfl
        have n0 := jN.cell (j := 0) (v := .int .i64 12) rfl
        clear hR hy
        gi_wp2
        go_roundw
        case rel => exact ⟨k + 1, pre ++ [(chunkV g k, k)], by omega, by go_num, by rw [List.length_append, hpre]; rfl, hj3, jS, jN⟩
        case measure => simp [intOf]; omega
      · clear hR hy
        gi_wp2
        refine bodyPost_ret (results_none rfl _ _ _) rfl ?_
        exact ⟨⟨_, rfl⟩, .inr ⟨_, hjx⟩⟩

theorem chunk_seq (n : Nat) (hn : 1 ≤ n) (Bs Bn H g c cp : Nat) (w : World) (hcp : 12 * c ≤ cp) (hc3 : c ≤ 3) (hBs : Bs < H) (hBn : Bn < H)
    (iS : Blk w Bs 59 [.slice (some ⟨g, 0, none⟩) (12 * c) cp]) (iN : Blk w Bn 3 [.int .i64 12]) :
    SeqX Fence.wide n Tryz.prog 100 #[.pointer (some ⟨Bs, 0, none⟩), .pointer (some ⟨Bn, 0, none⟩)] (fun x : Value × Nat => #[x.1]) (fun pre x _ => x.1 = chunkV g pre.length ∧ pre.length < c) (KB H) (fun _ => True) (fun _ => True) false w :=
  fun l J Jx W hW hJ _ hY h00 => (chunk1_in n hn l Bs Bn H g c cp J Jx hcp hc3 hBs hBn hY (fun pre A B h hg => hJ pre A B none h hg (fun r e => by cases e)) W (Blk.carry iS hW) (Blk.carry iN hW) h00).mono
    fun _ _ ⟨hv, h⟩ => ⟨hv, h.imp (fun ⟨ys, h⟩ => ⟨ys, trivial, h⟩) (fun ⟨pre, h⟩ => ⟨pre, trivial, h⟩)⟩

/-- twelve cells of a longer row read as an array. -/
theorem load12at {l : List Int} (hl : l.length = 12) {w : World} {B o : Nat} (h : ∀ j, j < 12 → w.cell? ⟨B, o + j, none⟩ = some (.int .i64 (l[j]?.getD 0))) : Sem.run Tryz.prog (Instr.loadAt 30 (.pointer (some ⟨B, o, none⟩))) w = .ok (.agg (ia l)) w := by
  have hc : (l.map (Value.int .i64)).length = 12 := by rw [List.length_map, hl]
  have hcs : ∀ j v, (l.map (Value.int .i64))[j]? = some v → w.cell? ((⟨B, o, none⟩ : Addr).add j) = some v := fun j v hj => by
    rw [addr_add]
    have hlt : j < l.length := by have := (List.getElem?_eq_some_iff.1 hj).1; rwa [List.length_map] at this
    rw [h j (by omega)]
    rw [List.getElem?_map, List.getElem?_eq_getElem hlt] at hj
    rw [List.getElem?_eq_getElem hlt]
    exact hj
  have h1 := run_loadCells_list (P := Tryz.prog) w ⟨B, o, none⟩ (l.map (Value.int .i64)) hcs
  rw [hc] at h1
  have hi := Tryz.infoA12
  cases hq : Tryz.prog.info? 30 with
  | none => rw [hq] at hi; cases hi
  | some i =>
    rw [hq] at hi
    have hs : i.size = 12 := by simpa using hi
    have hagg : (isAgg 30).run Tryz.prog w = .ok true w := by
      unfold isAgg
      rw [Sem.run_bind, run_underlying Tryz.undA12 w]
      rfl
    simp only [Instr.loadAt, Instr.sureAddr, Sem.run_bind, Sem.run_pure, Result.andThen_ok]
    simp [loadVar, Sem.run_bind, hagg, sizeOf, typeInfo, hq, hs, h1, ia]
end

section
set_option linter.unusedSimpArgs false
set_option linter.unusedVariables false
open Go.RowKit

theorem results_cell2 {P : Program} {fn : Func} {p q : Tmp} {ty ty' : TypeId} (h : fn.results = #[.cell p ty, .cell q ty']) (tmps : Array Value) (w : World) (B B' : Nat) (v v' : Value) (hp : tmps.getD p undef = .pointer (some ⟨B, 0, none⟩)) (hq : tmps.getD q undef = .pointer (some ⟨B', 0, none⟩))
    (hv : (Instr.loadAt ty (.pointer (some ⟨B, 0, none⟩))).run P w = .ok v w) (hv' : (Instr.loadAt ty' (.pointer (some ⟨B', 0, none⟩))).run P w = .ok v' w) : (results fn tmps).run P w = .ok (.tuple #[v, v']) w := by
  simp only [Instr.loadAt, Instr.sureAddr, Sem.run_bind, Sem.run_pure, Result.andThen_ok] at hv hv'
  have hp' : tmps[p]?.getD undef = .pointer (some ⟨B, 0, none⟩) := by simpa using hp
  have hq' : tmps[q]?.getD undef = .pointer (some ⟨B', 0, none⟩) := by simpa using hq
  simp [results, h, hp', hq', asAddr, hv, hv']
theorem Blk.stableF {β : Type} {H B : Nat} (h : B < H) (T : TypeId) (f : β → List Value) : StableFrom H (fun (s : β) W => Blk W B T (f s)) := fun s A B' row hs hg hr =>
  (hg.block B (Blk.lt hs) (fun e => by have := hr B e.symm; omega)).trans hs
set_option maxHeartbeats 400000 in
theorem Chunk_any (a : Option Addr) (n c : Nat) (w : World) :
    Calls Tryz.prog 45 #[.slice a n c, .int .i64 12] w fun e w' => e = .returned (.func (.func 100) #[] #[.pointer (some ⟨w.heap.size, 0, none⟩), .pointer (some ⟨w.heap.size + 1, 0, none⟩)]) ∧ (w.alloc (.cells #[.slice a n c] 59)).alloc (.cells #[.int .i64 12] 3) = w' := by
  go_enter Tryz.func45, Tryz.ntmps45
  go_wp2
  go_ret
  exact ⟨rfl, rfl⟩

theorem arr12 (a : Option Addr) (n cap : Nat) (w : World) (h : 12 ≤ n) : Sem.run Tryz.prog (Instr.arrayAt 30 (.slice a n cap)) w = .ok (.pointer a) w := by
  unfold Instr.arrayAt
  rw [Sem.run_bind, run_underlying Tryz.undA12 w]
  simp [Nat.not_lt.2 h]
/-- k times, of integers. -/
def repsI (k : Nat) (l : List Int) : List Int := (List.replicate k l).flatten
theorem repsI_len (k : Nat) (l : List Int) (h : l.length = 12) : (repsI k l).length = 12 * k := by
  simp [repsI, h, Nat.mul_comm]
theorem repsI_map (k : Nat) (l : List Int) : (repsI k l).map flV = reps k (l.map flV) := by
  simp [repsI, reps, List.map_flatten, List.map_replicate]
theorem repsI_at (l : List Int) (h : l.length = 12) (j : Nat) (hj : j < 12) : ∀ (c k : Nat), k < c → (repsI c l)[12 * k + j]? = l[j]?
  | 0, k, hk => by omega
  | c + 1, 0, hk => by
    unfold repsI
    rw [List.replicate_succ, List.flatten_cons, List.getElem?_append_left (by omega)]
    simp
  | c + 1, k + 1, hk => by
    have := repsI_at l h j hj c k (by omega)
    unfold repsI at this ⊢
    rw [List.replicate_succ, List.flatten_cons, List.getElem?_append_right (by omega), h, show 12 * (k + 1) + j - 12 = 12 * k + j by omega]
    exact this
theorem repsI_mem (c : Nat) (l : List Int) : ∀ x ∈ repsI c l, x ∈ l := by
  intro x hx
  unfold repsI at hx
  rw [List.mem_flatten] at hx
  obtain ⟨m, hm, hx⟩ := hx
  rw [List.eq_of_mem_replicate hm] at hx
  exact hx

theorem eqI12 (l : List Int) (hl : l.length = 12) (W : World) : Sem.run Tryz.prog (Op.equalIn 10000 30 (.agg (ia l)) (.agg (ia l))) W = .ok true W := by
  obtain ⟨i0, hi, hz0, hz1, hz2⟩ := info_parts Tryz.infoInt
  have hc : Tryz.prog.cellsOf 3 = 1 := by kernel_rfl
  rw [run_equalIn_array W 9999 (t := 30) (e := 3) (n := 12) _ _ Tryz.undA12 hi, hc, eqItemsI l l W _ (fun i hi => by rw [hl]; exact ⟨List.mem_range.1 hi, List.mem_range.1 hi⟩), allRange_eq l l 12 hl hl]
  simp
theorem loadE {W : World} {B : Nat} {v : Value} (h : Blk W B 31 [v]) : Sem.run Tryz.prog (Instr.loadAt 31 (.pointer (some ⟨B, 0, none⟩))) W = .ok v W := by
  have hc := h.cell (j := 0) (v := v) rfl
  simp [Instr.loadAt, go_sem, hc]
theorem wpIn_load {F : Fence} {n : Nat} {P : Program} {w : World} {o : Oper} {a : Act} {K : Act → World → Prop} {Q : Exit → Act → World → Prop} (t : TypeId) (x : Operand) (hop : o.op = Op.load t x) {v : Value}
    (hrun : (Instr.loadAt t (a.eval x)).run P w = .ok v w) (hK : K (a.put o.dst v) w) : Oper.wpIn F n P o a w K Q := by
  unfold Oper.wpIn
  refine ⟨by simp [Oper.about, hop], ?_⟩
  rw [Oper.semAt_plain F _ _ (by rw [hop]; intro c hc'; cases hc')]
  simp [execOp, hop, hrun, Result.andThen]
  exact hK
attribute [local go_sem] Oper.semAt_some
set_option maxRecDepth 100000 in
set_option maxHeartbeats 4000000 in
theorem Levels_any (v : Value) (l : List Int) (c : Nat) (w : World) (hl : l.length = 12) (hr : ∀ x ∈ l, -100 ≤ x ∧ x ≤ 100) (hc1 : 1 ≤ c) (hc3 : c ≤ 3) (hv : Vals w v (reps c (l.map flV))) :
    Calls Tryz.prog 8 #[v] w fun e w' => e = .returned (.tuple #[.agg (ia l), .int .i64 0]) ∧ Below w.heap.size w w' := by
  obtain ⟨i0, hi, hz0, hz1, hz2⟩ := info_parts Tryz.infoInt
  have hN := reps_len c (l.map flV) (by rw [List.length_map, hl])
  obtain ⟨sb, so, scp, rfl, hcs⟩ := hv.head (by omega)
  rw [hN]
  obtain ⟨rl, hrl⟩ : ∃ rl, rl = repsI c l := ⟨_, rfl⟩
  have hrn : rl.length = 12 * c := by rw [hrl]; exact repsI_len c l hl
  have hrr : ∀ x ∈ rl, -100 ≤ x ∧ x ≤ 100 := fun x hx => hr x (repsI_mem c l x (by rw [← hrl]; exact hx))
  have hcs' : ∀ j, j < rl.length → w.cell? ⟨sb, so + j, none⟩ = some (.float .f32 (fl (rl[j]?.getD 0))) := fun j hj => by
    refine hcs j _ ?_
    rw [← repsI_map, ← hrl, List.getElem?_map, List.getElem?_eq_getElem hj]
    rfl
  have HRL := Lib.hid hrl
  have HRR := Lib.hid hrr
  have HCS := Lib.hid hcs'
  have HR := Lib.hid hr
  clear hcs hcs' hrr hr hv hN hrl
  obtain ⟨n, hn⟩ : ∃ n, n = 12 * c := ⟨_, rfl⟩
  rw [← hn] at hrn ⊢
  have d1 : ¬ (n : Int) < 12 := by omega
  have d2 : ¬ 192 < (n : Int) := by omega
  have d3 : Int.tmod (n : Int) 12 = 0 := by rw [Int.tmod_eq_emod_of_nonneg (by omega)]; omega
  have T3 := Lib.hid (first3H 0 0 0 31)
  have HN := Lib.hid hn
  clear hn
  have w1 : whenE (decide ((n : Int) < 12)) 16 = 0 := by rw [decide_eq_false d1]; rfl
  have w2 : whenE (decide (192 < (n : Int))) 5 = 0 := by rw [decide_eq_false d2]; rfl
  have w3 : whenE false 2 = 0 := rfl
  have w4 : whenE false 16 = 0 := rfl
  have w5 : whenE false 5 = 0 := rfl
  refine calls_of_postR Tryz.func8 rfl ?_
  simp only [Tryz.ntmps8, List.size_toArray, List.length_cons, List.length_nil, Nat.reduceAdd, Nat.reduceSub, Array.replicate_succ, Array.replicate_zero, List.push_toArray, List.append_toArray, List.nil_append, List.cons_append]
  go_upto_region 1 with fail
  obtain ⟨W1, hW1⟩ : ∃ v, v = World.alloc w (Obj.cells #[.int .i64 0, .int .i64 0, .int .i64 0, .int .i64 0, .int .i64 0, .int .i64 0, .int .i64 0, .int .i64 0, .int .i64 0, .int .i64 0, .int .i64 0, .int .i64 0] 30) := ⟨_, rfl⟩
  have kW1 : Below w.heap.size w W1 := by rw [hW1]; exact below_new _ _
  have iW1 : BlkI W1 (w.heap.size) 30 (List.replicate 12 0) := by rw [hW1]; exact BlkI.new w 30 (List.replicate 12 0)
  have sW1 : W1.heap.size = w.heap.size + 1 := by rw [hW1]; simp
  rw [← hW1]
  clear hW1
  obtain ⟨W2, hW2⟩ : ∃ v, v = World.alloc W1 (Obj.cells #[.int .i64 0] 31) := ⟨_, rfl⟩
  have kW2 : Below W1.heap.size W1 W2 := by rw [hW2]; exact below_new _ _
  have iW2 : Blk W2 (w.heap.size + 1) 31 [.int .i64 0] := by rw [hW2, ← sW1]; exact Blk.new _ _ _
  have sW2 : W2.heap.size = w.heap.size + 1 + 1 := by rw [hW2]; simp [sW1]
  rw [← hW2]
  clear hW2
  replace iW1 := Blk.carry iW1 kW2
  have hB2 := bthen kW1 kW2
  clear kW1 kW2
  have HI := Lib.hid hi
  clear hi
  go_wp2_with fail
  refine (whenH_any _ _ _).mono ?_
  rintro e w' ⟨rfl, rfl⟩
  go_wp2_with fail
  refine (whenH_any _ _ _).mono ?_
  rintro e w' ⟨rfl, rfl⟩
  go_wp2_with fail
  refine (whenH_any _ _ _).mono ?_
  rintro e w' ⟨rfl, rfl⟩
  rw [w3]
  go_wp2_with fail
  have t3 := T3.out W2
  rw [sW2] at t3
  refine t3.mono ?_
  rintro e w9 ⟨rfl, hw9⟩
  have kW3 : Below W2.heap.size W2 w9 := by rw [← hw9]; exact below_new _ _
  clear hw9
  replace iW1 := Blk.carry iW1 kW3
  replace iW2 := Blk.carry iW2 kW3
  replace hB2 := bthen hB2 kW3
  rw [show firstE [0, 0, 0] = 0 from rfl]
  clear kW3 T3 t3
  obtain ⟨Y, hY⟩ : ∃ v, v = w9 := ⟨_, rfl⟩
  rw [← hY] at iW1 iW2 hB2 ⊢
  have hYs : w.heap.size + 2 ≤ Y.heap.size := by have h9 := Blk.lt iW2; omega
  clear hY sW1 sW2 w1 w2 w3 w4 w5
  go_wp2_with fail
  go_loopw [5, 33] (fun v i wr => ∃ k : Nat, k ≤ n ∧ i = .int .i64 k ∧ wr.ownsRow Y.heap.size 3 1 v k ((rl.take k).map (Value.int .i64)) ∧ Below Y.heap.size Y wr) (fun _ i _ => n - (intOf i).toNat)
  case atStart => exact ⟨0, by omega, rfl, World.ownsRow_nil _ _ _ _, Below.refl _ _⟩
  case round =>
    obtain ⟨k, hk, rfl, hown, hbel⟩ := hrel
    by_cases hlt : k < n
    · have c0 := cellb (HCS.out k (by omega)) (bthen hB2 hbel)
      have hx := HRR.out (rl[k]?.getD 0) (by rw [List.getElem?_eq_getElem (by omega)]; exact List.getElem_mem _)
      have HT := Lib.hid (show rl.take (k + 1) = rl.take k ++ [rl[k]?.getD 0] by rw [List.take_add_one, List.getElem?_eq_getElem (by omega)]; rfl)
      generalize rl[k]?.getD 0 = x at c0 HT hx
      have TL := Lib.hid (level_any x hx wr)
      have hn9 : n ≤ 36 := by have := HN.out; omega
      clear hx
      go_wp2_with fail
      refine TL.out.mono ?_
      rintro e w5 ⟨rfl, hb5⟩
      replace hown := own_below hown hb5
      replace hbel := bthen hbel hb5
      clear hb5 TL c0
      go_wp2_with (at_builtin; refine wpList_append_own _ rfl _ _ 59 rfl Y.heap.size 3 i0 (.int .i64 0) 1 8 Tryz.underlying59 HI.out hz0 hz1 hz2 rfl (by decide) _ _ _ rfl (hown.alloc _) ⟨w5.heap.size, 0, none⟩ 1 1 [.int .i64 x] rfl rfl (cell_one_new _ _ _) (by simp [Value.oneCell']) (by unfold maxLen; omega) (by omega) (by have := hbel.size; simp; omega) ?_; intro v' w6 hown' hgrow hnil)
      have hbel' := below_own hbel hown hgrow
      have hown2 : w6.ownsRow Y.heap.size 3 1 v' (k + 1) ((rl.take (k + 1)).map (Value.int .i64)) := by
        rw [HT.out, List.map_append]; exact hown'
      clear hown hbel hown' hgrow
      go_wp2
      go_roundw
      case rel => exact ⟨k + 1, by omega, by go_num, hown2, hbel'⟩
      case measure => simp [intOf]; omega
    · obtain rfl : k = n := by omega
      have hcat : ∀ (q j : Nat), q < c → j < 12 → rl[12 * q + j]? = l[j]? := fun q j hq hj => by rw [HRL.out]; exact repsI_at l hl j hj c q hq
      have hk12 : 12 ≤ k := by have := HN.out; omega
      obtain ⟨g, cap, cur, rfl, hgb, hg, hcap, htake⟩ : ∃ g cap cur, u5 = .slice (some ⟨g, 0, none⟩) k cap ∧ Y.heap.size ≤ g ∧ Blk wr g 3 cur ∧ k ≤ cap ∧ cur.take k = (rl.take k).map (Value.int .i64) := by
        rcases hown.2 with ⟨_, h0⟩ | ⟨g, cap, cur, hv, hgb, hg, hc, _, _, ht⟩
        · omega
        · exact ⟨g, cap, cur.toList, hv, hgb, by unfold Blk; simpa using hg, hc, by rw [Nat.mul_one] at ht; exact ht⟩
      have hcell : ∀ (q j : Nat), q < c → j < 12 → cur[12 * q + j]? = some (.int .i64 (l[j]?.getD 0)) := fun q j hq hj => by
        have hlt : 12 * q + j < k := by have := HN.out; omega
        have h2 : (cur.take k)[12 * q + j]? = ((rl.take k).map (Value.int .i64))[12 * q + j]? := by rw [htake]
        rw [List.getElem?_take_of_lt hlt, List.getElem?_map, List.getElem?_take_of_lt hlt, hcat q j hq hj, List.getElem?_eq_getElem (show j < l.length by omega)] at h2
        rw [h2, List.getElem?_eq_getElem (show j < l.length by omega)]
        rfl
      have HCL := Lib.hid hcell
      clear hown hcat htake hcell
      have g1 : (12 : Int) ≤ (cap : Int) := by omega
      have g2 : (12 : Nat) ≤ cap := by omega
      have hB3 := bthen hB2 hbel
      replace iW1 := Blk.carry iW1 hbel
      replace iW2 := Blk.carry iW2 hbel
      have harr := arr12 (some ⟨g, 0, none⟩) 12 cap wr (Nat.le_refl _)
      have hc0 : 0 < c := hc1
      have hld := load12at (w := wr) (B := g) (o := 0) hl (fun j hj => by rw [Nat.zero_add]; have h9 := HCL.out 0 j hc0 hj; rw [Nat.mul_zero, Nat.zero_add] at h9; exact Blk.cell hg h9)
      go_upto_region 14 with (first | (refine wpList_load rfl _ _ rfl hld ?_) | (refine wpList_storeA rfl _ _ _ rfl wr.heap.size l (List.replicate 12 0) rfl rfl (BlkI.new wr 30 (List.replicate 12 0)) (by rw [hl]; rfl) (by rw [hl]; exact Tryz.infoA12) ?_))
      obtain ⟨W4, hW4⟩ : ∃ v, v = World.setRow (World.alloc wr (Obj.cells #[.int .i64 0, .int .i64 0, .int .i64 0, .int .i64 0, .int .i64 0, .int .i64 0, .int .i64 0, .int .i64 0, .int .i64 0, .int .i64 0, .int .i64 0, .int .i64 0] 30)) wr.heap.size (ia (l)) := ⟨_, rfl⟩
      have kW4 : Below wr.heap.size wr W4 := by rw [hW4]; exact zrow_below _ _ _ _
      have iW4 : BlkI W4 wr.heap.size 30 (l) := by rw [hW4]; exact zrow_blk wr _ (List.replicate 12 0) _
      rw [← hW4]
      clear hW4
      obtain ⟨G, hG⟩ : ∃ G, G = wr.heap.size := ⟨_, rfl⟩
      rw [← hG] at iW4 ⊢
      replace hg := Blk.carry hg kW4
      replace iW1 := Blk.carry iW1 kW4
      replace iW2 := Blk.carry iW2 kW4
      have hB4 := bthen hB3 kW4
      have hGw : w.heap.size + 2 ≤ G := by have := hbel.size; omega
      clear hld harr hbel hB3 kW4 hG hB2
      go_wp2_with fail
      refine (Chunk_any _ _ _ W4).mono ?_
      rintro e W5 ⟨rfl, hw5⟩
      have kA := below_new W4 (.cells #[.slice (some ⟨g, 0, none⟩) k cap] 59)
      have iA := Blk.new W4 59 [.slice (some ⟨g, 0, none⟩) k cap]
      have iC := Blk.new (W4.alloc (.cells #[.slice (some ⟨g, 0, none⟩) k cap] 59)) 3 [.int .i64 12]
      have kC := below_new (W4.alloc (.cells #[.slice (some ⟨g, 0, none⟩) k cap] 59)) (.cells #[.int .i64 12] 3)
      replace iA := Blk.carry iA kC
      have kAC := bthen kA kC
      rw [World.size_alloc] at iC
      have hs5 : W5.heap.size = W4.heap.size + 2 := by rw [← hw5]; simp
      rw [hw5] at iA iC kAC
      clear kA kC hw5
      replace hg := Blk.carry hg kAC
      replace iW1 := Blk.carry iW1 kAC
      replace iW2 := Blk.carry iW2 kAC
      replace iW4 := Blk.carry iW4 kAC
      replace hB4 := bthen hB4 kAC
      obtain ⟨BS, hBS⟩ : ∃ B, B = W4.heap.size := ⟨_, rfl⟩
      rw [← hBS] at iA iC hs5 ⊢
      clear kAC hBS
      go_wp2_with fail
      refine wp_rangeS (s := 11) (gf := 100) (lb := #[.pointer (some ⟨BS, 0, none⟩), .pointer (some ⟨BS + 1, 0, none⟩)]) rfl (enters_of Tryz.func100 (by kernel_rfl) rfl)
        (chunk_seq 4 (by omega) BS (BS + 1) W5.heap.size g c cap W5 (by have := HN.out; omega) hc3 (by omega) (by omega) (by have h := iA; rw [HN.out] at h; exact h) iC)
        KB.trans (fun W l o o' hl h h1 _ => KB.turn h h1) (KB.refl _) (Below.refl _ _)
        (fun pre W => ((BlkI W G 30 l ∧ Blk W g 3 cur) ∧ (BlkI W w.heap.size 30 (List.replicate 12 0) ∧ Blk W (w.heap.size + 1) 31 [.int .i64 0])) ∧ Below W5.heap.size W5 W)
        (fun _ _ _ => False)
        (StableFrom.and (StableFrom.and (StableFrom.and (Blk.stableF (Blk.lt iW4) _ (fun _ => _)) (Blk.stableF (Blk.lt hg) _ (fun _ => _))) (StableFrom.and (Blk.stableF (Blk.lt iW1) _ (fun _ => _)) (Blk.stableF (Blk.lt iW2) _ (fun _ => _)))) (StableFrom.below (Nat.le_refl _) (Nat.le_refl _)))
        (fun _ _ _ _ _ hs _ _ => hs)
        ⟨⟨⟨iW4, hg⟩, iW1, iW2⟩, Below.refl _ _⟩ (fun pre _ A B row hs hg hr => hs) ?assign ?body ?done ?stop
      case assign =>
        intro l v W K hK
        gi_wp2
        exact hK
      case body =>
        rintro ll pre ⟨xv, xq⟩ W ⟨⟨⟨jG, jg⟩, j1, j2⟩, hBr⟩ ⟨hx, hlen⟩
        simp only [chunkV] at hx
        subst hx
        simp only [List.setIfInBounds_toArray, List.set_cons_succ, List.set_cons_zero]
        have hwf : ∀ f, (Fence.wide.inRound ll).fn f := fun _ => trivial
        have hbd : Below W.heap.size W W.drew := (Below.refl _ _).drew
        have jG2 := Blk.carry jG hbd
        have jg2 := Blk.carry jg hbd
        have hl1 := load12at (w := W.drew) (B := g) (o := 12 * pre.length) hl (fun j hj => Blk.cell jg2 (HCL.out _ j hlen hj))
        have hl2 := load12 hl jG2
        have ha := arr12 (some ⟨g, 12 * pre.length, none⟩) 12 12 W.drew (Nat.le_refl _)
        have he := eqI12 l hl W.drew
        gi_wp2_with fail
        refine wpIn_region_any (by kernel_rfl) ?_
        (try (change wpAnyIn _ _ _ _ _ _ _ _ _ (World.drew _)))
        refine wpAnyIn_ready (rs := [0, 3]) (by kernel_rfl) (by simp) ?_
        refine (AllReadyIn.cons (o := { dst := some 58, op := Op.move (Operand.tmp 11), type := 59, pos := "harmonic.go:364", after := #[], guard := none }) rfl (fun K hK => ?_) (AllReadyIn.cons (o := { dst := some 61, op := Op.load 30 (Operand.tmp 10), type := 30, pos := "harmonic.go:364", after := #[], guard := none }) rfl (fun K hK => ?_) AllReadyIn.nil))
        · go_simp
          refine hK _ _ ?_
          clear hK K
          try simp only [Act.put, List.setIfInBounds_toArray, List.set_cons_zero, List.set_cons_succ]
          refine wpAnyIn_ready (rs := [1, 3]) (by kernel_rfl) (by simp) ?_
          refine (AllReadyIn.cons (o := { dst := some 59, op := Op.sliceToArrayPointer 30 (Operand.tmp 58), type := 0, pos := "harmonic.go:364", after := #[{ on := 0, ground := Ground.data }], guard := none }) rfl (fun K hK => ?_) (AllReadyIn.cons (o := { dst := some 61, op := Op.load 30 (Operand.tmp 10), type := 30, pos := "harmonic.go:364", after := #[], guard := none }) rfl (fun K hK => ?_) AllReadyIn.nil))
          · go_simp
            refine hK _ _ ?_
            clear hK K
            try simp only [Act.put, List.setIfInBounds_toArray, List.set_cons_zero, List.set_cons_succ]
            refine wpAnyIn_ready (rs := [2, 3]) (by kernel_rfl) (by simp) ?_
            refine (AllReadyIn.cons (o := { dst := some 60, op := Op.load 30 (Operand.tmp 59), type := 30, pos := "harmonic.go:364", after := #[{ on := 1, ground := Ground.data }], guard := none }) rfl (fun K hK => ?_) (AllReadyIn.cons (o := { dst := some 61, op := Op.load 30 (Operand.tmp 10), type := 30, pos := "harmonic.go:364", after := #[], guard := none }) rfl (fun K hK => ?_) AllReadyIn.nil))
            · rw [if_pos (by rfl)]
              refine wpIn_load _ _ rfl hl1 ?_
              refine hK _ _ ?_
              clear hK K
              try simp only [Act.put, List.setIfInBounds_toArray, List.set_cons_zero, List.set_cons_succ]
              refine wpAnyIn_ready (rs := [3]) (by kernel_rfl) (by simp) ?_
              refine (AllReadyIn.cons (o := { dst := some 61, op := Op.load 30 (Operand.tmp 10), type := 30, pos := "harmonic.go:364", after := #[], guard := none }) rfl (fun K hK => ?_) AllReadyIn.nil)
              rw [if_pos (by rfl)]
              refine wpIn_load _ _ rfl hl2 ?_
              refine hK _ _ ?_
              clear hK K
              try simp only [Act.put, List.setIfInBounds_toArray, List.set_cons_zero, List.set_cons_succ]
              refine wpAnyIn_ready (rs := [4]) (by kernel_rfl) (by simp) ?_
              refine (AllReadyIn.cons (o := { dst := some 62, op := Op.binOp BinOp.neq 30 (Operand.tmp 60) (Operand.tmp 61) 30, type := 4, pos := "harmonic.go:364", after := #[{ on := 2, ground := Ground.data }, { on := 3, ground := Ground.data }], guard := none }) rfl (fun K hK => ?_) AllReadyIn.nil)
              go_simp
              refine hK _ _ ?_
              clear hK K
              try simp only [Act.put, List.setIfInBounds_toArray, List.set_cons_zero, List.set_cons_succ]
              refine wpAnyIn_done (by kernel_rfl) ?_ _
              gi_wp2
              exact ⟨(keeps_of_below hbd).from _, KB.below hbd, ⟨⟨jG2, jg2⟩, Blk.carry j1 hbd, Blk.carry j2 hbd⟩, bthen hBr hbd⟩
            · rw [if_pos (by rfl)]
              refine wpIn_load _ _ rfl hl2 ?_
              refine hK _ _ ?_
              clear hK K
              try simp only [Act.put, List.setIfInBounds_toArray, List.set_cons_zero, List.set_cons_succ]
              refine wpAnyIn_ready (rs := [2]) (by kernel_rfl) (by simp) ?_
              refine (AllReadyIn.cons (o := { dst := some 60, op := Op.load 30 (Operand.tmp 59), type := 30, pos := "harmonic.go:364", after := #[{ on := 1, ground := Ground.data }], guard := none }) rfl (fun K hK => ?_) AllReadyIn.nil)
              rw [if_pos (by rfl)]
              refine wpIn_load _ _ rfl hl1 ?_
              refine hK _ _ ?_
              clear hK K
              try simp only [Act.put, List.setIfInBounds_toArray, List.set_cons_zero, List.set_cons_succ]
              refine wpAnyIn_ready (rs := [4]) (by kernel_rfl) (by simp) ?_
              refine (AllReadyIn.cons (o := { dst := some 62, op := Op.binOp BinOp.neq 30 (Operand.tmp 60) (Operand.tmp 61) 30, type := 4, pos := "harmonic.go:364", after := #[{ on := 2, ground := Ground.data }, { on := 3, ground := Ground.data }], guard := none }) rfl (fun K hK => ?_) AllReadyIn.nil)
              go_simp
              refine hK _ _ ?_
              clear hK K
              try simp only [Act.put, List.setIfInBounds_toArray, List.set_cons_zero, List.set_cons_succ]
              refine wpAnyIn_done (by kernel_rfl) ?_ _
              gi_wp2
              exact ⟨(keeps_of_below hbd).from _, KB.below hbd, ⟨⟨jG2, jg2⟩, Blk.carry j1 hbd, Blk.carry j2 hbd⟩, bthen hBr hbd⟩
          · rw [if_pos (by rfl)]
            refine wpIn_load _ _ rfl hl2 ?_
            refine hK _ _ ?_
            clear hK K
            try simp only [Act.put, List.setIfInBounds_toArray, List.set_cons_zero, List.set_cons_succ]
            refine wpAnyIn_ready (rs := [1]) (by kernel_rfl) (by simp) ?_
            refine (AllReadyIn.cons (o := { dst := some 59, op := Op.sliceToArrayPointer 30 (Operand.tmp 58), type := 0, pos := "harmonic.go:364", after := #[{ on := 0, ground := Ground.data }], guard := none }) rfl (fun K hK => ?_) AllReadyIn.nil)
            go_simp
            refine hK _ _ ?_
            clear hK K
            try simp only [Act.put, List.setIfInBounds_toArray, List.set_cons_zero, List.set_cons_succ]
            refine wpAnyIn_ready (rs := [2]) (by kernel_rfl) (by simp) ?_
            refine (AllReadyIn.cons (o := { dst := some 60, op := Op.load 30 (Operand.tmp 59), type := 30, pos := "harmonic.go:364", after := #[{ on := 1, ground := Ground.data }], guard := none }) rfl (fun K hK => ?_) AllReadyIn.nil)
            rw [if_pos (by rfl)]
            refine wpIn_load _ _ rfl hl1 ?_
            refine hK _ _ ?_
            clear hK K
            try simp only [Act.put, List.setIfInBounds_toArray, List.set_cons_zero, List.set_cons_succ]
            refine wpAnyIn_ready (rs := [4]) (by kernel_rfl) (by simp) ?_
            refine (AllReadyIn.cons (o := { dst := some 62, op := Op.binOp BinOp.neq 30 (Operand.tmp 60) (Operand.tmp 61) 30, type := 4, pos := "harmonic.go:364", after := #[{ on := 2, ground := Ground.data }, { on := 3, ground := Ground.data }], guard := none }) rfl (fun K hK => ?_) AllReadyIn.nil)
            go_simp
            refine hK _ _ ?_
            clear hK K
            try simp only [Act.put, List.setIfInBounds_toArray, List.set_cons_zero, List.set_cons_succ]
            refine wpAnyIn_done (by kernel_rfl) ?_ _
            gi_wp2
            exact ⟨(keeps_of_below hbd).from _, KB.below hbd, ⟨⟨jG2, jg2⟩, Blk.carry j1 hbd, Blk.carry j2 hbd⟩, bthen hBr hbd⟩
        · rw [if_pos (by rfl)]
          refine wpIn_load _ _ rfl hl2 ?_
          refine hK _ _ ?_
          clear hK K
          try simp only [Act.put, List.setIfInBounds_toArray, List.set_cons_zero, List.set_cons_succ]
          refine wpAnyIn_ready (rs := [0]) (by kernel_rfl) (by simp) ?_
          refine (AllReadyIn.cons (o := { dst := some 58, op := Op.move (Operand.tmp 11), type := 59, pos := "harmonic.go:364", after := #[], guard := none }) rfl (fun K hK => ?_) AllReadyIn.nil)
          go_simp
          refine hK _ _ ?_
          clear hK K
          try simp only [Act.put, List.setIfInBounds_toArray, List.set_cons_zero, List.set_cons_succ]
          refine wpAnyIn_ready (rs := [1]) (by kernel_rfl) (by simp) ?_
          refine (AllReadyIn.cons (o := { dst := some 59, op := Op.sliceToArrayPointer 30 (Operand.tmp 58), type := 0, pos := "harmonic.go:364", after := #[{ on := 0, ground := Ground.data }], guard := none }) rfl (fun K hK => ?_) AllReadyIn.nil)
          go_simp
          refine hK _ _ ?_
          clear hK K
          try simp only [Act.put, List.setIfInBounds_toArray, List.set_cons_zero, List.set_cons_succ]
          refine wpAnyIn_ready (rs := [2]) (by kernel_rfl) (by simp) ?_
          refine (AllReadyIn.cons (o := { dst := some 60, op := Op.load 30 (Operand.tmp 59), type := 30, pos := "harmonic.go:364", after := #[{ on := 1, ground := Ground.data }], guard := none }) rfl (fun K hK => ?_) AllReadyIn.nil)
          rw [if_pos (by rfl)]
          refine wpIn_load _ _ rfl hl1 ?_
          refine hK _ _ ?_
          clear hK K
          try simp only [Act.put, List.setIfInBounds_toArray, List.set_cons_zero, List.set_cons_succ]
          refine wpAnyIn_ready (rs := [4]) (by kernel_rfl) (by simp) ?_
          refine (AllReadyIn.cons (o := { dst := some 62, op := Op.binOp BinOp.neq 30 (Operand.tmp 60) (Operand.tmp 61) 30, type := 4, pos := "harmonic.go:364", after := #[{ on := 2, ground := Ground.data }, { on := 3, ground := Ground.data }], guard := none }) rfl (fun K hK => ?_) AllReadyIn.nil)
          go_simp
          refine hK _ _ ?_
          clear hK K
          try simp only [Act.put, List.setIfInBounds_toArray, List.set_cons_zero, List.set_cons_succ]
          refine wpAnyIn_done (by kernel_rfl) ?_ _
          gi_wp2
          exact ⟨(keeps_of_below hbd).from _, KB.below hbd, ⟨⟨jG2, jg2⟩, Blk.carry j1 hbd, Blk.carry j2 hbd⟩, bthen hBr hbd⟩
      case done =>
        rintro D ys W hD hS ⟨⟨⟨jG, jg⟩, j1, j2⟩, hBr⟩ hK
        have hld := load12 hl jG
        have x0 := j2.cell (j := 0) (v := .int .i64 0) rfl
        have f0 := j2.frozen 0
        have hx0 := (Blk.setRow j2 (show w.heap.size + 1 ≠ w.heap.size by omega) (ia l)).cell (j := 0) (v := .int .i64 0) rfl
        have hf0 := (Blk.setRow j2 (show w.heap.size + 1 ≠ w.heap.size by omega) (ia l)).frozen 0
        go_wp2_with (first | (refine wpList_load rfl _ _ rfl hld ?_) | (refine wpList_storeA rfl _ _ _ rfl w.heap.size l (List.replicate 12 0) rfl rfl j1 (by rw [hl]; rfl) (by rw [hl]; exact Tryz.infoA12) ?_))
        have hDs : w.heap.size + 2 ≤ D := by have := Blk.lt iW4; omega
        have hB6 := bthen hB4 hBr
        have m1 := Blk.setRow j2 (show w.heap.size + 1 ≠ w.heap.size by omega) (ia l)
        have m0 := BlkI.setRowA j1 l
        have hB7 := below_rowA hB6 (Nat.le_refl w.heap.size) (ia l)
        have hK1 : (W.setRow w.heap.size (ia l)).heap[D]? = some (.deferred (some [])) := (setRow_other W w.heap.size D (ia l) (by omega)).trans hK
        obtain ⟨V, hV⟩ : ∃ v, v = W.setRow w.heap.size (ia l) := ⟨_, rfl⟩
        rw [← hV] at m0 m1 hB7 hK1 ⊢
        clear hV hK hB6 hx0 hf0 x0 f0 hld
        have hK2 := (KeepsOthers.setCell V ⟨w.heap.size + 1, 0, none⟩ (.int .i64 0)).same D _ hK1 rfl
        have r1 := Blk.kept (m1.set 0 (.int .i64 0)) (grownBy_putObj' _ D (.deferred none)) (by simp; omega)
        have r0 := Blk.kept (m0.other (by omega : w.heap.size ≠ w.heap.size + 1) (j := 0) (.int .i64 0)) (grownBy_putObj' _ D (.deferred none)) (by simp; omega)
        refine postR_mark (v := .tuple #[.agg (ia l), .int .i64 0]) hK2 rfl (results_cell2 (p := 2) (q := 3) rfl _ _ w.heap.size (w.heap.size + 1) _ _ rfl rfl (load12 hl r0) (loadE r1)) ⟨rfl, (hB7.setCell (by simp) _).trans (belowK_b (w := w) (Nat.le_refl _) _ D _ _ (by omega) hK2 rfl rfl)⟩
      case stop =>
        rintro D co pre W hD hSp hF hK
        exact hF.elim
end

end Go.Proofs.YtfeajpkjjlddlaaGreatDoor

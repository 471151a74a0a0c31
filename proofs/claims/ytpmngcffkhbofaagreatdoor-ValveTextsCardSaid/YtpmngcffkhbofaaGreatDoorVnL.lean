/- Plain facts of texts of logs: a log's text is parsed as it was printed, and the other way round. No program in sight. -/
import Derived.Test.YtpmngcffkhbofaaGreatDoorVnC
import Derived.Test.YtpmngcffkhbofaaGreatDoorVbC
import Derived.Lib.ItoaMem
import Derived.Laws.BytesArg
namespace Go.Proofs.YtpmngcffkhbofaaGreatDoor
section
set_option linter.unusedSimpArgs false
set_option linter.unusedVariables false
open Go.RowKit
theorem join_joinC (c : UInt8) : ∀ ws : List (List UInt8), Lib.join ws [c] = joinC c ws
 | [] => rfl
 | [p] => by simp [Lib.join, List.intercalate, joinC]
 | p :: q :: r => by
   have ih := join_joinC c (q :: r)
   unfold Lib.join at ih ⊢
   simp only [List.intercalate, List.intersperse_cons_cons, List.flatten_cons] at ih ⊢
   rw [joinC, ← ih]
   simp
/-- a line's words, joined. -/
def bodyK (k : Nat) (l : List Int) : List UInt8 := joinC 32 (fldL k :: l.map Lib.itoa)
theorem lineW_body (s : ByteArray) (k : Nat) (l : List Int) (hs : s.data.toList = fldL k) : (lineW s l).data.toList = bodyK k l ++ [10] := by
 unfold lineW lineJ bodyK
 rw [data_append, ← join_joinC]
 have e : (s :: l.map word).map (·.data.toList) = fldL k :: l.map Lib.itoa := by
  rw [List.map_cons, hs, List.map_map]
  congr 1
 rw [e]
end
section
set_option linter.unusedSimpArgs false
set_option linter.unusedVariables false
open Go.RowKit
theorem exec_conv {P : Program} {ρ : Operand → Value} {o : Oper} {src dst : TypeId} {x : Operand} {v : Value} {w : World} (hop : o.op = Op.convert src dst x) (h : Sem.run P (convert src dst (ρ x)) w = .ok v w) : (execOp ρ o).run P w = .ok (.value v) w := by
 unfold execOp
 simp [hop, h, eqGuard, Result.andThen]
def decB (n : Nat) : ByteArray := ⟨(Lib.decDigits n).toArray⟩
theorem decB_small {n : Nat} (h : n < 10) : decB n = strOfNums [48 + (n : Int)] := by
 apply baEq
 rw [strOfNums_data]
 show Lib.decDigits n = _
 rw [Lib.decDigits, dif_pos h]
 simp only [List.map_cons, List.map_nil]
 rw [show (48 + (n : Int)).toNat = 48 + n by omega]
theorem decB_big {n : Nat} (h : ¬ n < 10) : decB n = decB (n / 10) ++ strOfNums [48 + ((n % 10 : Nat) : Int)] := by
 apply baEq
 rw [data_append, strOfNums_data]
 show Lib.decDigits n = Lib.decDigits (n / 10) ++ _
 rw [Lib.decDigits, dif_neg h]
 simp only [List.map_cons, List.map_nil]
 rw [show (48 + ((n % 10 : Nat) : Int)).toNat = 48 + n % 10 by omega]
theorem decB_len : ∀ (d n : Nat), n < 10 ^ d → (decB n).size ≤ d + 1
 | 0, n, h => by
   obtain rfl : n = 0 := by simpa using h
   rw [decB_small (by decide), strOfNums_size]; simp
 | d + 1, n, h => by
   by_cases h10 : n < 10
   ·rw [decB_small h10, strOfNums_size]; simp
   ·have := decB_len d (n / 10) (by rw [Nat.pow_succ] at h; omega)
    rw [decB_big h10, ByteArray.size_append, strOfNums_size, List.length_singleton]
    omega
theorem convB {W : World} {g : Nat} {x : Int} (hc : W.cell? ⟨g, 0, none⟩ = some (.int .u8 x)) : Sem.run Tryz.prog (convert 193 9 (.slice (some ⟨g, 0, none⟩) 1 1)) W = .ok (.string (strOfNums [x])) W :=
 run_convert_bytes_arg W 193 5 Tryz.underlying193 Tryz.underlying5 g 0 1 1 [x] rfl (fun i hi => match i, hi with | 0, _ => hc) 9 Tryz.underlying9
set_option maxRecDepth 100000 in
theorem Text_any.small (n : Nat) (w : World) (h10 : n < 10) :
 Calls Tryz.prog 54 #[.int .i64 (n : Int)] w fun e w' => e = .returned (.string (decB n)) ∧ Below w.heap.size w w' := by
 have d0 : ¬ (n : Int) < 0 := by omega
 have d1 : (n : Int) < 10 := by omega
 have v0 : IntKind.i64.wrap (48 + (n : Int)) = 48 + (n : Int) := IntWalk.i64_in _ (by omega)
 have v1 : IntKind.u8.wrap (48 + (n : Int)) = 48 + (n : Int) := IntWalk.u8_in _ (by omega)
 have hcv := convB (W := w.alloc (.cells #[.int .u8 (48 + (n : Int))] 5)) (g := w.heap.size) (x := 48 + (n : Int)) (cell_new w _ _ 0)
 have HS := Lib.hid (decB_small h10)
 go_enter Tryz.func54, Tryz.ntmps54
 go_wp2
 go_ret
 exact ⟨by rw [HS.out]; rfl, below_new _ _⟩
set_option maxRecDepth 100000 in
set_option maxHeartbeats 4000000 in
theorem Text_any : ∀ (d n : Nat) (w : World), n < 10 ^ d → n ≤ 1000000000 → d ≤ 9 →
 Calls Tryz.prog 54 #[.int .i64 (n : Int)] w fun e w' => e = .returned (.string (decB n)) ∧ Below w.heap.size w w'
 | 0, n, w, h, hn, _ => Text_any.small n w (by rw [Nat.pow_zero] at h; omega)
 | d + 1, n, w, h, hn, hd => by
   by_cases h10 : n < 10
   ·exact Text_any.small n w h10
   ·have d0 : ¬ (n : Int) < 0 := by omega
    have d1 : ¬ (n : Int) < 10 := by omega
    have T := Lib.hid (fun W => Text_any d (n / 10) W (by rw [Nat.pow_succ] at h; omega) (by omega) (by omega))
    have HL := Lib.hid (decB_len d (n / 10) (by rw [Nat.pow_succ] at h; omega))
    have HS := Lib.hid (decB_big h10)
    obtain ⟨q, hq⟩ : ∃ q, q = n / 10 := ⟨_, rfl⟩
    obtain ⟨r, hr⟩ : ∃ r, r = n % 10 := ⟨_, rfl⟩
    have v0 : IntKind.i64.wrap (Int.tdiv (n : Int) 10) = (q : Int) := by
     rw [hq, show Int.tdiv (n : Int) 10 = ((n / 10 : Nat) : Int) from rfl]
     exact IntWalk.i64_in _ (by omega)
    have v0' : IntKind.i64.wrap ((n : Int) / 10) = (q : Int) := by
     rw [hq]
     exact (IntWalk.i64_in _ (by omega)).trans (by omega)
    have v1 : Int.tmod (n : Int) 10 = (r : Int) := by rw [hr]; rfl
    have v1' : (n : Int) % 10 = (r : Int) := by omega
    rw [← hq] at T HL HS
    rw [← hr] at HS
    have hr9 : r < 10 := by omega
    clear hq hr h
    have v2 : IntKind.i64.wrap (48 + (r : Int)) = 48 + (r : Int) := IntWalk.i64_in _ (by omega)
    have v3 : IntKind.u8.wrap (48 + (r : Int)) = 48 + (r : Int) := IntWalk.u8_in _ (by omega)
    have hcat : ∀ W, Sem.run Tryz.prog (binOp .add 9 (.string (decB q)) (.string (strOfNums [48 + (r : Int)]))) W = .ok (.string (decB n)) W := fun W => by
     rw [HS.out]
     exact catS2 _ _ _ _ (by rw [strOfNums_size]; have := HL.out; simp; omega)
    go_enter Tryz.func54, Tryz.ntmps54
    go_upto_region 7 with fail
    refine wp_region_E 99 (by kernel_rfl) ?_
    obtain ⟨wz, hwz⟩ : ∃ v, v = w.drew := ⟨_, rfl⟩
    rw [← hwz]
    have hlz : Below w.heap.size w wz := by rw [hwz]; exact (Below.refl _ _).drew
    have hbz := bthen (Below.refl _ _) hlz
    clear hwz hlz
    refine zV 0 ⟨some 26, .move (.tmp 0), 3, "words.go:21", #[], none⟩ rfl ?_
    simp only [Act.put, zS]
    refine zV 1 ⟨some 27, .binOp .quo 3 (.tmp 26) (.const (.int .i64 10)) 3, 3, "words.go:21", #[⟨0, .data⟩], none⟩ rfl ?_
    simp only [Act.put, zS]
    refine zV 3 ⟨some 29, .move (.tmp 0), 3, "words.go:21", #[], none⟩ rfl ?_
    simp only [Act.put, zS]
    refine zV 4 ⟨some 30, .binOp .rem 3 (.tmp 29) (.const (.int .i64 10)) 3, 3, "words.go:21", #[⟨3, .data⟩], none⟩ rfl ?_
    simp only [Act.put, zS]
    refine zV 5 ⟨some 31, .binOp .add 3 (.const (.int .i64 48)) (.tmp 30) 3, 3, "words.go:21", #[⟨4, .data⟩], none⟩ rfl ?_
    simp only [Act.put, zS]
    refine zV 6 ⟨some 32, .convert 3 5 (.tmp 31), 5, "words.go:21", #[⟨5, .data⟩], none⟩ rfl ?_
    simp only [Act.put, zS]
    refine zB 2 ⟨some 28, .call ⟨.value (.func 54), #[.tmp 27], #[3]⟩, 9, "words.go:21", #[⟨1, .data⟩], none⟩ (fun w hE => T.out w) rfl ?_
    simp only [Act.put, zS]
    refine wpAnyE_one (i := 7) (o := ⟨some 33, .buildSlice 193 1 #[(0, .tmp 32)], 193, "words.go:21", #[⟨6, .data⟩], none⟩) (by kernel_rfl) rfl (fun wy1 hE K hK => ?_)
    have hbz1 := bthen hbz hE
    clear hE
    go_simp
    obtain ⟨wx1, hwz⟩ : ∃ v, v = wy1.alloc (.cells #[.int .u8 (48 + (r : Int))] 5) := ⟨_, rfl⟩
    rw [← hwz]
    have hl : Below wy1.heap.size wy1 wx1 := by rw [hwz]; exact below_new _ _
    have hcz1 := bthen hbz1 hl
    have iN : Blk wx1 wy1.heap.size 5 [.int .u8 (48 + (r : Int))] := by rw [hwz]; exact Blk.new _ _ _
    generalize wy1.heap.size = G at iN ⊢
    clear hwz
    refine hK _ _ (fun _ => hl) ?_
    clear hK K hl
    try simp only [Act.put, zS]
    refine zV 8 ⟨some 34, .convert 193 9 (.tmp 33), 9, "words.go:21", #[⟨7, .data⟩], none⟩ rfl ?_ (hv := fun w hE => by (try dsimp only); refine Eq.trans (exec_conv (v := .string (strOfNums [48 + (r : Int)])) rfl (convB (Blk.cell (iN.carry hE) (j := 0) (v := .int .u8 (48 + (r : Int))) rfl))) ?_; try rfl)
    simp only [Act.put, zS]
    refine zV 9 ⟨some 35, .binOp .add 9 (.tmp 28) (.tmp 34) 9, 9, "words.go:21", #[⟨2, .data⟩, ⟨8, .data⟩], none⟩ rfl ?_ (hv := fun w hE => by (try dsimp only); refine Eq.trans (exec_add (v := .string (decB n)) rfl (hcat w)) ?_; try rfl)
    simp only [Act.put, zS]
    refine zV 10 ⟨some 2, .assign (.tmp 35), 9, "words.go:21", #[⟨9, .data⟩, ⟨2, .chain⟩, ⟨0, .phase⟩, ⟨1, .phase⟩, ⟨2, .phase⟩, ⟨3, .phase⟩, ⟨4, .phase⟩, ⟨5, .phase⟩, ⟨6, .phase⟩, ⟨7, .phase⟩, ⟨8, .phase⟩, ⟨9, .phase⟩], none⟩ rfl ?_
    simp only [Act.put, zS]
    refine wpAnyE_done (by kernel_rfl) (fun wy2 hE => ?_) _
    have hbz2 := bthen hcz1 hE
    have iN := iN.carry hE
    clear hE
    have hq := hbz2
    go_wp2_with fail
    go_ret
    exact ⟨rfl, hq⟩
theorem word_dec {n : Int} (h : 0 ≤ n) : word n = decB n.toNat := by
 unfold word decB
 obtain ⟨m, rfl⟩ : ∃ m : Nat, n = (m : Int) := ⟨n.toNat, by omega⟩
 rw [Lib.itoa_nonneg, Int.toNat_natCast]
end
section
set_option linter.unusedSimpArgs false
set_option linter.unusedVariables false
open Go.RowKit
def logT : ByteArray := ⟨#[108, 111, 103, 32]⟩
def pulT : ByteArray := ⟨#[112, 117, 108, 115, 101, 32]⟩
theorem line_log (c : Int) : (logT ++ word c) ++ ⟨#[10]⟩ = lineW logS [c] := by
 apply baEq
 rw [lineW_body logS 0 [c] rfl]
 simp only [data_append]
 rfl
theorem line_pulse (s : ByteArray) (a b : Int) : ((((s ++ pulT) ++ word a) ++ ⟨#[32]⟩) ++ word b) ++ ⟨#[10]⟩ = s ++ lineW pulseS [a, b] := by
 apply baEq
 rw [data_append, data_append, data_append, data_append, data_append, data_append, lineW_body pulseS 1 [a, b] rfl]
 simp [bodyK, joinC, fldL, pulT, word]
theorem word_sz {n : Int} (h0 : 0 ≤ n) (h1 : n ≤ 1000000000) : (word n).size ≤ 21 := by
 rw [← data_len]
 exact word_len n (by omega) (by omega)
set_option maxRecDepth 100000 in
set_option maxHeartbeats 4000000 in
theorem PrintR_any (c : Int) (a : Option Addr) (n cap : Nat) (ls : List P2) (w : World) (hv : Prs w (.slice a n cap) ls) (hE : logE c ls = 0) :
 Calls Tryz.prog 11 #[.agg #[.int .i64 c, .slice a n cap]] w fun e w' => e = .returned (.string (prtK c ls ls.length)) ∧ Below w.heap.size w w' := by
 obtain ⟨hc, htr⟩ := logE_ok hE
 have HC := Lib.hid hc
 have HTR := Lib.hid htr
 have HN := Lib.hid hv.len
 have HV := Lib.hid hv
 have hn3 : n ≤ 256 := by have := htr.len; have := hv.len; omega
 have T0 := Lib.hid (fun W => Text_any 4 c.toNat W (by omega) (by omega) (by omega))
 rw [show ((c.toNat : Nat) : Int) = c by omega, ← word_dec hc.1] at T0
 have hw0 := word_sz hc.1 (by omega)
 have HL := Lib.hid (line_log c)
 obtain ⟨wc, hwc⟩ : ∃ b, b = word c := ⟨_, rfl⟩
 rw [← hwc] at T0 hw0 HL
 have hq1 : ¬ (9223372036854775807 < 4 + wc.size) := by omega
 have hq2 : ¬ (9223372036854775807 < 4 + wc.size + 1) := by omega
 have HK0 := Lib.hid (show ((⟨#[108, 111, 103, 32]⟩ : ByteArray) ++ wc) ++ ⟨#[10]⟩ = prtK c ls 0 from HL.out)
 clear hc htr hv hE hwc hw0 HL
 go_enter Tryz.func11, Tryz.ntmps11
 go_upto_region 1 with fail
 obtain ⟨W1, hW1⟩ : ∃ v, v = World.alloc w (Obj.cells #[.int .i64 c, .slice a n cap] 24) := ⟨_, rfl⟩
 have kW1 : Below w.heap.size w W1 := by rw [hW1]; exact below_new _ _
 have iW1 : Blk W1 (w.heap.size) 24 [.int .i64 c, .slice a n cap] := by rw [hW1]; exact Blk.new _ _ _
 have sW1 : W1.heap.size = w.heap.size + 1 := by rw [hW1]; simp
 rw [← hW1]
 clear hW1
 have cF := iW1.cell (j := 0) (v := .int .i64 c) rfl
 go_wp2_with fail
 refine (T0.out W1).mono ?_
 rintro e W2 ⟨rfl, hb2⟩
 have iF := iW1.carry hb2
 have hB2 := bthen kW1 hb2
 clear iW1 kW1 sW1 hb2 T0 cF
 go_wp2_with fail
 go_loopw [3, 4] (fun z i wr => ∃ k : Nat, k ≤ n ∧ i = .int .i64 k ∧ z = .string (prtK c ls k) ∧ Below W2.heap.size W2 wr) (fun _ i _ => n - (intOf i).toNat)
 case atStart => exact ⟨0, by omega, rfl, by rw [HK0.out], Below.refl _ _⟩
 case round =>
  obtain ⟨k, hk, rfl, rfl, hx⟩ := hrel
  have cF := (iF.carry hx).cell (j := 1) (v := .slice a n cap) rfl
  by_cases hlt : k < n
  ·have d1 : (k : Int) < (n : Int) := by omega
   have d3 : 0 ≤ (k : Int) := by omega
   obtain ⟨x, hxk⟩ : ∃ x, ls[k]? = some x := ⟨_, List.getElem?_eq_getElem (by rw [← HN.out]; exact hlt)⟩
   obtain ⟨b, off, cp, he, hcs⟩ := (HV.out.carry (bthen hB2 hx)).head (by rw [← HN.out]; omega)
   simp only [Value.slice.injEq] at he
   obtain ⟨rfl, -, rfl⟩ := he
   obtain ⟨x0, x1⟩ := rw2 (hcs k x hxk) (show pV x = [.int .i64 x.1, .int .i64 x.2] from rfl)
   have hr := HTR.out.rng k x hxk
   have hs : prtK c ls (k + 1) = prtK c ls k ++ lineW pulseS [x.1, x.2] := by simp only [prtK, hxk, Option.getD_some]
   rw [← line_pulse] at hs
   have HT := Lib.hid hs
   have hal := prtK_size c ls HC.out HTR.out k (by rw [← HN.out]; omega)
   have w1s := word_sz hr.1.1 (by omega)
   have w2s := word_sz hr.2.1 (by omega)
   have T1 := Lib.hid (fun W => Text_any 6 x.1.toNat W (by omega) (by omega) (by omega))
   have T2 := Lib.hid (fun W => Text_any 6 x.2.toNat W (by omega) (by omega) (by omega))
   rw [show ((x.1.toNat : Nat) : Int) = x.1 by omega, ← word_dec hr.1.1] at T1
   rw [show ((x.2.toNat : Nat) : Int) = x.2 by omega, ← word_dec hr.2.1] at T2
   obtain ⟨y0, y1⟩ := x
   simp only at x0 x1 HT T1 T2 w1s w2s
   obtain ⟨t1, ht1⟩ : ∃ b, b = word y0 := ⟨_, rfl⟩
   rw [← ht1] at HT T1 w1s
   obtain ⟨t2, ht2⟩ : ∃ b, b = word y1 := ⟨_, rfl⟩
   rw [← ht2] at HT T2 w2s
   obtain ⟨ac, hac⟩ : ∃ b, b = prtK c ls k := ⟨_, rfl⟩
   rw [← hac] at HT hal ⊢
   have q0 : pulT.size = 6 := rfl
   have q2 : (⟨#[32]⟩ : ByteArray).size = 1 := rfl
   have q3 : (⟨#[10]⟩ : ByteArray).size = 1 := rfl
   have g1 := fun W => catS2 9 ac pulT W (by omega)
   have g2 := fun W => catS2 9 (ac ++ pulT) t1 W (by rw [ByteArray.size_append]; omega)
   have g3 := fun W => catS2 9 ((ac ++ pulT) ++ t1) ⟨#[32]⟩ W (by rw [ByteArray.size_append, ByteArray.size_append]; omega)
   have g4 := fun W => catS2 9 (((ac ++ pulT) ++ t1) ++ ⟨#[32]⟩) t2 W (by rw [ByteArray.size_append, ByteArray.size_append, ByteArray.size_append]; omega)
   have g5 := fun W => catS2 9 ((((ac ++ pulT) ++ t1) ++ ⟨#[32]⟩) ++ t2) ⟨#[10]⟩ W (by rw [ByteArray.size_append, ByteArray.size_append, ByteArray.size_append, ByteArray.size_append]; omega)
   generalize hz1 : ac ++ pulT = z1' at HT g1 g2 g3 g4 g5
   generalize hz2 : z1' ++ t1 = z2' at HT g2 g3 g4 g5
   generalize hz3 : z2' ++ ⟨#[32]⟩ = z3' at HT g3 g4 g5
   generalize hz4 : z3' ++ t2 = z4' at HT g4 g5
   generalize hz5 : z4' ++ ⟨#[10]⟩ = z5' at HT g5
   unfold pulT at g1
   have GG := Lib.hid (And.intro g1 (And.intro g2 (And.intro g3 (And.intro g4 g5))))
   clear hz1 hz2 hz3 hz4 hz5 g1 g2 g3 g4 g5 q0 q2 q3 hcs hxk hac ht1 ht2 hr hs hal w1s w2s
   go_upto_region 5 with fail
   refine wp_region_E 99 (by kernel_rfl) ?_
   obtain ⟨wz, hwz⟩ : ∃ v, v = wr.drew := ⟨_, rfl⟩
   rw [← hwz]
   have hlz : Below wr.heap.size wr wz := by rw [hwz]; exact (Below.refl _ _).drew
   have hbz := bthen hx hlz
   have cF := cellb cF hlz
   have x0 := cellb x0 hlz
   have x1 := cellb x1 hlz
   clear hwz hlz
   refine zV 0 ⟨some 17, .move (.tmp 3), 9, "ref.go:652", #[], none⟩ rfl ?_
   simp only [Act.put, zS]
   refine zV 1 ⟨some 18, .binOp .add 9 (.tmp 17) (.const (.string { data := #[112, 117, 108, 115, 101, 32] })) 9, 9, "ref.go:652", #[⟨0, .data⟩], none⟩ rfl ?_ (hv := fun w hE => by have cF := cellb cF hE; have x0 := cellb x0 hE; have x1 := cellb x1 hE; (try dsimp only); refine Eq.trans (exec_add (v := .string z1') rfl (GG.out.1 w)) ?_; try rfl)
   simp only [Act.put, zS]
   refine zV 2 ⟨some 19, .fieldAddr 24 (.tmp 1) 1, 0, "ref.go:652", #[], none⟩ rfl ?_
   simp only [Act.put, zS]
   refine zV 3 ⟨some 20, .load 22 (.tmp 19), 22, "ref.go:652", #[⟨2, .data⟩], none⟩ rfl ?_ (hv := fun w hE => by have cF := cellb cF hE; have x0 := cellb x0 hE; have x1 := cellb x1 hE; (try dsimp only); go_simp; try rfl)
   simp only [Act.put, zS]
   refine zV 4 ⟨some 21, .move (.tmp 4), 3, "ref.go:652", #[], none⟩ rfl ?_
   simp only [Act.put, zS]
   refine zV 5 ⟨some 22, .indexAddr 22 (.tmp 20) (.tmp 21), 0, "ref.go:652", #[⟨3, .data⟩, ⟨4, .data⟩], none⟩ rfl ?_
   simp only [Act.put, zS]
   refine zV 6 ⟨some 23, .fieldAddr 47 (.tmp 22) 0, 0, "ref.go:652", #[⟨5, .data⟩], none⟩ rfl ?_
   simp only [Act.put, zS]
   refine zV 7 ⟨some 24, .load 3 (.tmp 23), 3, "ref.go:652", #[⟨6, .data⟩], none⟩ rfl ?_ (hv := fun w hE => by have cF := cellb cF hE; have x0 := cellb x0 hE; have x1 := cellb x1 hE; (try dsimp only); go_simp; try rfl)
   simp only [Act.put, zS]
   refine zV 11 ⟨some 28, .fieldAddr 24 (.tmp 1) 1, 0, "ref.go:652", #[], none⟩ rfl ?_
   simp only [Act.put, zS]
   refine zV 12 ⟨some 29, .load 22 (.tmp 28), 22, "ref.go:652", #[⟨11, .data⟩], none⟩ rfl ?_ (hv := fun w hE => by have cF := cellb cF hE; have x0 := cellb x0 hE; have x1 := cellb x1 hE; (try dsimp only); go_simp; try rfl)
   simp only [Act.put, zS]
   refine zV 13 ⟨some 30, .move (.tmp 4), 3, "ref.go:652", #[], none⟩ rfl ?_
   simp only [Act.put, zS]
   refine zV 14 ⟨some 31, .indexAddr 22 (.tmp 29) (.tmp 30), 0, "ref.go:652", #[⟨12, .data⟩, ⟨13, .data⟩], none⟩ rfl ?_
   simp only [Act.put, zS]
   refine zV 15 ⟨some 32, .fieldAddr 47 (.tmp 31) 1, 0, "ref.go:652", #[⟨14, .data⟩], none⟩ rfl ?_
   simp only [Act.put, zS]
   refine zV 16 ⟨some 33, .load 3 (.tmp 32), 3, "ref.go:652", #[⟨15, .data⟩], none⟩ rfl ?_ (hv := fun w hE => by have cF := cellb cF hE; have x0 := cellb x0 hE; have x1 := cellb x1 hE; (try dsimp only); go_simp; try rfl)
   simp only [Act.put, zS]
   refine zB 8 ⟨some 25, .call ⟨.value (.func 54), #[.tmp 24], #[3]⟩, 9, "ref.go:652", #[⟨7, .data⟩], none⟩ (fun w hE => T1.out w) rfl ?_
   simp only [Act.put, zS]
   refine zV 9 ⟨some 26, .binOp .add 9 (.tmp 18) (.tmp 25) 9, 9, "ref.go:652", #[⟨1, .data⟩, ⟨8, .data⟩], none⟩ rfl ?_ (hv := fun w hE => by have cF := cellb cF hE; have x0 := cellb x0 hE; have x1 := cellb x1 hE; (try dsimp only); refine Eq.trans (exec_add (v := .string z2') rfl (GG.out.2.1 w)) ?_; try rfl)
   simp only [Act.put, zS]
   refine zV 10 ⟨some 27, .binOp .add 9 (.tmp 26) (.const (.string { data := #[32] })) 9, 9, "ref.go:652", #[⟨9, .data⟩], none⟩ rfl ?_ (hv := fun w hE => by have cF := cellb cF hE; have x0 := cellb x0 hE; have x1 := cellb x1 hE; (try dsimp only); refine Eq.trans (exec_add (v := .string z3') rfl (GG.out.2.2.1 w)) ?_; try rfl)
   simp only [Act.put, zS]
   refine zB 17 ⟨some 34, .call ⟨.value (.func 54), #[.tmp 33], #[3]⟩, 9, "ref.go:652", #[⟨16, .data⟩, ⟨8, .chain⟩], none⟩ (fun w hE => T2.out w) rfl ?_
   simp only [Act.put, zS]
   refine zV 18 ⟨some 35, .binOp .add 9 (.tmp 27) (.tmp 34) 9, 9, "ref.go:652", #[⟨10, .data⟩, ⟨17, .data⟩], none⟩ rfl ?_ (hv := fun w hE => by have cF := cellb cF hE; have x0 := cellb x0 hE; have x1 := cellb x1 hE; (try dsimp only); refine Eq.trans (exec_add (v := .string z4') rfl (GG.out.2.2.2.1 w)) ?_; try rfl)
   simp only [Act.put, zS]
   refine zV 19 ⟨some 36, .binOp .add 9 (.tmp 35) (.const (.string { data := #[10] })) 9, 9, "ref.go:652", #[⟨18, .data⟩], none⟩ rfl ?_ (hv := fun w hE => by have cF := cellb cF hE; have x0 := cellb x0 hE; have x1 := cellb x1 hE; (try dsimp only); refine Eq.trans (exec_add (v := .string z5') rfl (GG.out.2.2.2.2 w)) ?_; try rfl)
   simp only [Act.put, zS]
   refine zV 20 ⟨some 3, .assign (.tmp 36), 9, "ref.go:652", #[⟨19, .data⟩, ⟨17, .chain⟩, ⟨0, .phase⟩, ⟨1, .phase⟩, ⟨2, .phase⟩, ⟨3, .phase⟩, ⟨4, .phase⟩, ⟨5, .phase⟩, ⟨6, .phase⟩, ⟨7, .phase⟩, ⟨8, .phase⟩, ⟨9, .phase⟩, ⟨10, .phase⟩, ⟨11, .phase⟩, ⟨12, .phase⟩, ⟨13, .phase⟩, ⟨14, .phase⟩, ⟨15, .phase⟩, ⟨16, .phase⟩, ⟨17, .phase⟩, ⟨18, .phase⟩, ⟨19, .phase⟩], none⟩ rfl ?_
   simp only [Act.put, zS]
   refine wpAnyE_done (by kernel_rfl) (fun wy1 hE => ?_) _
   have hbz1 := bthen hbz hE
   have cF := cellb cF hE
   have x0 := cellb x0 hE
   have x1 := cellb x1 hE
   clear hE
   clear hx
   have hx := hbz1
   obtain ⟨Y1, hY1⟩ : ∃ v, v = wy1 := ⟨_, rfl⟩
   rw [← hY1] at hx ⊢
   clear hY1
   go_wp2_with fail
   go_roundw
   case rel => exact ⟨k + 1, by omega, by go_num, by rw [HT.out], hx⟩
   case measure => (simp [intOf]) <;> omega
  ·obtain rfl : k = n := by omega
   have HNN := Lib.hid (show prtK c ls k = prtK c ls ls.length by rw [HN.out])
   go_wp2
   go_ret
   exact ⟨by rw [HNN.out]; rfl, bthen hB2 hx⟩
end
end Go.Proofs.YtpmngcffkhbofaaGreatDoor

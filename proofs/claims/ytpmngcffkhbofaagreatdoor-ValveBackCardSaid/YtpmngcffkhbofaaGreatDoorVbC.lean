/- The lines of a text. -/
import Derived.Test.YtpmngcffkhbofaaGreatDoorVaZ
import Derived.Test.YtpmngcffkhbofaaGreatDoorShelf
import Derived.Lib.LaidTab
import Derived.Lib.ItoaLen
namespace Go.Proofs.YtpmngcffkhbofaaGreatDoor
section
set_option linter.unusedSimpArgs false
set_option linter.unusedVariables false
open Go.RowKit
theorem below_grow_drew (w : World) (k : Nat) (os : Array Obj) : Below w.heap.size w (Go.Sort.grow (w.drewN k) os) :=
 ⟨rfl, rfl, rfl, by show w.heap.size ≤ ((w.drewN k).heap ++ os).size; simp, fun i hi => by
  show ((w.drewN k).heap ++ os)[i]? = _
  rw [Array.getElem?_append_left (by show i < w.heap.size; omega)]
  rfl⟩
/-- the library's table of the powers of ten, as its initialiser lays it. -/
def Pows (w : World) : Prop := Lib.TabIs Tryz.prog w "internal/strconv.uint64pow10" .u64 Lib.pow10Tab
theorem Pows.carry {w w' : World} (h : Pows w) (hb : Below w.heap.size w w') : Pows w' := by
 have hg : Tryz.prog.globalNamed "internal/strconv.uint64pow10" = some 2 := by kernel_rfl
 unfold Pows Lib.TabIs World.var? at h ⊢
 rw [hg] at h ⊢
 simp only [Option.bind_some] at h ⊢
 have hlt : 2 < w.heap.size := by
  rcases Nat.lt_or_ge 2 w.heap.size with h' | h'
  ·exact h'
  ·simp [h'] at h
 rw [hb.block _ hlt]
 exact h
/-- an integer's decimal numeral. -/
def word (n : Int) : ByteArray := ⟨(Lib.itoa n).toArray⟩
theorem Itoa_any (n : Int) (h0 : -9223372036854775808 ≤ n) (h1 : n ≤ 9223372036854775807) (w : World) (hp : Pows w) :
 Calls Tryz.prog 110 #[.int .i64 n] w fun e w' => e = .returned (.string (word n)) ∧ Below w.heap.size w w' :=
 (Tryz.strconv_Itoa n h0 h1 w hp).mono fun e w' h => by
   obtain ⟨h1, k, os, rfl⟩ := h
   exact ⟨h1, below_grow_drew w k os⟩
theorem Tryz.enterItoa (args : Array Value) (w : World) : Sem.run Tryz.prog (callFunc 110 args) w = .ok (.enter 110 args) w :=
 MuLone.run_callFunc_enter Tryz.func110 (by kernel_rfl) rfl args w
theorem Ints.rw1 {w : World} {v : Value} {l : List Int} (h : Ints w v l) : Rw 1 nV w v l := by
 obtain ⟨a, cap, rfl, hc, hd⟩ := h
 refine ⟨a, cap, rfl, hc, fun h0 => ?_⟩
 obtain ⟨b, off, rfl, hcs⟩ := hd h0
 refine ⟨b, off, rfl, fun j x hj i u hi => ?_⟩
 have hi0 : i = 0 := by
  have := (List.getElem?_eq_some_iff.1 hi).1
  simpa [nV] using this
 subst hi0
 simp [nV] at hi
 subst hi
 have := hcs j (List.getElem?_eq_some_iff.1 hj).1
 rw [hj, Option.getD_some] at this
 rw [Nat.mul_one, Nat.add_zero]
 exact this
theorem sV_one (l : List ByteArray) : ∀ v ∈ l.flatMap sV, v.oneCell' = true := fun v hv => by
 obtain ⟨x, _, hx⟩ := List.mem_flatMap.1 hv
 simp only [sV, List.mem_cons, List.not_mem_nil, or_false] at hx
 subst hx; rfl
/-- the words of a line, with blanks between them. -/
def lineJ (s : ByteArray) (l : List Int) : ByteArray := ⟨(Lib.join ((s :: l.map word).map (·.data.toList)) (⟨#[32]⟩ : ByteArray).data.toList).toArray⟩
def lineW (s : ByteArray) (l : List Int) : ByteArray := lineJ s l ++ ⟨#[10]⟩
theorem word_len (n : Int) (h0 : -9223372036854775808 ≤ n) (h1 : n ≤ 9223372036854775807) : (word n).data.toList.length ≤ 21 := by
 have h := Lib.itoa_length_le n h0 h1
 simpa [word] using h
theorem lineJ_len (s : ByteArray) (l : List Int) (h : ∀ x ∈ l, -9223372036854775808 ≤ x ∧ x ≤ 9223372036854775807) : (Lib.join ((s :: l.map word).map (·.data.toList)) (⟨#[32]⟩ : ByteArray).data.toList).length ≤ s.size + 22 * l.length := by
 rw [List.map_cons, Lib.join_length]
 have : Lib.lens ((l.map word).map (·.data.toList)) ≤ 21 * l.length := by
  induction l with
  | nil => simp [Lib.lens]
  | cons x l ih =>
    have h1 := word_len x (h x (by simp)).1 (h x (by simp)).2
    have h2 := ih (fun y hy => h y (by simp [hy]))
    simp only [Lib.lens, List.map_cons, List.sum_cons, List.length_cons] at h2 ⊢
    omega
 have e : Lib.lens (s.data.toList :: (l.map word).map (·.data.toList)) = s.data.toList.length + Lib.lens ((l.map word).map (·.data.toList)) := by simp [Lib.lens]
 have hs9 := data_len s
 rw [e, List.length_map, List.length_map, data_len]
 have : (⟨#[32]⟩ : ByteArray).size = 1 := rfl
 rw [this]
 omega
set_option maxRecDepth 100000 in
set_option maxHeartbeats 2000000 in
theorem line_any (s : ByteArray) (v : Value) (l : List Int) (w : World) (hs : s.size ≤ 1000) (h0 : 0 < l.length) (hl : l.length ≤ 100) (hr : ∀ x ∈ l, -9223372036854775808 ≤ x ∧ x ≤ 9223372036854775807) (hv : Ints w v l) (hp : Pows w) :
 Calls Tryz.prog 44 #[.string s, v] w fun e w' => e = .returned (.string (lineW s l)) ∧ Below w.heap.size w w' := by
 obtain ⟨i0, hi, hz0, hz1, hz2⟩ := info_parts Tryz.infZstring
 have hk := below_new w (.cells #[.string s] 9)
 have TM := Lib.hid (mapIS_any 110 #[] Tryz.enterItoa word v l (w.alloc (.cells #[.string s] 9)) (by omega) (hv.carry hk).rw1 (fun x hx w1 hb => Itoa_any x (hr x hx).1 (hr x hx).2 w1 ((hp.carry hk).carry hb)))
 have hjl := lineJ_len s l hr
 have iS : Blk (w.alloc (.cells #[.string s] 9)) w.heap.size 9 [.string s] := Blk.new w _ _
 have hq : ¬ (9223372036854775807 < (lineJ s l).size + 1) := by
  have : (lineJ s l).size = (Lib.join ((s :: l.map word).map (·.data.toList)) (⟨#[32]⟩ : ByteArray).data.toList).length := by
   show (Lib.join _ _).toArray.size = _
   simp
  omega
 have TJ := Lib.hid (fun (bk o c : Nat) (W : World) (hc : ∀ (j : Nat) x, (s :: l.map word)[j]? = some x → W.cell? ⟨bk, o + j, none⟩ = some (.string x)) (hbk : bk < W.heap.size) (hcap : (s :: l.map word).length ≤ c) => Tryz.strings_Join bk o c (s :: l.map word) ⟨#[32]⟩ W hc hbk (by simp; omega) hcap (by omega))
 rw [lineW]
 obtain ⟨J, hJ⟩ : ∃ J, J = lineJ s l := ⟨_, rfl⟩
 rw [← hJ] at hq ⊢
 have hJ2 : (⟨(Lib.join ((s :: l.map word).map (·.data.toList)) (⟨#[32]⟩ : ByteArray).data.toList).toArray⟩ : ByteArray) = J := by rw [hJ]; rfl
 rw [hJ2] at TJ
 have hlen : (s :: l.map word).length = 1 + l.length := by simp; omega
 rw [hlen] at TJ
 obtain ⟨va, vc, hve, -⟩ := id hv
 subst hve
 obtain ⟨N, hN⟩ : ∃ N, N = l.length := ⟨_, rfl⟩
 rw [← hN] at TM TJ hl h0 ⊢
 have HN := Lib.hid hN
 have HK := Lib.hid hk
 have HLEN := Lib.hid hlen
 clear hJ hJ2 hjl hr hv hp hN hk hlen
 go_enter Tryz.func44, Tryz.ntmps44
 go_wp2_with fail
 refine TM.out.mono ?_
 rintro e w2 ⟨⟨u, rfl, hu⟩, hb2⟩
 obtain ⟨G, cap, sp, rfl, hG, hcap, hcm, hblk⟩ := OwR.blk sV_len hu (by rw [List.length_map, ← HN.out]; exact h0)
 rw [List.length_map, ← HN.out] at hcap ⊢
 have iS2 := iS.carry hb2
 have hown : OwnS w2 w.heap.size 9 1 (.slice (some ⟨w.heap.size, 0, none⟩) 1 1) 1 [.string s] := ⟨⟨rfl, .inr ⟨w.heap.size, 1, _, rfl, Nat.le_refl _, iS2, Nat.le_refl _, by decide, rfl, rfl⟩⟩⟩
 have hB2 := bthen HK.out hb2
 have hsz := hB2.size
 have HNEWS := Lib.hid (fun (j : Nat) (y : Value) (hj : ((l.map word).flatMap sV)[j]? = some y) => (show w2.cell? ((⟨G, 0, none⟩ : Addr).add j) = some y by
  rw [addr_add, Nat.zero_add]
  exact hblk.cell (by rw [List.getElem?_append_left (List.getElem?_eq_some_iff.1 hj).1]; exact hj)))
 have HFL := Lib.hid (show ((l.map word).flatMap sV).length = N * 1 by rw [flat_len sV_len, List.length_map, HN.out])
 have HONE := Lib.hid (sV_one (l.map word))
 clear hblk hu iS iS2 hb2 TM hcm
 go_wp2_with (at_builtin; refine wpList_append_own _ rfl _ _ 44 rfl w.heap.size 9 i0 (.string ⟨#[]⟩) 1 16 Tryz.undZstring hi hz0 hz1 hz2 rfl (by decide) (.slice (some ⟨w.heap.size, 0, none⟩) 1 1) 1 [.string s] rfl hown.o ⟨G, 0, none⟩ N cap ((l.map word).flatMap sV) rfl HFL.out HNEWS.out HONE.out (by unfold maxLen; omega) (by omega) hsz ?_; intro v9 w3 hown9 hgrow9 _)
 have hB3 := hB2.trans (below_grow hown.o hsz hgrow9)
 have hown10 : OwR w3 w.heap.size 9 1 sV v9 (s :: l.map word) := by
  unfold OwR
  rw [HLEN.out, ← HN.out]
  exact hown9
 obtain ⟨g, c9, sp9, rfl, hg9, hcap9, hcm9, hblk9⟩ := OwR.blk sV_len hown10 (by rw [HLEN.out]; omega)
 have TJ2 := Lib.hid (TJ.out g 0 c9 w3 (fun j x hj => by
  have h1 := flat_get sV_len _ j x hj 0 _ rfl
  rw [Nat.zero_add]
  have := hblk9.cell (j := j) (v := .string x) (by rw [List.getElem?_append_left (by have := (List.getElem?_eq_some_iff.1 h1).1; omega)]; rw [Nat.mul_one, Nat.add_zero] at h1; exact h1)
  exact this) hblk9.lt (by rw [HLEN.out, ← HN.out] at hcap9; exact hcap9))
 rw [HLEN.out, ← HN.out]
 clear hown9 hown10 hgrow9 hblk9 hcap9 hcm9 hown hB2 hsz TJ
 go_wp2_with fail
 refine TJ2.out.mono ?_
 rintro e w4 ⟨rfl, hb4⟩
 go_wp2
 go_ret
 exact ⟨rfl, bthen hB3 hb4⟩
end
section
set_option linter.unusedSimpArgs false
set_option linter.unusedVariables false
open Go.RowKit
def logS : ByteArray := ⟨#[108, 111, 103]⟩
def pulseS : ByteArray := ⟨#[112, 117, 108, 115, 101]⟩
/-- the first words of the lines, as they are laid. -/
def Heads (w : World) : Prop := w.cell? ⟨0, 0, none⟩ = some (.string logS) ∧ w.cell? ⟨0, 1, none⟩ = some (.string pulseS)
theorem Heads.carry {w w' : World} (h : Heads w) (hb : Below w.heap.size w w') : Heads w' := ⟨cellb h.1 hb, cellb h.2 hb⟩
theorem Tryz.undA2f : Tryz.prog.underlying 101 = some (.array 2 100) := by kernel_rfl
theorem Tryz.infoA2f : (Tryz.prog.info? 101).map (·.size) = some 6 := by kernel_rfl
def formsL (s0 s1 : ByteArray) : List Value := [.string s0, .int .i64 1, .func (.func 106) #[] #[], .string s1, .int .i64 2, .func (.func 107) #[] #[]]
theorem loadF {s0 s1 : ByteArray} {w : World} {B : Nat} (h : Blk w B 101 (formsL s0 s1)) : (loadVar 101 ⟨B, 0, none⟩).run Tryz.prog w = .ok (.agg (formsL s0 s1).toArray) w :=
 run_loadVar_row (P := Tryz.prog) w B 101 101 (formsL s0 s1).toArray (0, 0) _ h Tryz.undA2f rfl (by rw [Tryz.infoA2f]; rfl)
theorem store_funcV {P : Program} {w : World} {a : Addr} {m : Mode} (fn : Fn) (first captured : Array Value) : (store a (.func fn first captured) m).run P w = stored P w a (.func fn first captured) m := run_store P w a _ m rfl
theorem below_setC {n : Nat} {w0 w1 : World} (h : Below n w0 w1) (B j : Nat) (hB : n ≤ B) (v : Value) : Below n w0 (w1.setCell ⟨B, j, none⟩ v) := h.setCell hB v
section
attribute [local go_sem] store_funcV
set_option maxRecDepth 100000 in
set_option maxHeartbeats 1000000 in
theorem forms_any (w : World) (hh : Heads w) :
 Calls Tryz.prog 43 #[] w fun e w' => e = .returned (.agg (formsL logS pulseS).toArray) ∧ Below w.heap.size w w' := by
 obtain ⟨h0, h1⟩ := hh
 obtain ⟨s0, hs0⟩ : ∃ s, s = logS := ⟨_, rfl⟩
 obtain ⟨s1, hs1⟩ : ∃ s, s = pulseS := ⟨_, rfl⟩
 rw [← hs0] at h0 ⊢
 rw [← hs1] at h1 ⊢
 clear hs0 hs1
 go_enter Tryz.func43, Tryz.ntmps43
 go_upto_region 1 with fail
 obtain ⟨W1, hW1⟩ : ∃ v, v = World.alloc w (Obj.cells #[.string ⟨#[]⟩, .int .i64 0, .nilFunc, .string ⟨#[]⟩, .int .i64 0, .nilFunc] 101) := ⟨_, rfl⟩
 have kW1 : Below w.heap.size w W1 := by rw [hW1]; exact below_new _ _
 have iW1 : Blk W1 (w.heap.size) 101 [.string ⟨#[]⟩, .int .i64 0, .nilFunc, .string ⟨#[]⟩, .int .i64 0, .nilFunc] := by rw [hW1]; exact Blk.new _ _ _
 have sW1 : W1.heap.size = w.heap.size + 1 := by rw [hW1]; simp
 rw [← hW1]
 clear hW1
 have h0 := cellb h0 kW1
 have h1 := cellb h1 kW1
 have c0 := iW1.cell (j := 0) (v := .string ⟨#[]⟩) rfl
 have c1 := iW1.cell (j := 1) (v := .int .i64 0) rfl
 have c2 := iW1.cell (j := 2) (v := .nilFunc) rfl
 have c3 := iW1.cell (j := 3) (v := .string ⟨#[]⟩) rfl
 have c4 := iW1.cell (j := 4) (v := .int .i64 0) rfl
 have c5 := iW1.cell (j := 5) (v := .nilFunc) rfl
 have f0 := iW1.frozen 0
 have f1 := iW1.frozen 1
 have f2 := iW1.frozen 2
 have f3 := iW1.frozen 3
 have f4 := iW1.frozen 4
 have f5 := iW1.frozen 5
 have i2 := (((((iW1.set 0 (.string s0)).set 1 (.int .i64 1)).set 2 (.func (.func 106) #[] #[])).set 3 (.string s1)).set 4 (.int .i64 2)).set 5 (.func (.func 107) #[] #[])
 have i3 : Blk _ w.heap.size 101 (formsL s0 s1) := i2
 have hld := loadF i3
 have hbl := below_setC (below_setC (below_setC (below_setC (below_setC (below_setC (kW1) w.heap.size 0 (Nat.le_refl _) (.string s0)) w.heap.size 1 (Nat.le_refl _) (.int .i64 1)) w.heap.size 2 (Nat.le_refl _) (.func (.func 106) #[] #[])) w.heap.size 3 (Nat.le_refl _) (.string s1)) w.heap.size 4 (Nat.le_refl _) (.int .i64 2)) w.heap.size 5 (Nat.le_refl _) (.func (.func 107) #[] #[])
 have HLD := Lib.hid hld
 have HBL := Lib.hid hbl
 clear i2 i3 hld hbl
 go_wp2
 exact bodyPost_ret (v := .agg (formsL s0 s1).toArray) (results_cell (p := 0) rfl _ _ w.heap.size _ rfl HLD.out) rfl ⟨rfl, HBL.out⟩
end
end
section
set_option linter.unusedSimpArgs false
set_option linter.unusedVariables false
open Go.RowKit
/-- the text of a log's first k pulses. -/
def prtK (c : Int) (l : List P2) : Nat → ByteArray
 | 0 => lineW logS [c]
 | k + 1 => prtK c l k ++ lineW pulseS [(l[k]?.getD (0, 0)).1, (l[k]?.getD (0, 0)).2]
def prtS (c : Int) (l : List P2) : ByteArray := if logE c l = 0 then prtK c l l.length else ⟨#[]⟩
theorem lineW_size (s : ByteArray) (l : List Int) (h : ∀ x ∈ l, -9223372036854775808 ≤ x ∧ x ≤ 9223372036854775807) : (lineW s l).size ≤ s.size + 22 * l.length + 1 := by
 have h1 := lineJ_len s l h
 have h2 : (lineJ s l).size = (Lib.join ((s :: l.map word).map (·.data.toList)) (⟨#[32]⟩ : ByteArray).data.toList).length := by
  show (Lib.join _ _).toArray.size = _
  simp
 have e : (⟨#[10]⟩ : ByteArray).size = 1 := rfl
 unfold lineW
 rw [ByteArray.size_append]
 omega
theorem logE_ok {c : Int} {l : List P2} (h : logE c l = 0) : (0 ≤ c ∧ c ≤ 255) ∧ TrOk l := by
 unfold logE at h
 rw [firstE_cons0, firstE_cons0, withinE_zero] at h
 exact ⟨h.1, trainE_ok h.2.1⟩
theorem prtK_size (c : Int) (l : List P2) (hc : 0 ≤ c ∧ c ≤ 255) (hl : TrOk l) (k : Nat) (hk : k ≤ l.length) : (prtK c l k).size ≤ 100 * (k + 1) := by
 induction k with
 | zero =>
   have := lineW_size logS [c] (by intro x hx; simp at hx; omega)
   have e : logS.size = 3 := rfl
   simp [prtK] at this ⊢; omega
 | succ k ih =>
   have h1 := ih (by omega)
   obtain ⟨x, hx⟩ : ∃ x, l[k]? = some x := ⟨_, List.getElem?_eq_getElem (by omega)⟩
   have hr := hl.rng k x hx
   have h2 := lineW_size pulseS [x.1, x.2] (by intro y hy; simp at hy; rcases hy with rfl | rfl <;> omega)
   have e : pulseS.size = 5 := rfl
   simp only [prtK, hx, Option.getD_some, ByteArray.size_append]
   simp at h2
   omega
section
attribute [local go_sem] store_funcV
set_option maxRecDepth 100000 in
set_option maxHeartbeats 4000000 in
theorem Print_any (c : Int) (a : Option Addr) (n cap : Nat) (l : List P2) (w : World) (hl : l.length ≤ 1000000) (hv : Prs w (.slice a n cap) l) (hp : Pows w) (hh : Heads w) :
 Calls Tryz.prog 7 #[.agg #[.int .i64 c, .slice a n cap]] w fun r w' => r = .returned (.tuple #[.string (prtS c l), .int .i64 (logE c l)]) ∧ Below w.heap.size w w' := by
 have TC := Lib.hid (fun W (h : Prs W (.slice a n cap) l) => logCheck_any c a n cap l W (by omega) h)
 have TFo := Lib.hid (fun W (h : Heads W) => forms_any W h)
 have hok := fun (h : logE c l = 0) => logE_ok h
 have hn1 : logE c l ≠ 0 → prtS c l = ⟨#[]⟩ := fun h => by unfold prtS; rw [if_neg h]
 have hn2 : logE c l = 0 → prtS c l = prtK c l l.length := fun h => by unfold prtS; rw [if_pos h]
 obtain ⟨E, hE⟩ : ∃ e, e = logE c l := ⟨_, rfl⟩
 obtain ⟨R, hR⟩ : ∃ e, e = prtS c l := ⟨_, rfl⟩
 rw [← hE] at TC hok hn1 hn2 ⊢
 rw [← hR] at hn1 hn2 ⊢
 have HN1 := Lib.hid hn1
 have HN2 := Lib.hid hn2
 have HOK := Lib.hid hok
 have HNL := Lib.hid hv.len
 clear hE hR hn1 hn2 hok
 go_enter Tryz.func7, Tryz.ntmps7
 go_upto_region 1 with fail
 obtain ⟨W1, hW1⟩ : ∃ v, v = World.alloc w (Obj.cells #[.int .i64 c, .slice a n cap] 32) := ⟨_, rfl⟩
 have kW1 : Below w.heap.size w W1 := by rw [hW1]; exact below_new _ _
 have iW1 : Blk W1 (w.heap.size) 32 [.int .i64 c, .slice a n cap] := by rw [hW1]; exact Blk.new _ _ _
 have sW1 : W1.heap.size = w.heap.size + 1 := by rw [hW1]; simp
 rw [← hW1]
 clear hW1
 have c0 := iW1.cell (j := 0) (v := .int .i64 c) rfl
 have c1 := iW1.cell (j := 1) (v := .slice a n cap) rfl
 have hB := kW1
 replace hv := hv.carry kW1
 replace hp := hp.carry kW1
 replace hh := hh.carry kW1
 clear kW1 sW1 iW1
 go_wp2_with fail
 refine (TC.out W1 hv).mono ?_
 rintro e w2 ⟨rfl, hb2⟩
 have c0 := cellb c0 hb2
 have c1 := cellb c1 hb2
 replace hv := hv.carry hb2
 replace hp := hp.carry hb2
 replace hh := hh.carry hb2
 replace hB := bthen hB hb2
 clear hb2 TC
 by_cases h0 : E = 0
 ·subst h0
  obtain ⟨hc, htr⟩ := HOK.out (by trivial)
  have hR := HN2.out (by trivial)
  have HC := Lib.hid hc
  have HTR := Lib.hid htr
  have HR := Lib.hid hR
  clear hc htr hR HN1 HN2 HOK
  go_wp2_with fail
  refine (TFo.out w2 hh).mono ?_
  rintro e w3 ⟨rfl, hb3⟩
  have c0 := cellb c0 hb3
  have c1 := cellb c1 hb3
  replace hv := hv.carry hb3
  replace hp := hp.carry hb3
  replace hh := hh.carry hb3
  replace hB := bthen hB hb3
  clear hb3 TFo
  unfold formsL
  obtain ⟨s0, hs0⟩ : ∃ s, s = logS := ⟨_, rfl⟩
  obtain ⟨s1, hs1⟩ : ∃ s, s = pulseS := ⟨_, rfl⟩
  rw [← hs0, ← hs1]
  have HS0 := Lib.hid hs0
  have HS1 := Lib.hid hs1
  clear hs0 hs1
  go_upto_region 5 with fail
  obtain ⟨W5, hW5⟩ : ∃ v, v = World.alloc w3 (Obj.cells #[.string s0, .int .i64 1, .func (.func 106) #[] #[], .string s1, .int .i64 2, .func (.func 107) #[] #[]] 101) := ⟨_, rfl⟩
  have kW5 : Below w3.heap.size w3 W5 := by rw [hW5]; exact below_new _ _
  have iW5 : Blk W5 (w3.heap.size) 101 [.string s0, .int .i64 1, .func (.func 106) #[] #[], .string s1, .int .i64 2, .func (.func 107) #[] #[]] := by rw [hW5]; exact Blk.new _ _ _
  have sW5 : W5.heap.size = w3.heap.size + 1 := by rw [hW5]; simp
  rw [← hW5]
  clear hW5
  have q0 := iW5.cell (j := 0) (v := .string s0) rfl
  have q3 := iW5.cell (j := 3) (v := .string s1) rfl
  have c0 := cellb c0 kW5
  have c1 := cellb c1 kW5
  replace hv := hv.carry kW5
  replace hp := hp.carry kW5
  replace hB := bthen hB kW5
  clear iW5 sW5 kW5 hh
  have k5 := below_new W5 (.cells #[.int .i64 c] 3)
  have TL := Lib.hid (line_any s0 (.slice (some ⟨W5.heap.size, 0, none⟩) 1 1) [c] _ (by rw [HS0.out]; decide) (by simp) (by simp) (by intro x hx; simp at hx; have := HC.out; omega) (Ints.lit W5 3 [c] 1 rfl) (hp.carry k5))
  have hk0 : lineW s0 [c] = prtK c l 0 := by rw [HS0.out]; rfl
  rw [hk0] at TL
  have hB5 := bthen hB k5
  clear hk0
  go_wp2_with fail
  refine TL.out.mono ?_
  rintro e w6 ⟨rfl, hb6⟩
  have hb56 := bthen k5 hb6
  have q3 := cellb q3 hb56
  have c0 := cellb c0 hb56
  have c1 := cellb c1 hb56
  replace hv := hv.carry hb56
  replace hp := hp.carry hb56
  replace hB := bthen hB hb56
  clear hb56 hb6 hB5 k5 TL q0
  go_wp2_with fail
  have HQ := Lib.hid q3
  have HV := Lib.hid hv
  have HP := Lib.hid hp
  have HB := Lib.hid hB
  clear q3 hv hp hB c0 c1
  go_loopw [6, 25] (fun s i wr => ∃ k : Nat, k ≤ n ∧ i = .int .i64 k ∧ s = .string (prtK c l k) ∧ Below w6.heap.size w6 wr) (fun _ i _ => n - (intOf i).toNat)
  case atStart => exact ⟨0, by omega, rfl, rfl, Below.refl _ _⟩
  case round =>
   obtain ⟨k, hk, rfl, rfl, hbel⟩ := hrel
   by_cases hlt : k < n
   ·obtain ⟨x, hx⟩ : ∃ x, l[k]? = some x := ⟨_, List.getElem?_eq_getElem (by rw [← HNL.out]; exact hlt)⟩
    obtain ⟨b, off, cp, he, hcs⟩ := (HV.out.carry hbel).head (by rw [← HNL.out]; omega)
    simp only [Value.slice.injEq] at he
    obtain ⟨rfl, -, rfl⟩ := he
    obtain ⟨d0, d1⟩ := rw2 (hcs k x hx) (show pV x = [.int .i64 x.1, .int .i64 x.2] from rfl)
    have hrg := HTR.out.rng k x hx
    have hsz := prtK_size c l HC.out HTR.out k (by rw [← HNL.out]; omega)
    have hln := HTR.out.len
    rw [← HNL.out] at hln
    have hs : prtK c l (k + 1) = prtK c l k ++ lineW pulseS [x.1, x.2] := by simp only [prtK, hx, Option.getD_some]
    obtain ⟨x0, x1⟩ := x
    dsimp only at d0 d1 hrg hs
    have q3 := cellb HQ.out hbel
    have hp := HP.out.carry hbel
    have hdk : (k : Int) < (n : Int) := by omega
    clear hcs hx
    go_upto_region 9 with fail
    obtain ⟨W8, hW8⟩ : ∃ v, v = World.alloc wr (Obj.cells #[.int .i64 x0, .int .i64 x1] 104) := ⟨_, rfl⟩
    have kW8 : Below wr.heap.size wr W8 := by rw [hW8]; exact below_new _ _
    have iW8 : Blk W8 (wr.heap.size) 104 [.int .i64 x0, .int .i64 x1] := by rw [hW8]; exact Blk.new _ _ _
    have sW8 : W8.heap.size = wr.heap.size + 1 := by rw [hW8]; simp
    rw [← hW8]
    clear hW8
    have g0 := iW8.cell (j := 0) (v := .int .i64 x0) rfl
    have g1 := iW8.cell (j := 1) (v := .int .i64 x1) rfl
    have q3 := cellb q3 kW8
    have hp := hp.carry kW8
    have hbel := bthen hbel kW8
    have k8 := below_new W8 (.cells #[.int .i64 x0, .int .i64 x1] 3)
    have TL := Lib.hid (line_any s1 (.slice (some ⟨W8.heap.size, 0, none⟩) 2 2) [x0, x1] _ (by rw [HS1.out]; decide) (by simp) (by simp) (by intro y hy; simp at hy; rcases hy with rfl | rfl <;> omega) (Ints.lit W8 3 [x0, x1] 2 rfl) (hp.carry k8))
    have hz2 := lineW_size pulseS [x0, x1] (by intro y hy; simp at hy; rcases hy with rfl | rfl <;> omega)
    have ez : pulseS.size = 5 := rfl
    have hz3 : ([x0, x1] : List Int).length = 2 := rfl
    rw [hz3, ez] at hz2
    rw [← HS1.out] at hs hz2
    obtain ⟨L, hL⟩ : ∃ z, z = lineW s1 [x0, x1] := ⟨_, rfl⟩
    rw [← hL] at TL hs hz2
    obtain ⟨S, hS⟩ : ∃ z, z = prtK c l k := ⟨_, rfl⟩
    rw [← hS] at hs hsz ⊢
    have hq : ¬ (9223372036854775807 < S.size + L.size) := by omega
    have HSS := Lib.hid hs
    clear d0 d1 iW8 sW8 hz2 hz3 ez hL hS hs hsz hrg
    go_wp2_with fail
    refine TL.out.mono ?_
    rintro e w9 ⟨rfl, hb9⟩
    have hbel9 := bthen hbel (bthen k8 hb9)
    clear hb9 k8 hbel kW8 TL
    go_wp2
    go_roundw
    case rel => exact ⟨k + 1, by omega, by go_num, by rw [HSS.out], hbel9⟩
    case measure => simp [intOf]; omega
   ·obtain rfl : k = n := by omega
    have hBF := bthen HB.out hbel
    have hE : R = prtK c l k := by rw [HR.out, HNL.out]
    have HE := Lib.hid hE
    have d0 : ¬ ((k : Int) < (k : Int)) := by omega
    clear hE hlt hk
    go_wp2
    go_ret2
    rw [HE.out]
    exact ⟨rfl, hBF⟩
 ·have hR := HN1.out h0
  have HR := Lib.hid hR
  have b0 : (E != 0) = true := by rw [bne_iff_ne]; exact h0
  clear h0 hR
  go_wp2
  go_ret2
  rw [HR.out]
  exact ⟨rfl, hB⟩
end
end
end Go.Proofs.YtpmngcffkhbofaaGreatDoor

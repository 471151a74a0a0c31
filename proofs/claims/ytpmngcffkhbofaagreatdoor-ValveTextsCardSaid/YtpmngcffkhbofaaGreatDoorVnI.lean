/- Texts of logs: the reference's integers. -/
import Derived.Test.YtpmngcffkhbofaaGreatDoorVnH
import Derived.Test.YtpmngcffkhbofaaGreatDoorVeE
namespace Go.Proofs.YtpmngcffkhbofaaGreatDoor
section
set_option linter.unusedSimpArgs false
set_option linter.unusedVariables false
open Go.RowKit
theorem splitAt (c : UInt8) (L : List UInt8) (w : World) (hl : L.length ≤ 1000000) (d : Int) (hd : d = (c.toNat : Int)) :
 Calls Tryz.prog 16 #[.string ⟨L.toArray⟩, .int .u8 d] w fun e w' => (∃ g cap, e = .returned (.slice (some ⟨g, 0, none⟩) (splitC c L).length cap) ∧ (w.heap.size ≤ g ∧ g < w'.heap.size) ∧ (∀ j p, (splitC c L)[j]? = some p → w'.cell? ⟨g, j, none⟩ = some (.string ⟨p.toArray⟩)) ∧ (splitC c L).length ≤ cap) ∧ Below w.heap.size w w' := by
 subst hd
 refine (Split_any ⟨L.toArray⟩ c w (by rw [mk_size]; exact hl)).mono ?_
 rintro e w' ⟨⟨u, rfl, hu⟩, hb⟩
 refine ⟨?_, hb⟩
 have hu' : OwnT w.heap.size w' u (splitC c L) := hu
 have hlen := splitC_length c L
 have hvv := hu'.vals
 unfold OwnT at hu'
 obtain ⟨n, hn⟩ : ∃ n, (splitC c L).length = n + 1 := ⟨_, hlen⟩
 rw [hn] at hu' ⊢
 obtain ⟨g, cap, rfl⟩ := ownsRow_succ hu'
 obtain ⟨_, cp2, he2, hle2, _⟩ := hvv
 simp only [Value.slice.injEq] at he2
 have hcp2 : n + 1 ≤ cap := by rw [he2.2.2, ← hn]; rw [List.length_map] at hle2; exact hle2
 refine ⟨g, cap, rfl, hu'.lt g rfl, fun j p hj => ?_, hcp2⟩
 have hjl := (List.getElem?_eq_some_iff.1 hj).1
 rw [hu'.cellAt j (by omega), List.getElem?_map, hj]
 rfl
theorem digitsAt (q : List UInt8) (hq : q.length ≤ 1000000) (w : World) :
 Calls Tryz.prog 119 #[.string ⟨q.toArray⟩] w fun e w' => e = .returned (.tuple #[.int .i64 (digV q), .bool (digOk q)]) ∧ w = w' := Digits_any ⟨q.toArray⟩ w (by rw [mk_size]; exact hq)
theorem Keep.cell {S : Nat → Prop} {W W1 : World} (h : Keep S W W1) {b o : Nat} {v : Value} (hc : W.cell? ⟨b, o, none⟩ = some v) (hs : ¬ S b) : W1.cell? ⟨b, o, none⟩ = some v := by
 cases hh : W.heap[b]? with
 | none => simp [World.cell?, hh] at hc
 | some ob =>
   have h1 := h.same b ob hh (.inl hs)
   simp only [World.cell?, hh, h1] at hc ⊢
   exact hc
/-- what the reference reads of words. -/
def IntsPost (base : Nat) (r : List (List UInt8)) (e : Ending) (W' : World) : Prop :=
 if r.all digOk = true then ∃ u, e = .returned (.tuple #[u, .bool true]) ∧ OwnI 3 base W' u (r.map valD) else e = .returned (.tuple #[.slice none 0 0, .bool false])
set_option maxRecDepth 100000 in
set_option maxHeartbeats 4000000 in
theorem integersR_any (v : Value) (r : List (List UInt8)) (w : World) (hn6 : r.length ≤ 1000000) (hp : ∀ q ∈ r, q.length ≤ 1000000) (hv : Vals w v (r.map strV)) :
 Calls Tryz.prog 55 #[v] w fun e w' => IntsPost w.heap.size r e w' ∧ Below w.heap.size w w' := by
 obtain ⟨a, cap, rfl, hcap, hcs⟩ := hv
 rw [List.length_map] at hcap hcs ⊢
 have HPL := Lib.hid hp
 have HCS := Lib.hid (fun j x (h : r[j]? = some x) => show ∃ b off, a = some ⟨b, off, none⟩ ∧ w.cell? ⟨b, off + j, none⟩ = some (strV x) by
  have hj := (List.getElem?_eq_some_iff.1 h).1
  obtain ⟨b, off, rfl, hd⟩ := hcs (by omega)
  exact ⟨b, off, rfl, hd j (strV x) (by rw [List.getElem?_map, h]; rfl)⟩)
 obtain ⟨n, hn⟩ : ∃ n, n = r.length := ⟨_, rfl⟩
 rw [← hn] at hcap hn6 ⊢
 have HN := Lib.hid hn
 obtain ⟨i0, hi, hz0, hz1, hz2⟩ := info_parts Tryz.infoInt
 clear hcs hn hp hcap
 go_enter Tryz.func55, Tryz.ntmps55
 go_wp2
 go_loopw [4, 5] (fun v i wr => ∃ k : Nat, k ≤ n ∧ i = .int .i64 (k : Int) ∧ (r.take k).all digOk = true ∧ OwnI 3 w.heap.size wr v ((r.take k).map valD) ∧ Below w.heap.size w wr) (fun _ i _ => n - (intOf i).toNat)
 case atStart => exact ⟨0, by omega, rfl, rfl, World.ownsRow_nil _ _ _ _, Below.refl _ _⟩
 case round =>
  obtain ⟨k, hk, rfl, hgood, hown, hbr⟩ := hrel
  by_cases hlt : k < n
  ·have d1 : (k : Int) < (n : Int) := by omega
   have d3 : 0 ≤ (k : Int) := by omega
   obtain ⟨x, hx⟩ : ∃ x, r[k]? = some x := ⟨_, List.getElem?_eq_getElem (by rw [← HN.out]; exact hlt)⟩
   obtain ⟨b, off, rfl, hcx⟩ := HCS.out k x hx
   have cx := cellb hcx hbr
   have hxl : x.length ≤ 1000000 := HPL.out x (List.mem_of_getElem? hx)
   have HT := Lib.hid (show r.take (k + 1) = r.take k ++ [x] by rw [List.take_add_one, hx]; rfl)
   have HSG := Lib.hid (digitsAt x hxl wr)
   have HSV := Lib.hid (fun h => digV_true (l := x) h)
   have HXM := Lib.hid (List.mem_of_getElem? hx)
   obtain ⟨ok, hok⟩ : ∃ ok, ok = digOk x := ⟨_, rfl⟩
   rw [← hok] at HSG HSV
   have HOK := Lib.hid hok
   generalize digV x = nx at HSG HSV
   have HGD := Lib.hid hgood
   have hkl : ((r.take k).map valD).length = k := by rw [List.length_map, List.length_take, ← HN.out]; omega
   clear hok hx hgood hcx
   cases ok with
   | false =>
     have HR := Lib.hid (show ¬ r.all digOk = true from fun h => by
      have := List.all_eq_true.1 h x HXM.out
      rw [← HOK.out] at this; cases this)
     go_wp2_with fail
     refine HSG.out.mono ?_
     rintro e w1 ⟨rfl, rfl⟩
     go_wp2
     go_ret2
     exact ⟨by unfold IntsPost; rw [if_neg HR.out]; rfl, hbr⟩
   | true =>
     have hown' : wr.ownsRow w.heap.size 3 1 u4 k (((r.take k).map valD).map (Value.int .i64)) := by
      have h := hown
      unfold OwnI at h
      rw [hkl] at h
      exact h
     obtain ⟨l, hl⟩ : ∃ l, l = (r.take k).map valD := ⟨_, rfl⟩
     have HL := Lib.hid hl
     rw [← hl] at hown' hkl
     have hsz := hbr.size
     clear hown hl
     go_wp2_with fail
     refine HSG.out.mono ?_
     rintro e w1 ⟨rfl, rfl⟩
     go_wp2_with (at_builtin; refine wpList_append_own _ rfl _ _ 63 rfl w.heap.size 3 i0 (.int .i64 0) 1 8 Tryz.underlying63 hi hz0 hz1 hz2 rfl (by decide) _ _ _ rfl (hown'.alloc _) ⟨wr.heap.size, 0, none⟩ 1 1 [.int .i64 nx] rfl rfl (cell_one_new _ _ _) (by simp [Value.oneCell']) (by unfold maxLen; omega) (by omega) (by simp; omega) ?_; intro v' w3 ho3 hg3 _)
     have hb3 := below_own hbr hown' hg3
     go_wp2_with fail
     go_roundw
     case rel => exact ⟨k + 1, by omega, by go_num, by rw [HT.out, List.all_append, HGD.out, List.all_cons, ← HOK.out]; rfl, by
      unfold OwnI
      rw [HT.out, List.map_append, ← HL.out, List.length_append, List.map_append, hkl, List.map_cons, List.map_nil, List.map_cons, List.map_nil, ← HSV.out (by simp)]
      exact ho3, hb3⟩
     case measure => simp [intOf]; omega
  ·obtain rfl : k = n := by omega
   have hta : r.take k = r := List.take_of_length_le (by rw [← HN.out]; omega)
   rw [hta] at hgood hown
   have HGD := Lib.hid hgood
   clear hgood
   go_wp2
   go_ret2
   exact ⟨by unfold IntsPost; rw [if_pos HGD.out]; exact ⟨_, rfl, hown⟩, hbr⟩
end
section
set_option linter.unusedSimpArgs false
set_option linter.unusedVariables false
open Go.RowKit
/-- whole lines. -/
def lnsK (init : List (List UInt8)) (k : Nat) : List (List UInt8) := (init.take k).map (· ++ [10])
def lineP (k : Nat) (p : List UInt8) : Option (List Int) := lineI (fldL k) (cntL k) (splitC 32 p)
theorem bad_mid {L : List UInt8} {init : List (List UInt8)} {last p : List UInt8} (hl : linesL L = init.map (· ++ [10]) ++ (if last = [] then [] else [last])) {k : Nat} (hk : init[k]? = some p) (hp : lineP k p = none)
 (hg : ∀ j q, j < k → init[j]? = some q → lineP j q ≠ none) : badN (linesL L) = some k := by
 have hkl := (List.getElem?_eq_some_iff.1 hk).1
 refine badN_some (l := p ++ [10]) ?_ (by rw [lineN_end]; exact hp) (fun j x hj hx => ?_)
 ·rw [hl, List.getElem?_append_left (by rw [List.length_map]; exact hkl), List.getElem?_map, hk]; rfl
 ·rw [hl, List.getElem?_append_left (by rw [List.length_map]; omega), List.getElem?_map] at hx
  obtain ⟨q, hq, rfl⟩ := Option.map_eq_some_iff.1 hx
  rw [lineN_end]
  exact hg j q hj hq
theorem bad_last {L : List UInt8} {init : List (List UInt8)} {last : List UInt8} (hl : linesL L = init.map (· ++ [10]) ++ (if last = [] then [] else [last])) (hf : (10 : UInt8) ∉ last) (hn : last ≠ [])
 (hg : ∀ j q, j < init.length → init[j]? = some q → lineP j q ≠ none) : badN (linesL L) = some init.length := by
 rw [if_neg hn] at hl
 refine badN_some (l := last) ?_ (lineN_free hf) (fun j x hj hx => ?_)
 ·rw [hl, List.getElem?_append_right (by rw [List.length_map]; exact Nat.le_refl _), List.length_map]; simp
 ·rw [hl, List.getElem?_append_left (by rw [List.length_map]; omega), List.getElem?_map] at hx
  obtain ⟨q, hq, rfl⟩ := Option.map_eq_some_iff.1 hx
  rw [lineN_end]
  exact hg j q hj hq
theorem bad_none {L : List UInt8} {init : List (List UInt8)} (hl : linesL L = init.map (· ++ [10]) ++ (if ([] : List UInt8) = [] then [] else [([] : List UInt8)])) (hg : ∀ j q, j < init.length → init[j]? = some q → lineP j q ≠ none) :
 badN (linesL L) = none ∧ linesL L = lnsK init init.length := by
 rw [if_pos rfl, List.append_nil] at hl
 rw [hl]
 refine ⟨badN_none fun j x hx => ?_, by unfold lnsK; rw [List.take_length]⟩
 rw [List.getElem?_map] at hx
 obtain ⟨q, hq, rfl⟩ := Option.map_eq_some_iff.1 hx
 rw [lineN_end]
 exact hg j q (List.getElem?_eq_some_iff.1 hq).1 hq
theorem lnsK_len {init : List (List UInt8)} {k : Nat} (hk : k ≤ init.length) : (lnsK init k).length = k := by unfold lnsK; rw [List.length_map, List.length_take]; omega
theorem lnsK_succ {init : List (List UInt8)} {k : Nat} {p : List UInt8} (hk : init[k]? = some p) : lnsK init (k + 1) = lnsK init k ++ [p ++ [10]] := by
 unfold lnsK
 rw [List.take_add_one, hk]
 simp
theorem ctl_first {init : List (List UInt8)} {p : List UInt8} {c : Int} (hk : init[0]? = some p) (h : lineP 0 p = some [c]) : ctlL (lnsK init 1) = c ∧ trnT (lnsK init 1) = [] := by
 have e : lnsK init 1 = [p ++ [10]] := by rw [lnsK_succ hk]; rfl
 rw [e]
 have hp : polyN [p ++ [10]] 0 = [c] := by
  unfold polyN
  simp only [List.getElem?_cons_zero, Option.bind_some]
  rw [lineN_end, show lineI (fldL 0) (cntL 0) (splitC 32 p) = some [c] from h]; rfl
 exact ⟨by unfold ctlL; rw [hp]; rfl, rfl⟩
theorem ctl_next {init : List (List UInt8)} {k : Nat} {p : List UInt8} {a b : Int} (hk : init[k]? = some p) (h0 : 0 < k) (h : lineP k p = some [a, b]) : ctlL (lnsK init (k + 1)) = ctlL (lnsK init k) ∧ trnT (lnsK init (k + 1)) = trnT (lnsK init k) ++ [(a, b)] := by
 have hkl := (List.getElem?_eq_some_iff.1 hk).1
 have hl := lnsK_len (init := init) (k := k) (by omega)
 have hne : lnsK init k ≠ [] := by
  intro e
  rw [e] at hl; simp at hl; omega
 rw [lnsK_succ hk, ctlL_snoc hne, trnT_snoc hne, hl, lineN_end, show lineI (fldL k) (cntL k) (splitC 32 p) = some [a, b] from h]
 exact ⟨rfl, rfl⟩
theorem lineP_of {k : Nat} {p w : List UInt8} {r : List (List UInt8)} (hs : splitC 32 p = w :: r) (h : w = fldL k ∧ r.length = cntL k ∧ r.all digOk = true) : lineP k p = some (r.map valD) := by
 unfold lineP
 rw [hs]
 show (if w = fldL k ∧ r.length = cntL k ∧ r.all digOk = true then _ else _) = _
 rw [if_pos h]
theorem lineP_no {k : Nat} {p w : List UInt8} {r : List (List UInt8)} (hs : splitC 32 p = w :: r) (h : ¬ (w = fldL k ∧ r.length = cntL k ∧ r.all digOk = true)) : lineP k p = none := by
 unfold lineP
 rw [hs]
 show (if w = fldL k ∧ r.length = cntL k ∧ r.all digOk = true then _ else _) = _
 rw [if_neg h]
theorem tail_cap (b n cap : Nat) (h : n + 1 ≤ cap) : ∃ o c, (∀ W, Sem.run Tryz.prog (Instr.slice 44 (.slice (some ⟨b, 0, none⟩) (n + 1) cap) (some (.int .i64 1)) none none) W = .ok (.slice (some ⟨b, o, none⟩) n c) W) ∧ (n ≠ 0 → o = 1) ∧ n ≤ c := by
 by_cases h1 : cap = 1
 ·obtain rfl : n = 0 := by omega
  subst h1
  exact ⟨0, 0, fun W => by go_simp, fun h => absurd rfl h, Nat.le_refl _⟩
 ·refine ⟨1, cap - 1, fun W => ?_, fun _ => rfl, by omega⟩
  have h2 : ¬ (n : Int) + 1 < 1 := by omega
  have h3 : ¬ cap ≤ 1 := by omega
  have h4 : cap - 1 ≠ 0 := by omega
  go_simp
theorem logStrB (w0 : List UInt8) (k : Nat) (wd : List UInt8) (hw : fldL k = wd) : (w0 == wd) = decide (w0 = fldL k) := by
 rw [hw]
 by_cases h : w0 = wd
 ·rw [h, decide_eq_true rfl]; exact beq_self_eq_true wd
 ·rw [decide_eq_false h]; exact beq_eq_false_iff_ne.2 h
theorem two_of {l : List Int} (h : l.length = 2) : ∃ a b, l = [a, b] := by
 match l, h with
 | [a, b], _ => exact ⟨a, b, rfl⟩
theorem one_of {l : List Int} (h : l.length = 1) : ∃ a, l = [a] := by
 match l, h with
 | [a], _ => exact ⟨a, rfl⟩
set_option maxRecDepth 100000 in
set_option maxHeartbeats 16000000 in
theorem ParseR_any (s : ByteArray) (w : World) (hs : s.size ≤ 100000) :
 Calls Tryz.prog 12 #[.string s] w fun e W' => ParsePost s.data.toList e W' ∧ Below w.heap.size w W' := by
 obtain ⟨L, hL⟩ : ∃ L, L = s.data.toList := ⟨_, rfl⟩
 have hsL : s = ⟨L.toArray⟩ := baEq (by rw [hL])
 rw [← hL]
 clear hL
 subst hsL
 rw [mk_size] at hs
 have hLn : (⟨L.toArray⟩ : ByteArray).size = L.length := mk_size L
 obtain ⟨i0, hi, hz0, hz1, hz2⟩ := info_parts Tryz.infZbipoleref07Pulse
 go_enter Tryz.func12, Tryz.ntmps12
 by_cases hlt : 4096 < L.length
 ·have hlt' : 4096 < (L.length : Int) := by omega
  have HP := Lib.hid (par_long hlt)
  go_upto_region 1 with fail
  obtain ⟨W1, hW1⟩ : ∃ v, v = World.alloc w (Obj.cells #[.int .i64 0, .slice none 0 0] 24) := ⟨_, rfl⟩
  have kW1 : Below w.heap.size w W1 := by rw [hW1]; exact below_new _ _
  have iW1 : Blk W1 (w.heap.size) 24 [.int .i64 0, .slice none 0 0] := by rw [hW1]; exact Blk.new _ _ _
  have sW1 : W1.heap.size = w.heap.size + 1 := by rw [hW1]; simp
  rw [← hW1]
  clear hW1
  have c0 := iW1.cell (j := 0) (v := .int .i64 0) rfl
  have c1 := iW1.cell (j := 1) (v := .slice none 0 0) rfl
  have f0 := iW1.frozen 0
  have f1 := iW1.frozen 1
  go_wp2
  have j1 := (iW1.set 0 (.int .i64 0)).set 1 (.slice none 0 0)
  have z0 := j1.cell (j := 0) (v := .int .i64 0) rfl
  have z1 := j1.cell (j := 1) (v := .slice none 0 0) rfl
  exact bodyPost_ret (v := .tuple #[.agg #[.int .i64 0, .slice none 0 0], .int .i64 0, .int .i64 26]) (by simp [results, Tryz.f12, go_sem, z0, z1]) rfl ⟨ParsePost.zero HP.out _, (kW1.setCell (by simp) _).setCell (by simp) _⟩
 by_cases hnil : L = []
 ·subst hnil
  have HP := Lib.hid (par_nil (L := []) rfl)
  go_upto_region 1 with fail
  obtain ⟨W1, hW1⟩ : ∃ v, v = World.alloc w (Obj.cells #[.int .i64 0, .slice none 0 0] 24) := ⟨_, rfl⟩
  have kW1 : Below w.heap.size w W1 := by rw [hW1]; exact below_new _ _
  have iW1 : Blk W1 (w.heap.size) 24 [.int .i64 0, .slice none 0 0] := by rw [hW1]; exact Blk.new _ _ _
  have sW1 : W1.heap.size = w.heap.size + 1 := by rw [hW1]; simp
  rw [← hW1]
  clear hW1
  have c0 := iW1.cell (j := 0) (v := .int .i64 0) rfl
  have c1 := iW1.cell (j := 1) (v := .slice none 0 0) rfl
  have f0 := iW1.frozen 0
  have f1 := iW1.frozen 1
  go_wp2
  have j1 := (iW1.set 0 (.int .i64 0)).set 1 (.slice none 0 0)
  have z0 := j1.cell (j := 0) (v := .int .i64 0) rfl
  have z1 := j1.cell (j := 1) (v := .slice none 0 0) rfl
  exact bodyPost_ret (v := .tuple #[.agg #[.int .i64 0, .slice none 0 0], .int .i64 0, .int .i64 25]) (by simp [results, Tryz.f12, go_sem, z0, z1]) rfl ⟨ParsePost.zero HP.out _, (kW1.setCell (by simp) _).setCell (by simp) _⟩
 have hlt' : ¬ 4096 < (L.length : Int) := by omega
 have hemp2 : L.isEmpty = false := by
  cases L with
  | nil => exact absurd rfl hnil
  | cons a b => rfl
 have hemp3 : (L == []) = false := by
  cases L with
  | nil => exact absurd rfl hnil
  | cons a b => rfl
 obtain ⟨init, last, hps, hfree, hlines⟩ := parts L
 have HS := Lib.hid (fun W => splitAt 10 L W (by omega) 10 rfl)
 have hml := splitC_length 10 L
 have hcl : L.count 10 ≤ L.length := List.count_le_length
 have HPL := Lib.hid (fun q (hq : q ∈ init ++ [last]) => by rw [← hps] at hq; exact splitC_len 10 L q hq)
 rw [hps] at HS
 obtain ⟨m, hm⟩ : ∃ m, m = init.length := ⟨_, rfl⟩
 have hlen : (init ++ [last]).length = m + 1 := by rw [List.length_append, hm]; rfl
 rw [hlen] at HS
 have hm5 : m ≤ 100000 := by rw [hps, hlen] at hml; omega
 have HM := Lib.hid hm
 have HLI := Lib.hid hlines
 have HFR := Lib.hid hfree
 have HBADP := Lib.hid (fun (n : Nat) (hb : badN (linesL L) = some n) => par_bad hlt hnil hb)
 have HNOP := Lib.hid (fun c l m E hb hc hl hm hE hE0 => par_no (L := L) (c := c) (l := l) (m := m) (E := E) hlt hnil hb hc hl hm hE hE0)
 have HOKP := Lib.hid (fun c l hb hc hl hE => par_ok (L := L) (c := c) (l := l) hlt hnil hb hc hl hE)
 clear hps hml hcl hlen hm hlines hfree hnil
 go_upto_region 1 with fail
 obtain ⟨W1, hW1⟩ : ∃ v, v = World.alloc w (Obj.cells #[.int .i64 0, .slice none 0 0] 24) := ⟨_, rfl⟩
 have kW1 : Below w.heap.size w W1 := by rw [hW1]; exact below_new _ _
 have iW1 : Blk W1 (w.heap.size) 24 [.int .i64 0, .slice none 0 0] := by rw [hW1]; exact Blk.new _ _ _
 have sW1 : W1.heap.size = w.heap.size + 1 := by rw [hW1]; simp
 rw [← hW1]
 clear hW1
 go_upto_region 6 with fail
 obtain ⟨W2, hW2⟩ : ∃ v, v = World.alloc W1 (Obj.cells #[.int .i64 0, .slice none 0 0] 24) := ⟨_, rfl⟩
 have kW2 : Below W1.heap.size W1 W2 := by rw [hW2]; exact below_new _ _
 have iW2 : Blk W2 (w.heap.size + 1) 24 [.int .i64 0, .slice none 0 0] := by rw [hW2, ← sW1]; exact Blk.new _ _ _
 have sW2 : W2.heap.size = w.heap.size + 1 + 1 := by rw [hW2]; simp [sW1]
 rw [← hW2]
 clear hW2
 have b2 := iW1.carry kW2
 have b5 := iW2
 have hB2 := bthen kW1 kW2
 have s2 : W2.heap.size = w.heap.size + 2 := by omega
 clear iW1 iW2 kW1 kW2 sW1 sW2 hemp2 hemp3
 go_wp2_with fail
 refine (HS.out W2).mono ?_
 rintro e W3 ⟨⟨g, cap, rfl, hg, hcs, -⟩, hb3⟩
 have b2 := b2.carry hb3
 have b5 := b5.carry hb3
 have hB3 := bthen hB2 hb3
 have s3 := hb3.size
 have HCS := Lib.hid hcs
 clear hcs hb3 hB2 HS
 go_wp2_with fail
 go_loopw [7] (fun i wr => ∃ (k : Nat) (tv : Value), k ≤ m + 1 ∧ i = .int .i64 k ∧ (∀ j q, j < k → init[j]? = some q → lineP j q ≠ none) ∧ (k = m + 1 → last = []) ∧ Blk wr (w.heap.size + 1) 24 [.int .i64 (ctlL (lnsK init k)), tv] ∧
  OwR wr W3.heap.size 47 2 pV tv (trnT (lnsK init k)) ∧ Keep (fun j => j = w.heap.size + 1 ∨ W3.heap.size ≤ j) W3 wr) (fun i _ => m + 1 - (intOf i).toNat)
 case atStart => exact ⟨0, _, by omega, rfl, fun j q hj => by omega, fun h => by omega, b5, World.ownsRow_nil _ _ _ _, Keep.refl _ _⟩
 case round =>
  clear b5
  obtain ⟨k, tv, hk, rfl, hgood, hlast, b5, hown, hkp⟩ := hrel
  have b2z := hkp.blk b2 (by omega)
  have hBz : Below w.heap.size w wr := hB3.trans (hkp.below (fun j hj => by omega) (by omega))
  have c2 := b2z.cell (j := 0) (v := .int .i64 0) rfl
  have c2b := b2z.cell (j := 1) (v := .slice none 0 0) rfl
  have f2 := b2z.frozen 0
  have f2b := b2z.frozen 1
  have v0 : IntKind.i64.wrap ((m : Int) + 1 - 1) = (m : Int) := (IntWalk.i64_in _ (by omega)).trans (by omega)
  have v1 : IntKind.i64.wrap (m : Int) = (m : Int) := IntWalk.i64_in _ (by omega)
  have hEX := fun (W : World) (n : Nat) (hb2 : Blk W w.heap.size 24 [.int .i64 0, .slice none 0 0]) (hbz : Below w.heap.size w W) (hbad : badN (linesL L) = some n) => show ParsePost L (.returned (.tuple #[.agg #[.int .i64 0, .slice none 0 0], .int .i64 (n : Int), .int .i64 25])) ((W.setCell ⟨w.heap.size, 0, none⟩ (.int .i64 0)).setCell ⟨w.heap.size, 1, none⟩ (.slice none 0 0)) ∧ Below w.heap.size w ((W.setCell ⟨w.heap.size, 0, none⟩ (.int .i64 0)).setCell ⟨w.heap.size, 1, none⟩ (.slice none 0 0)) ∧
   ((W.setCell ⟨w.heap.size, 0, none⟩ (.int .i64 0)).setCell ⟨w.heap.size, 1, none⟩ (.slice none 0 0)).cell? ⟨w.heap.size, 0, none⟩ = some (.int .i64 0) ∧ ((W.setCell ⟨w.heap.size, 0, none⟩ (.int .i64 0)).setCell ⟨w.heap.size, 1, none⟩ (.slice none 0 0)).cell? ⟨w.heap.size, 1, none⟩ = some (.slice none 0 0) from by
   have j1 := (hb2.set 0 (.int .i64 0)).set 1 (.slice none 0 0)
   exact ⟨ParsePost.zero (HBADP.out n hbad) _, (hbz.setCell (by simp) _).setCell (by simp) _, j1.cell (j := 0) (v := .int .i64 0) rfl, j1.cell (j := 1) (v := .slice none 0 0) rfl⟩
  have HEX := Lib.hid hEX
  clear hEX
  by_cases hlt1 : k < m + 1
  ·have d1 : (k : Int) < (m : Int) + 1 := by omega
   have d3 : 0 ≤ (k : Int) := by omega
   clear hlast
   by_cases hkm : k = m
   ·subst hkm
    have hget : (init ++ [last])[k]? = some last := by rw [HM.out]; simp
    have cw := hkp.cell (HCS.out k last hget) (by omega)
    by_cases hle : last = []
    ·have HLE := Lib.hid hle
     have hlb : last.isEmpty = true := by rw [hle]; rfl
     have hlb2 : (last == []) = true := by rw [hle]; rfl
     have HTK := Lib.hid (show lnsK init (k + 1) = lnsK init k by unfold lnsK; rw [HM.out, List.take_of_length_le (by omega), List.take_length])
     have HGD := Lib.hid (show ∀ j q, j < k + 1 → init[j]? = some q → lineP j q ≠ none from fun j q hj hq => hgood j q (by have := (List.getElem?_eq_some_iff.1 hq).1; rw [← HM.out] at this; omega) hq)
     clear hgood hget hle
     go_wp2
     go_roundw
     case rel => exact ⟨k + 1, tv, by omega, by go_num, HGD.out, fun _ => HLE.out, by rw [HTK.out]; exact b5, by rw [HTK.out]; exact hown, hkp⟩
     case measure => simp [intOf]
    ·have HBAD := Lib.hid (show badN (linesL L) = some k by rw [HM.out]; exact bad_last HLI.out HFR.out hle (fun j q hj hq => hgood j q (by rw [HM.out]; exact hj) hq))
     have hlb : last.isEmpty = false := by
      cases last with
      | nil => exact absurd rfl hle
      | cons a b => rfl
     have hlb2 : (last == []) = false := by
      cases last with
      | nil => exact absurd rfl hle
      | cons a b => rfl
     clear hgood hget
     go_wp2
     obtain ⟨p1, p2, z0, z1⟩ := HEX.out wr k b2z hBz HBAD.out
     exact bodyPost_ret (v := .tuple #[.agg #[.int .i64 0, .slice none 0 0], .int .i64 (k : Int), .int .i64 25]) (by simp [results, Tryz.f12, go_sem, z0, z1]) rfl ⟨p1, p2⟩
   ·obtain ⟨p, hp⟩ : ∃ p, init[k]? = some p := ⟨_, List.getElem?_eq_getElem (by rw [← HM.out]; omega)⟩
    have hget : (init ++ [last])[k]? = some p := by rw [List.getElem?_append_left (by rw [← HM.out]; omega)]; exact hp
    have cw := hkp.cell (HCS.out k p hget) (by omega)
    have d2 : (k : Int) ≠ (m : Int) := by omega
    have d4 : ((k : Int) == (m : Int)) = false := by simpa using d2
    have hpl : p.length ≤ 100000 := by have := HPL.out p (List.mem_of_getElem? hget); omega
    have HBD := Lib.hid (fun (h : lineP k p = none) => bad_mid HLI.out hp h hgood)
    have HPI := Lib.hid hp
    have HGD := Lib.hid hgood
    have HSW := Lib.hid (splitAt 32 p wr (by omega) 32 rfl)
    have HLP := Lib.hid (fun w0 wt (h : splitC 32 p = w0 :: wt) => lineP_of (k := k) h)
    have HLN := Lib.hid (fun w0 wt (h : splitC 32 p = w0 :: wt) => lineP_no (k := k) h)
    obtain ⟨ws, hws⟩ : ∃ ws, ws = splitC 32 p := ⟨_, rfl⟩
    have HWL := Lib.hid (fun q (hq : q ∈ ws) => by rw [hws] at hq; exact splitC_len 32 p q hq)
    have hwl : ws.length ≤ 100001 ∧ 0 < ws.length := by
     have h1 := splitC_length 32 p
     have h2 : p.count 32 ≤ p.length := List.count_le_length
     rw [hws]; omega
    rw [← hws] at HSW HLP HLN
    clear hws hget hgood hp
    obtain ⟨w0, wt, rfl⟩ : ∃ a b, ws = a :: b := by
     cases ws with
     | nil => simp at hwl
     | cons a b => exact ⟨a, b, rfl⟩
    rw [List.length_cons] at HSW hwl
    obtain ⟨n, hn⟩ : ∃ n, n = wt.length := ⟨_, rfl⟩
    rw [← hn] at HSW hwl
    have HN := Lib.hid hn
    clear hn
    go_wp2_with fail
    refine HSW.out.mono ?_
    rintro e W4 ⟨⟨g2, cap2, rfl, hg2, hcw, hcap2⟩, hb4⟩
    replace b5 := b5.carry hb4
    replace hown := hown.carry hb4
    replace hkp := hkp.carry hb4
    replace b2z := b2z.carry hb4
    replace hBz := bthen hBz hb4
    obtain ⟨o, c, hto, ho1, hnc⟩ := tail_cap g2 n cap2 hcap2
    have x0 := hcw 0 w0 rfl
    have hvt := Vals.split hcw HN.out hnc o ho1
    have TI := Lib.hid (integersR_any (.slice (some ⟨g2, o, none⟩) n c) wt W4 (by rw [← HN.out]; omega) (fun q hq => by have := HWL.out q (List.mem_cons_of_mem _ hq); omega) hvt)
    have hsW4 := hkp.size
    clear hcw cw HSW hvt c2 c2b f2 f2b
    go_wp2_with fail
    refine TI.out.mono ?_
    rintro e W5 ⟨hIP, hb5⟩
    replace b5 := b5.carry hb5
    replace hown := hown.carry hb5
    replace hkp := hkp.carry hb5
    replace b2z := b2z.carry hb5
    replace hBz := bthen hBz hb5
    replace x0 := cellb x0 hb5
    have c2 := b2z.cell (j := 0) (v := .int .i64 0) rfl
    have c2b := b2z.cell (j := 1) (v := .slice none 0 0) rfl
    have f2 := b2z.frozen 0
    have f2b := b2z.frozen 1
    unfold IntsPost at hIP
    clear TI hto
    have k0 : 0 ≤ (k : Int) := by omega
    by_cases hall : wt.all digOk = true
    ·rw [if_pos hall] at hIP
     obtain ⟨u, rfl, hnv⟩ := hIP
     have hlv : (wt.map valD).length = n := by rw [List.length_map, ← HN.out]
     have HLV := Lib.hid (show (wt.map valD) = wt.map valD from rfl)
     obtain ⟨nl, hnl⟩ : ∃ l, l = wt.map valD := ⟨_, rfl⟩
     rw [← hnl] at hnv hlv
     have HNL := Lib.hid hnl
     have HALL := Lib.hid hall
     have HNV := Lib.hid hnv
     have hni := hnv.ints
     obtain ⟨na, nc, rfl⟩ := ownsRow_sl hnv
     rw [hlv] at hni ⊢
     clear hall hnl hnv HLV
     by_cases hk0 : k = 0
     ·subst hk0
      have hwq := logStrB w0 0 [108, 111, 103] rfl
      by_cases hw : w0 = fldL 0
      ·rw [decide_eq_true hw] at hwq
       by_cases hn1 : n = 1
       ·subst hn1
        obtain ⟨x, rfl⟩ := one_of hlv
        obtain ⟨b9, o9, c9, he9, hc9⟩ := hni.head (by simp)
        simp only [List.length_cons, List.length_nil, Nat.zero_add, Value.slice.injEq, true_and] at he9
        obtain ⟨rfl, rfl⟩ := he9
        have y0 := hc9 0 (by simp)
        simp only [List.getElem?_cons_zero, Option.getD_some, Nat.add_zero] at y0
        have HL1 := Lib.hid (show lineP 0 p = some [x] by rw [HLP.out w0 wt rfl ⟨hw, HN.out.symm, HALL.out⟩, ← HNL.out])
        obtain ⟨g1, g2'⟩ := ctl_first HPI.out HL1.out
        have c5 := b5.cell (j := 0) (v := .int .i64 (ctlL (lnsK init 0))) rfl
        have f5 := b5.frozen 0
        have hFs : w.heap.size + 1 < W3.heap.size := by omega
        have ho7 := ownsRow_setO (j := 0) (x := .int .i64 x) hown hFs
        have b7 := b5.set 0 (.int .i64 x)
        have hk7 := hkp.setCell (o := 0) b5 (.inl rfl) (.int .i64 x)
        have e0 : trnT (lnsK init 0) = [] := rfl
        rw [e0] at ho7
        rw [← g2'] at ho7
        have HO7 := Lib.hid ho7
        have B7 : Blk _ (w.heap.size + 1) 24 [.int .i64 x, tv] := b7
        rw [← g1] at B7
        have HB7 := Lib.hid B7
        have G1 := Lib.hid g1
        clear hc9 hni e0 ho7 b7 B7 g1 g2' hwq c2 c2b
        go_wp2_with fail
        go_roundw
        case rel => exact ⟨1, tv, by omega, by go_num, fun j q hj hq => by
         obtain rfl : j = 0 := by omega
         rw [HPI.out] at hq; cases hq
         rw [HL1.out]; simp, fun h => by omega, by rw [G1.out]; have := HB7.out; rw [G1.out] at this; exact this, HO7.out, hk7⟩
        case measure => (simp [intOf]) <;> omega
       ·have HBAD := Lib.hid (HBD.out (HLN.out w0 wt rfl (fun e => hn1 (by rw [HN.out, e.2.1]; rfl))))
        have hn1b : ((n : Int) == 1) = false := by rw [beq_eq_false_iff_ne]; omega
        clear hn1 hw
        go_wp2
        obtain ⟨p1, p2, z0, z1⟩ := HEX.out W5 0 b2z hBz HBAD.out
        exact bodyPost_ret (v := .tuple #[.agg #[.int .i64 0, .slice none 0 0], .int .i64 (0 : Int), .int .i64 25]) (by simp [results, Tryz.f12, go_sem, z0, z1]) rfl ⟨p1, p2⟩
      ·have HBAD := Lib.hid (HBD.out (HLN.out w0 wt rfl (fun e => hw e.1)))
       rw [decide_eq_false hw] at hwq
       clear hw
       go_wp2
       obtain ⟨p1, p2, z0, z1⟩ := HEX.out W5 0 b2z hBz HBAD.out
       exact bodyPost_ret (v := .tuple #[.agg #[.int .i64 0, .slice none 0 0], .int .i64 (0 : Int), .int .i64 25]) (by simp [results, Tryz.f12, go_sem, z0, z1]) rfl ⟨p1, p2⟩
     ·have hk1 : ((k : Int) == 0) = false := by rw [beq_eq_false_iff_ne]; omega
      have hk2 : 0 < (k : Int) := by omega
      have hk3 : (k : Int) ≠ 0 := by omega
      obtain ⟨hfl, hcn⟩ : fldL k = [112, 117, 108, 115, 101] ∧ cntL k = 2 := by
       cases k with
       | zero => exact absurd rfl hk0
       | succ k => exact ⟨rfl, rfl⟩
      have hwq := logStrB w0 k [112, 117, 108, 115, 101] hfl
      by_cases hw : w0 = fldL k
      ·rw [decide_eq_true hw] at hwq
       by_cases hn2 : n = 2
       ·subst hn2
        obtain ⟨x, y, rfl⟩ := two_of hlv
        obtain ⟨G0, c9, sp, he9, -, nB⟩ := OwnI.blk HNV.out (by simp)
        simp only [List.length_cons, List.length_nil, Nat.zero_add, Nat.reduceAdd, Value.slice.injEq, true_and] at he9
        obtain ⟨rfl, rfl⟩ := he9
        have hGF : G0 ≠ w.heap.size + 1 := Blk.ne nB b5 (by decide)
        have HL1 := Lib.hid (show lineP k p = some [x, y] by rw [HLP.out w0 wt rfl ⟨hw, by rw [hcn, HN.out], HALL.out⟩, ← HNL.out])
        have HG := Lib.hid (ctl_next HPI.out (by omega) HL1.out)
        have hFs : w.heap.size + 1 < W3.heap.size := by omega
        have htl : (trnT (lnsK init k)).length ≤ 1000000 := by rw [trnT_len, lnsK_len (by rw [← HM.out]; omega)]; omega
        obtain ⟨tl, htlq⟩ : ∃ l, l = trnT (lnsK init k) := ⟨_, rfl⟩
        rw [← htlq] at HG htl hown
        obtain ⟨cc, hcc⟩ : ∃ c, c = ctlL (lnsK init k) := ⟨_, rfl⟩
        rw [← hcc] at HG b5
        have HGD2 := Lib.hid (show ∀ j q, j < k + 1 → init[j]? = some q → lineP j q ≠ none from fun j q hj hq => by
         by_cases hjk : j < k
         ·exact HGD.out j q hjk hq
         ·obtain rfl : j = k := by omega
          rw [HPI.out] at hq; cases hq
          rw [HL1.out]; simp)
        obtain ⟨fa, fc, rfl⟩ := ownsRow_sl hown
        have hk7 : k + 1 ≤ m + 1 := by omega
        have hkm1 : k + 1 ≠ m + 1 := by omega
        clear hni htlq hcc c2 c2b f2 f2b hfl hcn hw hk0 hk3
        go_upto_region 18 with fail
        clear x0 hwq
        refine wp_region_held_drew (S := (fun W => Blk W G0 3 (([x, y] : List Int).map (Value.int .i64) ++ sp))) (by kernel_rfl) nB (fun hHeld0 => ?_)
        obtain ⟨wzd, hwz⟩ : ∃ v, v = W5.drew := ⟨_, rfl⟩
        rw [← hwz] at hHeld0 ⊢
        have hbzd : Below w.heap.size w wzd := by rw [hwz]; exact hBz.drew
        have hlzd : Below W5.heap.size W5 wzd := by rw [hwz]; exact (Below.refl _ _).drew
        have b5 := b5.carry hlzd
        have hown := hown.carry hlzd
        have hkp := hkp.carry hlzd
        have nB := nB.carry hlzd
        clear hwz hlzd
        refine zH 0 ⟨some 86, .fieldAddr 24 (.tmp 5) 1, 0, "ref.go:692", #[], none⟩ rfl ?_
        simp only [Act.put, zS]
        refine zH 2 ⟨some 88, .move (.tmp 9), 63, "ref.go:692", #[], none⟩ rfl ?_
        simp only [Act.put, zS]
        refine zH 3 ⟨some 89, .indexAddr 63 (.tmp 88) (.const (.int .i64 0)), 0, "ref.go:692", #[⟨2, .data⟩], none⟩ rfl ?_
        simp only [Act.put, zS]
        refine zH 4 ⟨some 90, .load 3 (.tmp 89), 3, "ref.go:692", #[⟨3, .data⟩], none⟩ rfl ?_ (hv := fun w hSw => by (try dsimp only at hSw); have q0 := Blk.cell hSw (j := 0) (v := .int .i64 x) rfl; clear hSw; go_simp; try rfl)
        simp only [Act.put, zS]
        refine zH 5 ⟨some 91, .move (.tmp 9), 63, "ref.go:692", #[], none⟩ rfl ?_
        simp only [Act.put, zS]
        refine zH 6 ⟨some 92, .indexAddr 63 (.tmp 91) (.const (.int .i64 1)), 0, "ref.go:692", #[⟨5, .data⟩], none⟩ rfl ?_
        simp only [Act.put, zS]
        refine zH 7 ⟨some 93, .load 3 (.tmp 92), 3, "ref.go:692", #[⟨6, .data⟩], none⟩ rfl ?_ (hv := fun w hSw => by (try dsimp only at hSw); have q0 := Blk.cell hSw (j := 1) (v := .int .i64 y) rfl; clear hSw; go_simp; try rfl)
        simp only [Act.put, zS]
        refine zH 8 ⟨some 94, .build 47 #[(0, .tmp 90), (1, .tmp 93)], 47, "ref.go:692", #[⟨4, .data⟩, ⟨7, .data⟩], none⟩ rfl ?_
        simp only [Act.put, zS]
        refine wpAnyH_ready (rs := [1, 9]) (by kernel_rfl) (by simp) ?_
        refine (AllReadyH.cons (o := ⟨some 87, .load 22 (.tmp 86), 22, "ref.go:692", #[⟨0, .data⟩], none⟩) rfl (fun K hK => ?_) (AllReadyH.cons (o := ⟨some 95, .buildSlice 22 1 #[(0, .tmp 94)], 22, "ref.go:692", #[⟨8, .data⟩], none⟩) rfl (fun K hK => ?_) AllReadyH.nil))
        ·have cF := b5.cell (j := 1) (v := .slice fa tl.length fc) rfl
         go_simp
         clear cF
         refine hK.out _ _ nB (fun hHeld1 => ?_)
         clear hK K hHeld0
         try simp only [Act.put, zS]
         refine wpAnyH_ready (rs := [9]) (by kernel_rfl) (by simp) ?_
         refine (AllReadyH.cons (o := ⟨some 95, .buildSlice 22 1 #[(0, .tmp 94)], 22, "ref.go:692", #[⟨8, .data⟩], none⟩) rfl (fun K hK => ?_) AllReadyH.nil)
         go_simp
         obtain ⟨wz9, hwz⟩ : ∃ v, v = wzd.alloc (Obj.cells #[.int .i64 x, .int .i64 y] 47) := ⟨_, rfl⟩
         rw [← hwz]
         have hl : Below wzd.heap.size wzd wz9 := by rw [hwz]; exact below_new _ _
         have hbz9 := bthen hbzd hl
         have iN : Blk wz9 wzd.heap.size 47 [.int .i64 x, .int .i64 y] := by rw [hwz]; exact Blk.new _ _ _
         generalize wzd.heap.size = G at iN ⊢
         clear hwz
         have b5 := b5.carry hl
         have hown := hown.carry hl
         have hkp := hkp.carry hl
         have nB := nB.carry hl
         clear hl
         refine hK.out _ _ nB (fun hHeld2 => ?_)
         clear hK K hHeld1
         try simp only [Act.put, zS]
         refine wpAnyH_ready (rs := [10]) (by kernel_rfl) (by simp) ?_
         refine (AllReadyH.cons (o := ⟨some 96, .call ⟨.builtin .append, #[.tmp 87, .tmp 95], #[22, 22]⟩, 22, "ref.go:692", #[⟨1, .data⟩, ⟨9, .data⟩], none⟩) rfl (fun K hK => ?_) AllReadyH.nil)
         have hsz : W3.heap.size ≤ wz9.heap.size := hkp.size
         refine wp_append_own wz9 (.tmp 87) (.tmp 95) 22 rfl W3.heap.size 47 i0 (.agg #[.int .i64 0, .int .i64 0]) 2 16 Tryz.undZbipoleref07Pulse hi hz0 hz1 hz2 rfl (by decide) (.slice fa tl.length fc) tl.length _ rfl hown ⟨G, 0, none⟩ 1 1 [.int .i64 x, .int .i64 y] rfl rfl iN.news (by simp [Value.oneCell']) (by unfold maxLen; omega) (by omega) hsz ?_
         intro v9 wz10 hown9 hgrow9 _
         have hbz10 : Below w.heap.size w wz10 := (hbz9).trans (below_gr hgrow9 (fun r hr => by have := (World.ownsRow.lt hown r hr).1; omega) (hbz9).size)
         replace b5 := Blk.own_kept b5 hown (by decide) hgrow9
         replace nB := Blk.own_kept nB hown (by decide) hgrow9
         have hK9 := hkp.grown hgrow9 (fun b hb => ⟨.inr (World.ownsRow.lt hown b hb).1, fun o ho' => ownsRow_cellsT hown hb ho'⟩)
         obtain ⟨va, vc, rfl⟩ := ownsRow_sl hown9
         have hO9 := OwR.snoc hown9
         refine hK.out _ _ nB (fun hHeld3 => ?_)
         clear hK K hHeld2
         try simp only [Act.put, zS]
         refine zH 11 ⟨some 97, .fieldAddr 24 (.tmp 5) 1, 0, "ref.go:692", #[⟨0, .phase⟩, ⟨1, .phase⟩, ⟨2, .phase⟩, ⟨3, .phase⟩, ⟨4, .phase⟩, ⟨5, .phase⟩, ⟨6, .phase⟩, ⟨7, .phase⟩, ⟨8, .phase⟩, ⟨9, .phase⟩, ⟨10, .phase⟩], none⟩ rfl ?_
         simp only [Act.put, zS]
         refine wpAnyH_ready (rs := [12]) (by kernel_rfl) (by simp) ?_
         refine (AllReadyH.cons (o := ⟨none, .store 22 (.tmp 97) (.tmp 96), 0, "ref.go:692", #[⟨11, .data⟩, ⟨10, .data⟩, ⟨10, .chain⟩, ⟨0, .phase⟩, ⟨1, .phase⟩, ⟨2, .phase⟩, ⟨3, .phase⟩, ⟨4, .phase⟩, ⟨5, .phase⟩, ⟨6, .phase⟩, ⟨7, .phase⟩, ⟨8, .phase⟩, ⟨9, .phase⟩, ⟨10, .phase⟩], none⟩) rfl (fun K hK => ?_) AllReadyH.nil)
         have fF := b5.frozen 1
         have cF := b5.cell (j := 1) (v := .slice fa tl.length fc) rfl
         go_simp
         obtain ⟨wz12, hwz⟩ : ∃ v, v = wz10.setCell ⟨w.heap.size + 1, 1, none⟩ (.slice va (tl.length + 1) vc) := ⟨_, rfl⟩
         rw [← hwz]
         have hbz12 : Below w.heap.size w wz12 := by rw [hwz]; exact (hbz10).setCell (by simp) _
         have hF2 := b5.set 1 (.slice va (tl.length + 1) vc)
         rw [← hwz] at hF2
         have hO2 : OwR _ W3.heap.size 47 2 pV _ _ := ownsRow_setO (j := 1) (x := .slice va (tl.length + 1) vc) hO9 hFs
         rw [← hwz] at hO2
         have hK2 := hK9.setCell (o := 1) b5 (.inl rfl) (.slice va (tl.length + 1) vc)
         rw [← hwz] at hK2
         have nB := Blk.other (j := 1) nB hGF (.slice va (tl.length + 1) vc)
         rw [← hwz] at nB
         clear hwz
         refine hK.out _ _ nB (fun hHeld4 => ?_)
         clear hK K hHeld3
         try simp only [Act.put, zS]
         refine wpAnyH_done (by kernel_rfl) ?_ _
         clear hHeld4
         have HF2 := Lib.hid hF2
         have HO2 := Lib.hid hO2
         have HK2 := Lib.hid hK2
         clear hF2 hO2 hK2
         obtain ⟨Y1, hY1⟩ : ∃ v, v = wz12 := ⟨_, rfl⟩
         rw [← hY1] at HF2 HO2 HK2 ⊢
         clear hY1
         go_wp2_with fail
         go_roundw
         (case rel => exact ⟨k + 1, _, hk7, by go_num, HGD2.out, fun h => absurd h hkm1, by rw [HG.out.1]; exact HF2.out, by rw [HG.out.2]; exact HO2.out, HK2.out⟩)
         (case measure => (simp [intOf]) <;> omega)
        ·go_simp
         obtain ⟨wz9, hwz⟩ : ∃ v, v = wzd.alloc (Obj.cells #[.int .i64 x, .int .i64 y] 47) := ⟨_, rfl⟩
         rw [← hwz]
         have hl : Below wzd.heap.size wzd wz9 := by rw [hwz]; exact below_new _ _
         have hbz9 := bthen hbzd hl
         have iN : Blk wz9 wzd.heap.size 47 [.int .i64 x, .int .i64 y] := by rw [hwz]; exact Blk.new _ _ _
         generalize wzd.heap.size = G at iN ⊢
         clear hwz
         have b5 := b5.carry hl
         have hown := hown.carry hl
         have hkp := hkp.carry hl
         have nB := nB.carry hl
         clear hl
         refine hK.out _ _ nB (fun hHeld1 => ?_)
         clear hK K hHeld0
         try simp only [Act.put, zS]
         refine wpAnyH_ready (rs := [1]) (by kernel_rfl) (by simp) ?_
         refine (AllReadyH.cons (o := ⟨some 87, .load 22 (.tmp 86), 22, "ref.go:692", #[⟨0, .data⟩], none⟩) rfl (fun K hK => ?_) AllReadyH.nil)
         have cF := b5.cell (j := 1) (v := .slice fa tl.length fc) rfl
         go_simp
         clear cF
         refine hK.out _ _ nB (fun hHeld2 => ?_)
         clear hK K hHeld1
         try simp only [Act.put, zS]
         refine wpAnyH_ready (rs := [10]) (by kernel_rfl) (by simp) ?_
         refine (AllReadyH.cons (o := ⟨some 96, .call ⟨.builtin .append, #[.tmp 87, .tmp 95], #[22, 22]⟩, 22, "ref.go:692", #[⟨1, .data⟩, ⟨9, .data⟩], none⟩) rfl (fun K hK => ?_) AllReadyH.nil)
         have hsz : W3.heap.size ≤ wz9.heap.size := hkp.size
         refine wp_append_own wz9 (.tmp 87) (.tmp 95) 22 rfl W3.heap.size 47 i0 (.agg #[.int .i64 0, .int .i64 0]) 2 16 Tryz.undZbipoleref07Pulse hi hz0 hz1 hz2 rfl (by decide) (.slice fa tl.length fc) tl.length _ rfl hown ⟨G, 0, none⟩ 1 1 [.int .i64 x, .int .i64 y] rfl rfl iN.news (by simp [Value.oneCell']) (by unfold maxLen; omega) (by omega) hsz ?_
         intro v9 wz10 hown9 hgrow9 _
         have hbz10 : Below w.heap.size w wz10 := (hbz9).trans (below_gr hgrow9 (fun r hr => by have := (World.ownsRow.lt hown r hr).1; omega) (hbz9).size)
         replace b5 := Blk.own_kept b5 hown (by decide) hgrow9
         replace nB := Blk.own_kept nB hown (by decide) hgrow9
         have hK9 := hkp.grown hgrow9 (fun b hb => ⟨.inr (World.ownsRow.lt hown b hb).1, fun o ho' => ownsRow_cellsT hown hb ho'⟩)
         obtain ⟨va, vc, rfl⟩ := ownsRow_sl hown9
         have hO9 := OwR.snoc hown9
         refine hK.out _ _ nB (fun hHeld3 => ?_)
         clear hK K hHeld2
         try simp only [Act.put, zS]
         refine zH 11 ⟨some 97, .fieldAddr 24 (.tmp 5) 1, 0, "ref.go:692", #[⟨0, .phase⟩, ⟨1, .phase⟩, ⟨2, .phase⟩, ⟨3, .phase⟩, ⟨4, .phase⟩, ⟨5, .phase⟩, ⟨6, .phase⟩, ⟨7, .phase⟩, ⟨8, .phase⟩, ⟨9, .phase⟩, ⟨10, .phase⟩], none⟩ rfl ?_
         simp only [Act.put, zS]
         refine wpAnyH_ready (rs := [12]) (by kernel_rfl) (by simp) ?_
         refine (AllReadyH.cons (o := ⟨none, .store 22 (.tmp 97) (.tmp 96), 0, "ref.go:692", #[⟨11, .data⟩, ⟨10, .data⟩, ⟨10, .chain⟩, ⟨0, .phase⟩, ⟨1, .phase⟩, ⟨2, .phase⟩, ⟨3, .phase⟩, ⟨4, .phase⟩, ⟨5, .phase⟩, ⟨6, .phase⟩, ⟨7, .phase⟩, ⟨8, .phase⟩, ⟨9, .phase⟩, ⟨10, .phase⟩], none⟩) rfl (fun K hK => ?_) AllReadyH.nil)
         have fF := b5.frozen 1
         have cF := b5.cell (j := 1) (v := .slice fa tl.length fc) rfl
         go_simp
         obtain ⟨wz12, hwz⟩ : ∃ v, v = wz10.setCell ⟨w.heap.size + 1, 1, none⟩ (.slice va (tl.length + 1) vc) := ⟨_, rfl⟩
         rw [← hwz]
         have hbz12 : Below w.heap.size w wz12 := by rw [hwz]; exact (hbz10).setCell (by simp) _
         have hF2 := b5.set 1 (.slice va (tl.length + 1) vc)
         rw [← hwz] at hF2
         have hO2 : OwR _ W3.heap.size 47 2 pV _ _ := ownsRow_setO (j := 1) (x := .slice va (tl.length + 1) vc) hO9 hFs
         rw [← hwz] at hO2
         have hK2 := hK9.setCell (o := 1) b5 (.inl rfl) (.slice va (tl.length + 1) vc)
         rw [← hwz] at hK2
         have nB := Blk.other (j := 1) nB hGF (.slice va (tl.length + 1) vc)
         rw [← hwz] at nB
         clear hwz
         refine hK.out _ _ nB (fun hHeld4 => ?_)
         clear hK K hHeld3
         try simp only [Act.put, zS]
         refine wpAnyH_done (by kernel_rfl) ?_ _
         clear hHeld4
         have HF2 := Lib.hid hF2
         have HO2 := Lib.hid hO2
         have HK2 := Lib.hid hK2
         clear hF2 hO2 hK2
         obtain ⟨Y1, hY1⟩ : ∃ v, v = wz12 := ⟨_, rfl⟩
         rw [← hY1] at HF2 HO2 HK2 ⊢
         clear hY1
         go_wp2_with fail
         go_roundw
         (case rel => exact ⟨k + 1, _, hk7, by go_num, HGD2.out, fun h => absurd h hkm1, by rw [HG.out.1]; exact HF2.out, by rw [HG.out.2]; exact HO2.out, HK2.out⟩)
         (case measure => (simp [intOf]) <;> omega)
       ·have HBAD := Lib.hid (HBD.out (HLN.out w0 wt rfl (fun e => hn2 (by rw [HN.out, e.2.1, hcn]))))
        have hn1b : ((n : Int) == 2) = false := by rw [beq_eq_false_iff_ne]; omega
        clear hn2 hw hk0
        go_wp2
        obtain ⟨p1, p2, z0, z1⟩ := HEX.out W5 k b2z hBz HBAD.out
        exact bodyPost_ret (v := .tuple #[.agg #[.int .i64 0, .slice none 0 0], .int .i64 (k : Int), .int .i64 25]) (by simp [results, Tryz.f12, go_sem, z0, z1]) rfl ⟨p1, p2⟩
      ·have HBAD := Lib.hid (HBD.out (HLN.out w0 wt rfl (fun e => hw e.1)))
       rw [decide_eq_false hw] at hwq
       clear hw hk0
       go_wp2
       obtain ⟨p1, p2, z0, z1⟩ := HEX.out W5 k b2z hBz HBAD.out
       exact bodyPost_ret (v := .tuple #[.agg #[.int .i64 0, .slice none 0 0], .int .i64 (k : Int), .int .i64 25]) (by simp [results, Tryz.f12, go_sem, z0, z1]) rfl ⟨p1, p2⟩
    ·rw [if_neg hall] at hIP
     subst hIP
     have HBAD := Lib.hid (HBD.out (HLN.out w0 wt rfl (fun e => hall e.2.2)))
     clear hall
     go_wp2
     obtain ⟨p1, p2, z0, z1⟩ := HEX.out W5 k b2z hBz HBAD.out
     exact bodyPost_ret (v := .tuple #[.agg #[.int .i64 0, .slice none 0 0], .int .i64 (k : Int), .int .i64 25]) (by simp [results, Tryz.f12, go_sem, z0, z1]) rfl ⟨p1, p2⟩
  ·obtain rfl : k = m + 1 := by omega
   have hl0 := hlast rfl
   subst hl0
   have hls : lnsK init (m + 1) = lnsK init m := by unfold lnsK; rw [HM.out, List.take_of_length_le (by omega), List.take_length]
   rw [hls] at b5 hown
   have HBN := bad_none HLI.out (fun j q hj hq => hgood j q (by rw [← HM.out] at hj; omega) hq)
   rw [← HM.out] at HBN
   have hlen : (lnsK init m).length = m := lnsK_len (by rw [HM.out]; exact Nat.le_refl _)
   have htl : (trnT (lnsK init m)).length ≤ 1000000 := by rw [trnT_len, hlen]; omega
   obtain ⟨tl, htlq⟩ : ∃ l, l = trnT (lnsK init m) := ⟨_, rfl⟩
   rw [← htlq] at htl hown
   obtain ⟨cc, hcc⟩ : ∃ c, c = ctlL (lnsK init m) := ⟨_, rfl⟩
   rw [← hcc] at b5
   have Z := Lib.hid (show badN (linesL L) = none ∧ ctlL (linesL L) = cc ∧ trnT (linesL L) = tl ∧ (linesL L).length = m from ⟨HBN.1, by rw [HBN.2, hcc], by rw [HBN.2, htlq], by rw [HBN.2, hlen]⟩)
   clear hls HBN hlen htlq hcc hgood hlast
   have hrw : Prs wr tv tl := hown.rw pV_len
   obtain ⟨fa, fc, rfl⟩ := ownsRow_sl hown
   have c5 := b5.cell (j := 0) (v := .int .i64 cc) rfl
   have c5b := b5.cell (j := 1) (v := .slice fa tl.length fc) rfl
   have TC := Lib.hid (CheckLogR_any cc fa tl.length fc tl wr htl hrw)
   have HO := Lib.hid hown
   have d1 : ¬ ((m : Int) + 1) < (m : Int) + 1 := by omega
   clear hrw hown
   go_wp2_with fail
   refine TC.out.mono ?_
   rintro e W4 ⟨rfl, hb4⟩
   replace b2z := b2z.carry hb4
   replace b5 := b5.carry hb4
   replace hBz := bthen hBz hb4
   have ho4 := HO.out.carry hb4
   obtain ⟨E, hE⟩ : ∃ e, e = logE cc tl := ⟨_, rfl⟩
   rw [← hE]
   have HE := Lib.hid hE
   clear hE c2 c2b f2 f2b c5 c5b TC hb4
   have c2 := b2z.cell (j := 0) (v := .int .i64 0) rfl
   have c2b := b2z.cell (j := 1) (v := .slice none 0 0) rfl
   have f2 := b2z.frozen 0
   have f2b := b2z.frozen 1
   have c5 := b5.cell (j := 0) (v := .int .i64 cc) rfl
   have c5b := b5.cell (j := 1) (v := .slice fa tl.length fc) rfl
   have hFs : w.heap.size < W3.heap.size := by omega
   by_cases hz : E = 0
   ·subst hz
    have HP := Lib.hid (HOKP.out cc tl Z.out.1 Z.out.2.1 Z.out.2.2.1 HE.out.symm)
    have ho7 : OwR _ W3.heap.size 47 2 pV _ _ := ownsRow_setO (j := 1) (x := .slice fa tl.length fc) (ownsRow_setO (j := 0) (x := .int .i64 cc) ho4 hFs) hFs
    have HO7 := Lib.hid (ho7.rw pV_len)
    clear ho7
    go_wp2
    have j2 := (b2z.set 0 (.int .i64 cc)).set 1 (.slice fa tl.length fc)
    have z0 := j2.cell (j := 0) (v := .int .i64 cc) rfl
    have z1 := j2.cell (j := 1) (v := .slice fa tl.length fc) rfl
    refine bodyPost_ret (v := .tuple #[.agg #[.int .i64 cc, .slice fa tl.length fc], .int .i64 0, .int .i64 0]) (by simp [results, Tryz.f12, go_sem, z0, z1]) rfl ⟨?_, (hBz.setCell (by simp) _).setCell (by simp) _⟩
    obtain ⟨h1, h2, h3, h4⟩ := HP.out
    exact ⟨fa, tl.length, fc, by rw [h1, h2, h3], by rw [h4]; exact HO7.out⟩
   ·have hzb : (E != 0) = true := by rw [bne_iff_ne]; exact hz
    have HP := Lib.hid (HNOP.out cc tl m E Z.out.1 Z.out.2.1 Z.out.2.2.1 Z.out.2.2.2 HE.out hz)
    go_wp2
    have j2 := (b2z.set 0 (.int .i64 0)).set 1 (.slice none 0 0)
    have z0 := j2.cell (j := 0) (v := .int .i64 0) rfl
    have z1 := j2.cell (j := 1) (v := .slice none 0 0) rfl
    exact bodyPost_ret (v := .tuple #[.agg #[.int .i64 0, .slice none 0 0], .int .i64 (m : Int), .int .i64 E]) (by simp [results, Tryz.f12, go_sem, z0, z1]) rfl ⟨ParsePost.zero HP.out _, (hBz.setCell (by simp) _).setCell (by simp) _⟩
end
end Go.Proofs.YtpmngcffkhbofaaGreatDoor

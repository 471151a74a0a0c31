/- Outages copied; the least of a list; outages deleted; the closures of Prices. -/
import Derived.Test.YtpmngcffkhbofaaGreatDoorVaV
namespace Go.Proofs.YtpmngcffkhbofaaGreatDoor
section
set_option linter.unusedSimpArgs false
set_option linter.unusedVariables false
open Go.RowKit
theorem Tryz.infZvalveOutage : (Tryz.prog.info? 165).map (fun i => (i.zero, i.size, i.bytes)) = some (some (.agg #[.int .i64 0, .int .i64 0, .int .i64 0]), 3, 24) := by kernel_rfl
theorem Tryz.undZvalveOutage : Tryz.prog.underlying 89 = some (.slice 165) := by kernel_rfl
theorem iV_one (l : List I3) : ∀ v ∈ l.flatMap iV, v.oneCell' = true := fun v hv => by
 obtain ⟨x, _, hx⟩ := List.mem_flatMap.1 hv
 simp only [iV, List.mem_cons, List.not_mem_nil, or_false] at hx
 rcases hx with rfl | rfl | rfl <;> rfl
section
attribute [local go_sem] Oper.semAt_some
set_option maxHeartbeats 1000000 in
theorem CloneO_any (v : Value) (l : List I3) (w : World) (hv : Rw 3 iV w v l) (hl : l.length ≤ 1000000) :
 Calls Tryz.prog 90 #[v] w fun e w' => (∃ u, e = .returned u ∧ OwR w' w.heap.size 165 3 iV u l) ∧ Below w.heap.size w w' := by
 obtain ⟨i0, hi, hz0, hz1, hz2⟩ := info_parts Tryz.infZvalveOutage
 rcases Nat.eq_zero_or_pos l.length with h0 | h0
 ·obtain rfl : l = [] := List.length_eq_zero_iff.1 h0
  obtain ⟨a, cap, rfl, _, _⟩ := hv
  cases a with
  | none =>
    have hnil : ∀ W, (binOp .eql 89 (.slice none 0 cap) (.slice none 0 0)).run Tryz.prog W = .ok (.bool true) W := fun W => Lib.run_eql_slice_nil W _ _ _ _ _ _ _ Tryz.undZvalveOutage
    go_enter Tryz.func90, Tryz.ntmps90
    go_wp2
    go_ret
    exact ⟨⟨_, rfl, ⟨rfl, .inl ⟨rfl, rfl⟩⟩⟩, Below.refl _ _⟩
  | some a =>
    have hnil : ∀ W, (binOp .eql 89 (.slice (some a) 0 cap) (.slice none 0 0)).run Tryz.prog W = .ok (.bool false) W := fun W => Lib.run_eql_slice_nil W _ _ _ _ _ _ _ Tryz.undZvalveOutage
    have happ := fun (W : World) (ty : TypeId) (g : Nat) => run_append_empty (P := Tryz.prog) W 89 89 ty 165 165 i0 _ Tryz.undZvalveOutage Tryz.undZvalveOutage hi hz0 g 0 (some a) cap
    go_enter Tryz.func90, Tryz.ntmps90
    go_wp2
    go_ret
    exact ⟨⟨_, rfl, ⟨rfl, .inr ⟨w.heap.size, 0, #[], rfl, Nat.le_refl _, World.alloc_heap_new w _, Nat.le_refl _, by simp, rfl, rfl⟩⟩⟩, below_new _ _⟩
 ·obtain ⟨b, o, cap, rfl, _⟩ := (id hv).head h0
  have hnil : ∀ W, (binOp .eql 89 (.slice (some ⟨b, o, none⟩) l.length cap) (.slice none 0 0)).run Tryz.prog W = .ok (.bool false) W := fun W => Lib.run_eql_slice_nil W _ _ _ _ _ _ _ Tryz.undZvalveOutage
  have hv2 := hv.carry (below_new w (.cells #[] 165))
  have hsrc : Src Tryz.prog 3 89 (.slice (some ⟨b, o, none⟩) l.length cap) l.length (l.flatMap iV) (w.alloc (.cells #[] 165)) :=
   Src.ofSlice (w := w.alloc (.cells #[] 165)) Tryz.undZvalveOutage _ _ _ _ (flat_len iV_len l) (fun j u hj => hv2.src iV_len (by decide) h0 j u hj) (iV_one l)
  go_enter Tryz.func90, Tryz.ntmps90
  go_wp2_with (at_builtin; refine wpList_append_freshO rfl (.tmp 5) (.tmp 6) 89 89 165 rfl i0 (.agg #[.int .i64 0, .int .i64 0, .int .i64 0]) 3 24 Tryz.undZvalveOutage hi hz0 hz1 hz2 rfl w.heap.size 0 rfl _ l.length _ rfl hsrc h0 (by unfold maxLen; omega) (by omega) ?_; intro u w2 hown hb)
  have hown' : OwR w2 w.heap.size 165 3 iV u l := by
   obtain ⟨h1, h2⟩ := hown
   refine ⟨h1, ?_⟩
   rcases h2 with h2 | ⟨g, cp, cur, e1, e2, e3⟩
   ·exact .inl h2
   ·exact .inr ⟨g, cp, cur, e1, by simp at e2; omega, e3⟩
  have hb' := bthen (below_new w (.cells #[] 165)) hb
  clear hown hb hnil hsrc hv2
  go_ret
  exact ⟨⟨_, rfl, hown'⟩, hb'⟩
end
/-- the least of a list. -/
def minN (l : List Int) : Nat → Int
 | 0 => l[0]?.getD 0
 | k + 1 => if l[k + 1]?.getD 0 < minN l k then l[k + 1]?.getD 0 else minN l k
def minW (l : List Int) : Int := minN l (l.length - 1)
theorem minN_rng {l : List Int} {lo hi : Int} (h : ∀ x ∈ l, lo ≤ x ∧ x ≤ hi) (k : Nat) (hk : k < l.length) : lo ≤ minN l k ∧ minN l k ≤ hi := by
 induction k with
 | zero =>
   unfold minN
   rw [List.getElem?_eq_getElem hk]; exact h _ (List.getElem_mem hk)
 | succ k ih =>
   unfold minN
   have := ih (by omega)
   split
   ·rw [List.getElem?_eq_getElem hk]; exact h _ (List.getElem_mem hk)
   ·exact this
set_option maxHeartbeats 1000000 in
theorem Min_any (v : Value) (l : List Int) (w : World) (hv : Ints w v l) (hl : l.length ≤ 1000000) (h0 : 0 < l.length) :
 Calls Tryz.prog 93 #[v] w fun e w' => e = .returned (.int .i64 (minW l)) ∧ w = w' := by
 obtain ⟨n, hn⟩ : ∃ n, n = l.length := ⟨_, rfl⟩
 obtain ⟨b, off, cp, rfl, hcs⟩ := hv.head h0
 have c0 := hcs 0 h0
 rw [Nat.add_zero] at c0
 have hm0 : l[0]?.getD 0 = minN l 0 := rfl
 rw [hm0] at c0
 have HR := Lib.hid (show minW l = minN l (n - 1) by rw [hn]; rfl)
 rw [← hn] at hcs h0 hl ⊢
 generalize minW l = R at HR ⊢
 have HC := Lib.hid hcs
 have a1 : ¬ ((n : Int) < 1) := by omega
 have a2 : (0 : Int) < (n : Int) := by omega
 clear hcs hv hn hm0
 go_enter Tryz.func93, Tryz.ntmps93
 go_wp2_with fail
 clear c0
 go_loop [3, 4] (fun m i => ∃ k : Nat, 1 ≤ k ∧ k ≤ n ∧ i = .int .i64 k ∧ m = .int .i64 (minN l (k - 1))) (fun _ i => n - (intOf i).toNat)
 case atStart => exact ⟨1, by omega, by omega, rfl, rfl⟩
 case round =>
  obtain ⟨k, hk1, hk, rfl, rfl⟩ := hrel
  by_cases hlt : k < n
  ·have c0 := HC.out k hlt
   have hs : minN l k = if l[k]?.getD 0 < minN l (k - 1) then l[k]?.getD 0 else minN l (k - 1) := by
    obtain ⟨j, rfl⟩ : ∃ j, k = j + 1 := ⟨k - 1, by omega⟩
    rfl
   generalize l[k]?.getD 0 = x at c0 hs
   generalize minN l (k - 1) = m at hs ⊢
   have HS := Lib.hid hs
   clear hs
   have d1 : (k : Int) < n := by omega
   by_cases hc : x < m
   all_goals
    go_wp2
    go_round
    case rel => exact ⟨k + 1, by omega, by omega, by go_num, by rw [Nat.add_sub_cancel, HS.out]; simp [hc]; try omega⟩
    case measure => simp [intOf]; omega
  ·obtain rfl : k = n := by omega
   go_wp2
   go_ret
   rw [HR.out]
   exact ⟨rfl, rfl⟩
theorem Tryz.enterPr1 (args : Array Value) (w : World) : Sem.run Tryz.prog (callFunc 91 args) w = .ok (.enter 91 args) w :=
 MuLone.run_callFunc_enter Tryz.func91 (by kernel_rfl) rfl args w
theorem Tryz.enterPr2 (args : Array Value) (w : World) : Sem.run Tryz.prog (callFunc 95 args) w = .ok (.enter 95 args) w :=
 MuLone.run_callFunc_enter Tryz.func95 (by kernel_rfl) rfl args w
set_option maxHeartbeats 1000000 in
theorem Prices1_any (x0 x1 x2 : Int) (m : Mo) (B : Nat) (w : World) (h0 : w.cell? ⟨B, 0, none⟩ = some (.string m.1)) (h1 : w.cell? ⟨B, 1, none⟩ = some (.int .i64 m.2.1)) (h2 : w.cell? ⟨B, 2, none⟩ = some (.int .i64 m.2.2.1)) (h3 : w.cell? ⟨B, 3, none⟩ = some (.int .i64 m.2.2.2)) :
 Calls Tryz.prog 91 #[.agg #[.int .i64 x0, .int .i64 x1, .int .i64 x2], .pointer (some ⟨B, 0, none⟩)] w fun r w' => r = .returned (.bool (!perB (x0, x1, x2) m)) ∧ Below w.heap.size w w' := by
 obtain ⟨s, y1, y2, y3⟩ := m
 have TP := Lib.hid (fun W => permits_any x0 x1 x2 s y1 y2 y3 W)
 obtain ⟨A, hA⟩ : ∃ A, A = perB (x0, x1, x2) (s, y1, y2, y3) := ⟨_, rfl⟩
 rw [← hA] at TP ⊢
 dsimp only at h0 h1 h2 h3
 clear hA
 go_enter Tryz.func91, Tryz.ntmps91
 go_upto_region 1 with fail
 obtain ⟨W1, hW1⟩ : ∃ v, v = World.alloc w (Obj.cells #[.int .i64 x0, .int .i64 x1, .int .i64 x2] 165) := ⟨_, rfl⟩
 have kW1 : Below w.heap.size w W1 := by rw [hW1]; exact below_new _ _
 have iW1 : Blk W1 (w.heap.size) 165 [.int .i64 x0, .int .i64 x1, .int .i64 x2] := by rw [hW1]; exact Blk.new _ _ _
 have sW1 : W1.heap.size = w.heap.size + 1 := by rw [hW1]; simp
 rw [← hW1]
 clear hW1
 have c0 := iW1.cell (j := 0) (v := .int .i64 x0) rfl
 have c1 := iW1.cell (j := 1) (v := .int .i64 x1) rfl
 have c2 := iW1.cell (j := 2) (v := .int .i64 x2) rfl
 have h0 := cellb h0 kW1
 have h1 := cellb h1 kW1
 have h2 := cellb h2 kW1
 have h3 := cellb h3 kW1
 clear iW1 sW1
 go_wp2_with fail
 refine (TP.out W1).mono ?_
 rintro e w2 ⟨rfl, hb2⟩
 go_wp2
 go_ret
 exact ⟨rfl, bthen kW1 hb2⟩
set_option maxHeartbeats 1000000 in
theorem Prices2_any (x0 x1 x2 : Int) (vm vp : Value) (ms : List Mo) (ps : List Int) (B C : Nat) (w : World) (hx : 0 ≤ x2 ∧ x2 ≤ 1000000) (hB : w.cell? ⟨B, 0, none⟩ = some vm) (hC : w.cell? ⟨C, 0, none⟩ = some vp) (hm : Rw 4 mV w vm ms) (hp : Ints w vp ps) (hml : ps.length ≤ ms.length) (hpl : ms.length ≤ 1000) (hpr : ∀ x ∈ ps, -1000000000 ≤ x ∧ x ≤ 1000000000) :
 Calls Tryz.prog 95 #[.agg #[.int .i64 x0, .int .i64 x1, .int .i64 x2], .pointer (some ⟨B, 0, none⟩), .pointer (some ⟨C, 0, none⟩)] w fun r w' => r = .returned (.int .i64 (x2 - chgS (x0, x1, x2) ms ps)) ∧ Below w.heap.size w w' := by
 have TC := Lib.hid (fun W (h1 : Rw 4 mV W vm ms) (h2 : Ints W vp ps) => charged_any x0 x1 x2 vm vp ms ps W h1 h2 hml hpl hpr)
 have hrg := chgK_rng (x0, x1, x2) ms ps hpr ps.length
 have hrg : -(1000000000 * (ps.length : Int)) ≤ chgS (x0, x1, x2) ms ps ∧ chgS (x0, x1, x2) ms ps ≤ 1000000000 * (ps.length : Int) := hrg
 obtain ⟨S, hS⟩ : ∃ S, S = chgS (x0, x1, x2) ms ps := ⟨_, rfl⟩
 rw [← hS] at TC hrg ⊢
 have q1 : IntKind.i64.wrap (x2 - S) = x2 - S := IntWalk.i64_in _ (by omega)
 obtain ⟨ma, mc, rfl, hmc⟩ := hm.slice
 obtain ⟨pa, pc, hpe, -⟩ := id hp
 subst hpe
 obtain ⟨NM, hNM⟩ : ∃ N, N = ms.length := ⟨_, rfl⟩
 obtain ⟨NP, hNP⟩ : ∃ N, N = ps.length := ⟨_, rfl⟩
 rw [← hNM] at TC hm hB hmc
 rw [← hNP] at TC hp hC
 clear hS hNM hNP hmc hml hpl hpr hx hrg
 go_enter Tryz.func95, Tryz.ntmps95
 go_upto_region 1 with fail
 obtain ⟨W1, hW1⟩ : ∃ v, v = World.alloc w (Obj.cells #[.int .i64 x0, .int .i64 x1, .int .i64 x2] 165) := ⟨_, rfl⟩
 have kW1 : Below w.heap.size w W1 := by rw [hW1]; exact below_new _ _
 have iW1 : Blk W1 (w.heap.size) 165 [.int .i64 x0, .int .i64 x1, .int .i64 x2] := by rw [hW1]; exact Blk.new _ _ _
 have sW1 : W1.heap.size = w.heap.size + 1 := by rw [hW1]; simp
 rw [← hW1]
 clear hW1
 have c0 := iW1.cell (j := 0) (v := .int .i64 x0) rfl
 have c1 := iW1.cell (j := 1) (v := .int .i64 x1) rfl
 have c2 := iW1.cell (j := 2) (v := .int .i64 x2) rfl
 have cB := cellb hB kW1
 have cC := cellb hC kW1
 have hbel := kW1
 replace hm := hm.carry kW1
 replace hp := hp.carry kW1
 clear iW1 sW1 kW1 hB hC
 refine wp_region_E 7 (by kernel_rfl) ?_
 obtain ⟨wz, hwz⟩ : ∃ v, v = W1.drew := ⟨_, rfl⟩
 rw [← hwz]
 have hlz : Below W1.heap.size W1 wz := by rw [hwz]; exact (Below.refl _ _).drew
 have hbz := bthen hbel hlz
 have c0 := cellb c0 hlz
 have c1 := cellb c1 hlz
 have c2 := cellb c2 hlz
 have cB := cellb cB hlz
 have cC := cellb cC hlz
 have hm := hm.carry hlz
 have hp := hp.carry hlz
 clear hwz hlz
 refine zV 0 ⟨some 5, .fieldAddr 165 (.tmp 3) 2, 0, "plan.go:176", #[], none⟩ rfl ?_
 simp only [Act.put, zS]
 refine zV 1 ⟨some 6, .load 3 (.tmp 5), 3, "plan.go:176", #[⟨0, .data⟩], none⟩ rfl ?_ (hv := fun w hE => by have c0 := cellb c0 hE; have c1 := cellb c1 hE; have c2 := cellb c2 hE; have cB := cellb cB hE; have cC := cellb cC hE; (try dsimp only); go_simp; try rfl)
 simp only [Act.put, zS]
 refine zV 2 ⟨some 7, .load 165 (.tmp 3), 165, "plan.go:176", #[], none⟩ rfl ?_ (hv := fun w hE => by have c0 := cellb c0 hE; have c1 := cellb c1 hE; have c2 := cellb c2 hE; have cB := cellb cB hE; have cC := cellb cC hE; (try dsimp only); go_simp; try rfl)
 simp only [Act.put, zS]
 refine zV 3 ⟨some 8, .load 87 (.tmp 1), 87, "plan.go:176", #[], none⟩ rfl ?_ (hv := fun w hE => by have c0 := cellb c0 hE; have c1 := cellb c1 hE; have c2 := cellb c2 hE; have cB := cellb cB hE; have cC := cellb cC hE; (try dsimp only); go_simp; try rfl)
 simp only [Act.put, zS]
 refine zV 4 ⟨some 9, .load 63 (.tmp 2), 63, "plan.go:176", #[], none⟩ rfl ?_ (hv := fun w hE => by have c0 := cellb c0 hE; have c1 := cellb c1 hE; have c2 := cellb c2 hE; have cB := cellb cB hE; have cC := cellb cC hE; (try dsimp only); go_simp; try rfl)
 simp only [Act.put, zS]
 refine zB 5 ⟨some 10, .call ⟨.value (.func 96), #[.tmp 7, .tmp 8, .tmp 9], #[165, 87, 63]⟩, 3, "plan.go:176", #[⟨2, .data⟩, ⟨3, .data⟩, ⟨4, .data⟩], none⟩ (fun w hE => TC.out w (hm.carry hE) (hp.carry hE)) rfl ?_
 simp only [Act.put, zS]
 refine zV 6 ⟨some 11, .binOp .sub 3 (.tmp 6) (.tmp 10) 3, 3, "plan.go:176", #[⟨1, .data⟩, ⟨5, .data⟩], none⟩ rfl ?_
 simp only [Act.put, zS]
 refine wpAnyE_one (i := 7) (o := ⟨some 4, .assign (.tmp 11), 3, "plan.go:176", #[⟨6, .data⟩, ⟨5, .chain⟩, ⟨0, .phase⟩, ⟨1, .phase⟩, ⟨2, .phase⟩, ⟨3, .phase⟩, ⟨4, .phase⟩, ⟨5, .phase⟩, ⟨6, .phase⟩], none⟩) (by kernel_rfl) rfl (fun wy1 hE K hK => ?_)
 have c0 := cellb c0 hE
 have c1 := cellb c1 hE
 have c2 := cellb c2 hE
 have cB := cellb cB hE
 have cC := cellb cC hE
 have hm := hm.carry hE
 have hp := hp.carry hE
 have hbz1 := bthen hbz hE
 go_simp
 refine hK _ _ (fun _ => Below.refl _ _) ?_
 clear hK K hE
 try simp only [Act.put, zS]
 refine wpAnyE_done (by kernel_rfl) (fun wy2 hE => ?_) _
 have hbz2 := bthen hbz1 hE
 have c0 := cellb c0 hE
 have c1 := cellb c1 hE
 have c2 := cellb c2 hE
 have cB := cellb cB hE
 have cC := cellb cC hE
 have hm := hm.carry hE
 have hp := hp.carry hE
 clear hE
 have hB := hbz2
 obtain ⟨W9, hW9⟩ : ∃ v, v = wy2 := ⟨_, rfl⟩
 rw [← hW9] at hB ⊢
 clear hW9
 go_wp2
 go_ret
 exact ⟨rfl, hB⟩
end
section
set_option linter.unusedSimpArgs false
set_option linter.unusedVariables false
open Go.RowKit
theorem flat_set3 (xs : List I3) (sp : List Value) (i : Nat) (hi : i < xs.length) (x : I3) :
 (((xs.flatMap iV ++ sp).set (i * 3) (.int .i64 x.1)).set (i * 3 + 1) (.int .i64 x.2.1)).set (i * 3 + 2) (.int .i64 x.2.2) = (xs.set i x).flatMap iV ++ sp := by
 induction xs generalizing i with
 | nil => simp at hi
 | cons y ys ih =>
   cases i with
   | zero => simp [iV]
   | succ i =>
     have h := ih i (by simpa using hi)
     rw [List.set_cons_succ, List.flatMap_cons, List.flatMap_cons, List.append_assoc, List.append_assoc, ← h]
     simp only [iV, List.cons_append, List.nil_append]
     rw [show (i + 1) * 3 = i * 3 + 3 by omega]
     rfl
/-- a row of the call's own as a block. -/
theorem OwR.blk {α : Type} {n : Nat} {f : α → List Value} (hf : ∀ x, (f x).length = n) {w : World} {base : Nat} {T : TypeId} {v : Value} {l : List α} (h : OwR w base T n f v l) (h0 : 0 < l.length) : ∃ G cap sp, v = .slice (some ⟨G, 0, none⟩) l.length cap ∧ base ≤ G ∧ l.length ≤ cap ∧ cap ≤ maxLen ∧ Blk w G T (l.flatMap f ++ sp) := by
 rcases h.2 with ⟨hv, hn⟩ | ⟨g, cap, cur, hv, hb, hg, hc, hcm, hcs, ht⟩
 ·omega
 ·refine ⟨g, cap, cur.toList.drop (l.length * n), hv, hb, hc, hcm, ?_⟩
  unfold Blk
  rw [← ht, List.take_append_drop]
  simpa using hg
/-- three cells cleared each. -/
theorem run_clear3 {P : Program} (w : World) (t e ty : TypeId) (ht : P.underlying t = some (.slice e)) (hv : ∀ w, (zeroValue e).run P w = .ok (.agg #[.int .i64 0, .int .i64 0, .int .i64 0]) w) (b o n c : Nat) (hn : 0 < n)
 (hc : ∀ j, j < n * 3 → (w.cell? ⟨b, o + j, none⟩).isSome = true) (hf : ∀ j, j < n * 3 → w.frozen? ⟨b, o + j, none⟩ = false) :
 (Builtin.clear_ #[t] ty #[.slice (some ⟨b, o, none⟩) n c]).run P w = .ok (.tuple #[]) (w.setCells b o (List.replicate (n * 3) (.int .i64 0))) := by
 have hzc : (Builtin.zeroCells (Value.agg #[.int .i64 0, .int .i64 0, .int .i64 0]).cells n).toList = List.replicate (n * 3) (.int .i64 0) := by
  apply List.ext_getElem
  ·simp [Builtin.zeroCells, Value.cells]
  ·intro i h1 h2
   simp [Builtin.zeroCells, Value.cells]
   have : i % 3 < 3 := Nat.mod_lt _ (by omega)
   rcases (by omega : i % 3 = 0 ∨ i % 3 = 1 ∨ i % 3 = 2) with h | h | h <;> simp [h]
 have hst := run_storeCells_cells (P := P) b o (List.replicate (n * 3) (.int .i64 0)) 0 w (by simpa using hc) (by simpa using hf) (by intro v hv'; rw [List.eq_of_mem_replicate hv']; rfl)
 simp only [Nat.add_zero] at hst
 obtain ⟨m, rfl⟩ : ∃ m, n = m + 1 := ⟨n - 1, by omega⟩
 simp [Builtin.clear_, run_underlying ht, hv, hzc, hst]
theorem findX_spec {α : Type} (g : α → Bool) (l : List α) (h : l.any g = true) : ∃ (i : Nat) (x : α), findX g l = (i : Int) ∧ l[i]? = some x ∧ g x = true ∧ (l.take i).any g = false := by
 cases hf : l.findIdx? g with
 | none =>
   rw [List.findIdx?_eq_none_iff] at hf
   obtain ⟨x, hx, hg⟩ := List.any_eq_true.1 h
   rw [hf x hx] at hg; cases hg
 | some i =>
   have e : findX g l = (i : Int) := by simp [findX, hf]
   rw [List.findIdx?_eq_some_iff_getElem] at hf
   obtain ⟨hlt, hg, hn⟩ := hf
   refine ⟨i, l[i], e, List.getElem?_eq_getElem hlt, hg, ?_⟩
   rw [List.any_eq_false]
   intro y hy
   rw [List.mem_take_iff_getElem] at hy
   obtain ⟨j, hj, rfl⟩ := hy
   simpa using hn j (by omega)
/-- what stands of the first k after a deletion. -/
def delK {α : Type} (g : α → Bool) (l : List α) (k : Nat) : List α := (l.take k).filter fun x => !g x
theorem delK_succ {α : Type} {g : α → Bool} {l : List α} {k : Nat} {x : α} (hk : l[k]? = some x) : delK g l (k + 1) = delK g l k ++ (if g x = true then [] else [x]) := by
 unfold delK
 rw [List.take_add_one, hk, List.filter_append]
 cases hg : g x <;> simp [hg]
theorem delK_none {α : Type} {g : α → Bool} {l : List α} {k : Nat} (h : (l.take k).any g = false) : delK g l k = l.take k := by
 unfold delK
 rw [List.filter_eq_self]
 intro x hx
 rw [List.any_eq_false] at h
 simpa using h x hx
theorem below_cells {B g : Nat} {w0 w : World} (hb : Below B w0 w) (hg : B ≤ g) (o : Nat) (vs : List Value) : Below B w0 (w.setCells g o vs) := by
 induction vs generalizing o w with
 | nil => exact hb
 | cons v r ih => exact ih (hb.setCell hg _) _
theorem bthenB {base : Nat} {w w1 w2 : World} (hb : base ≤ w.heap.size) (h1 : Below base w w1) (h2 : Below w1.heap.size w1 w2) : Below base w w2 := h1.trans (h2.mono (Nat.le_trans hb h1.size))
set_option maxRecDepth 100000 in
set_option maxHeartbeats 4000000 in
theorem DeleteO_any (K : Nat) (cap : Array Value) (henter : ∀ args w, Sem.run Tryz.prog (callFunc K args) w = .ok (.enter K args) w) (g : I3 → Bool) (v : Value) (l : List I3) (base : Nat) (w : World) (hl : l.length ≤ 1000000) (hbs : base ≤ w.heap.size) (hown : OwR w base 165 3 iV v l)
 (hf : ∀ x ∈ l, ∀ w1, Below base w w1 → Calls Tryz.prog K (#[.agg #[.int .i64 x.1, .int .i64 x.2.1, .int .i64 x.2.2]] ++ cap) w1 fun r w2 => r = .returned (.bool (g x)) ∧ Below w1.heap.size w1 w2) :
 Calls Tryz.prog 89 #[v, .func (.func K) #[] cap] w fun r w' => (∃ u, r = .returned u ∧ Rw 3 iV w' u (l.filter fun x => !g x)) ∧ Below base w w' := by
 have TI := Lib.hid (IndexO_any K cap henter g v l w (by omega) (hown.rw iV_len) (fun x hx w1 h1 => hf x hx w1 (h1.mono hbs)))
 cases ha : l.any g with
 | false =>
   have hx : findX g l = -1 := findX_none ha
   have hfl : (l.filter fun x => !g x) = l := by
    rw [List.filter_eq_self]
    intro x hx
    rw [List.any_eq_false] at ha
    simpa using ha x hx
   rw [hx] at TI
   rw [hfl]
   have HO := Lib.hid (hown.rw iV_len)
   obtain ⟨oa, oc, rfl⟩ := own_slice hown
   clear hown hf ha hx hfl
   go_enter Tryz.func89, Tryz.ntmps89
   go_wp2_with fail
   refine TI.out.mono ?_
   rintro e w2 ⟨rfl, hb2⟩
   go_wp2
   go_ret
   exact ⟨⟨_, rfl, HO.out.carry hb2⟩, hb2.mono hbs⟩
 | true =>
   obtain ⟨i0, x0, hx, hi0, hg0, hn0⟩ := findX_spec g l ha
   have hi0l := (List.getElem?_eq_some_iff.1 hi0).1
   rw [hx] at TI
   obtain ⟨G, cp, sp, rfl, hbG, hcp, hcm, hblk⟩ := OwR.blk iV_len hown (by omega)
   obtain ⟨N, hN⟩ : ∃ N, N = l.length := ⟨_, rfl⟩
   rw [← hN] at TI hcp hl hi0l ⊢
   have HN := Lib.hid hN
   have hd0 : delK g l (i0 + 1) = l.take i0 := by rw [delK_succ hi0, hg0, if_pos rfl, List.append_nil, delK_none hn0]
   have hlen0 : (delK g l (i0 + 1)).length = i0 := by rw [hd0, List.length_take]; omega
   have H0 := Lib.hid (show l.take i0 = delK g l (i0 + 1) from hd0.symm)
   have HL0 := Lib.hid hlen0
   have HF := Lib.hid hf
   have HEND := Lib.hid (show (l.filter fun x => !g x) = delK g l N by unfold delK; rw [hN, List.take_length])
   obtain ⟨i1, hi, hz0, hz1, hz2⟩ := info_parts Tryz.infZvalveOutage
   have hmone : ((i0 : Int) == -1) = false := by rw [beq_eq_false_iff_ne]; omega
   clear hown hf ha hx hg0 hn0 hd0 hlen0 hi0 hN
   go_enter Tryz.func89, Tryz.ntmps89
   go_wp2_with fail
   refine TI.out.mono ?_
   rintro e w2 ⟨rfl, hb2⟩
   replace hblk := hblk.carry hb2
   have hB2 := hb2.mono hbs
   clear hb2 TI
   go_wp2_with fail
   have hN1 := HN.out
   go_loopw [5, 6] (fun i j wr => ∃ (k n : Nat) (xs : List I3), k ≤ N ∧ n < k ∧ i = .int .i64 n ∧ j = .int .i64 k ∧ xs.length = N ∧ n = (delK g l k).length ∧ xs.take n = delK g l k ∧ xs.drop k = l.drop k ∧ Blk wr G 165 (xs.flatMap iV ++ sp) ∧ Below base w wr) (fun _ j _ => N - (intOf j).toNat)
   case atStart => exact ⟨i0 + 1, i0, l, by omega, by omega, rfl, by go_num, HN.out.symm, HL0.out.symm, H0.out, rfl, hblk, hB2⟩
   case round =>
    clear hblk hB2 H0 HL0
    obtain ⟨k, n, xs, hk, hnk, rfl, rfl, hxs, hn, htk, hdr, hblk, hbel⟩ := hrel
    by_cases hlt : k < N
    ·obtain ⟨x, hx⟩ : ∃ x, l[k]? = some x := ⟨_, List.getElem?_eq_getElem (by rw [← HN.out]; exact hlt)⟩
     have hxk : xs[k]? = some x := by
      have := congrArg (fun q : List I3 => q[0]?) hdr
      simpa [List.getElem?_drop, hx] using this
     obtain ⟨y, hy⟩ : ∃ y, xs[n]? = some y := ⟨_, List.getElem?_eq_getElem (by omega)⟩
     have hcell := fun (W : World) (q : Nat) (z : I3) (hz : xs[q]? = some z) (i : Nat) (u : Value) (hi : (iV z)[i]? = some u) (hb : Blk W G 165 (xs.flatMap iV ++ sp)) => (show W.cell? ⟨G, q * 3 + i, none⟩ = some u from by
      have h1 := flat_get iV_len xs q z hz i u hi
      exact hb.cell (by rw [List.getElem?_append_left (List.getElem?_eq_some_iff.1 h1).1]; exact h1))
     have c0 := hcell wr k x hxk 0 _ rfl hblk
     have c1 := hcell wr k x hxk 1 _ rfl hblk
     have c2 := hcell wr k x hxk 2 _ rfl hblk
     rw [Nat.add_zero] at c0
     have hs := delK_succ (g := g) hx
     have hset := flat_set3 xs sp n (by omega) x
     have hrest : ∀ (zs : List I3), zs = xs.set n x → zs.length = N ∧ zs.take (n + 1) = delK g l k ++ [x] ∧ zs.drop (k + 1) = l.drop (k + 1) := by
      rintro zs rfl
      refine ⟨by rw [List.length_set]; exact hxs, ?_, ?_⟩
      ·rw [List.take_add_one, List.getElem?_set_self (by omega), List.take_set_of_le (by omega), htk]; rfl
      ·rw [List.drop_set_of_lt (by omega), ← List.drop_drop, hdr, List.drop_drop]
     have hdr2 : xs.drop (k + 1) = l.drop (k + 1) := by rw [← List.drop_drop, hdr, List.drop_drop]
     have HSET := Lib.hid hset
     have HREST := Lib.hid (hrest _ rfl)
     have HTK := Lib.hid htk
     have HDR := Lib.hid hdr2
     have HNN := Lib.hid hn
     have HXS := Lib.hid hxs
     have HCL := Lib.hid (fun (W : World) (hb : Blk W G 165 (xs.flatMap iV ++ sp)) (i : Nat) (u : Value) (hi : (iV y)[i]? = some u) => hcell W n y hy i u hi hb)
     have TF := Lib.hid (fun W hE => HF.out x (List.mem_of_getElem? hx) W hE)
     obtain ⟨A, hA⟩ : ∃ A, A = g x := ⟨_, rfl⟩
     rw [← hA] at TF hs
     have HS := Lib.hid hs
     obtain ⟨x0, x1, x2⟩ := x
     obtain ⟨y0, y1, y2⟩ := y
     dsimp only at c0 c1 c2 TF HSET
     have k1 := below_new wr (.cells #[.int .i64 x0, .int .i64 x1, .int .i64 x2] 165)
     have hbx := bthenB hbs hbel k1
     have hblk1 := hblk.carry k1
     have d1 : (k : Int) < (N : Int) := by omega
     have d2 : (n : Int) < (N : Int) := by omega
     clear hx hxk hy hcell hs hset hrest hdr2 htk hdr hn hxs hA hN1
     go_wp2_with fail
     refine (TF.out _ hbx).mono ?_
     rintro e w5 ⟨rfl, hb5⟩
     have hblk5 := hblk1.carry hb5
     have hb5w := bthenB hbs hbx hb5
     have e0 := cellb ((Blk.new wr 165 [.int .i64 x0, .int .i64 x1, .int .i64 x2]).cell (j := 0) rfl) hb5
     have e1 := cellb ((Blk.new wr 165 [.int .i64 x0, .int .i64 x1, .int .i64 x2]).cell (j := 1) rfl) hb5
     have e2 := cellb ((Blk.new wr 165 [.int .i64 x0, .int .i64 x1, .int .i64 x2]).cell (j := 2) rfl) hb5
     clear c0 c1 c2 hblk hblk1 hb5 hbx hbel k1
     cases A with
     | true =>
       go_wp2
       go_roundw
       case rel => exact ⟨k + 1, n, xs, by omega, by omega, rfl, by go_num, HXS.out, by rw [HS.out]; simpa using HNN.out, by rw [HS.out]; simpa using HTK.out, HDR.out, hblk5, hb5w⟩
       case measure => simp [intOf]; omega
     | false =>
       have f0 := HCL.out w5 hblk5 0 _ rfl
       have f1 := HCL.out w5 hblk5 1 _ rfl
       have f2 := HCL.out w5 hblk5 2 _ rfl
       rw [Nat.add_zero] at f0
       have g0 := Blk.frozen hblk5 (n * 3)
       have g1 := Blk.frozen hblk5 (n * 3 + 1)
       have g2 := Blk.frozen hblk5 (n * 3 + 2)
       go_wp2
       go_roundw
       case rel =>
        have hb6 : Blk (((w5.setCell ⟨G, n * 3, none⟩ (.int .i64 x0)).setCell ⟨G, n * 3 + 1, none⟩ (.int .i64 x1)).setCell ⟨G, n * 3 + 2, none⟩ (.int .i64 x2)) G 165 ((xs.set n (x0, x1, x2)).flatMap iV ++ sp) := by
         rw [← HSET.out]; exact ((hblk5.set _ _).set _ _).set _ _
        refine ⟨k + 1, n + 1, xs.set n (x0, x1, x2), by omega, by omega, by go_num, by go_num, HREST.out.1, ?_, ?_, HREST.out.2.2, hb6, ((hb5w.setCell hbG _).setCell hbG _).setCell hbG _⟩
        ·rw [HS.out, List.length_append, ← HNN.out]; simp
        ·rw [HREST.out.2.1, HS.out]; simp
       case measure => simp [intOf]; omega
    ·obtain rfl : k = N := by omega
     have hv : ∀ w, (zeroValue 165).run Tryz.prog w = .ok (.agg #[.int .i64 0, .int .i64 0, .int .i64 0]) w := fun w => by simp [zeroValue, typeInfo, hi, hz0]
     have hlen3 : (xs.flatMap iV ++ sp).length = k * 3 + sp.length := by rw [List.length_append, flat_len iV_len, hxs]
     have hcl := fun ty => run_clear3 wr 89 _ ty Tryz.undZvalveOutage hv G (n * 3) (k - n) (cp - n) (by omega) (fun j hj => by
      obtain ⟨u, hu⟩ : ∃ u, (xs.flatMap iV ++ sp)[n * 3 + j]? = some u := ⟨_, List.getElem?_eq_getElem (by rw [hlen3]; omega)⟩
      rw [hblk.cell hu]; rfl) (fun j hj => Blk.frozen hblk _)
     have hfin : Rw 3 iV (wr.setCells G (n * 3) (List.replicate ((k - n) * 3) (.int .i64 0))) (.slice (some ⟨G, 0, none⟩) n cp) (delK g l k) := by
      rw [hn]
      refine ⟨_, cp, rfl, by omega, fun _ => ⟨G, 0, rfl, fun j x hj i u hi => ?_⟩⟩
      rw [← htk] at hj
      have hjn : j < n := by have := (List.getElem?_eq_some_iff.1 hj).1; rw [List.length_take] at this; omega
      rw [List.getElem?_take, if_pos hjn] at hj
      have h1 := flat_get iV_len xs j x hj i u hi
      have hi3 : i < 3 := by have := (List.getElem?_eq_some_iff.1 hi).1; simpa [iV] using this
      rw [World.cell?_setCells_out]
      ·rw [Nat.zero_add]
       exact hblk.cell (by rw [List.getElem?_append_left (List.getElem?_eq_some_iff.1 h1).1]; exact h1)
      ·intro _ _; left; rw [← hn]; simp; omega
     have hbf := below_cells hbel hbG (n * 3) (List.replicate ((k - n) * 3) (.int .i64 0))
     have HFIN := Lib.hid hfin
     have HBF := Lib.hid hbf
     have d0 : ¬ ((k : Int) < (k : Int)) := by omega
     have d3 : (n : Int) ≤ (k : Int) := by omega
     have d4 : (k : Int) ≤ (cp : Int) := by omega
     have d5 : (n : Int) ≤ (cp : Int) := by omega
     clear hfin hbf hxs hn htk hdr hblk hbel hlen3 hv hN1
     go_wp2
     go_ret
     exact ⟨⟨_, rfl, by rw [HEND.out]; exact HFIN.out⟩, HBF.out⟩
end
section
set_option linter.unusedSimpArgs false
set_option linter.unusedVariables false
open Go.RowKit
theorem outE_ok {os : List I3} (h : outE os = 0) : os.length ≤ 6 ∧ ∀ o ∈ os, (0 ≤ o.1 ∧ o.1 ≤ 100000) ∧ (0 ≤ o.2.1 ∧ o.2.1 ≤ 100) ∧ (0 ≤ o.2.2 ∧ o.2.2 ≤ 1000000) := by
 unfold outE at h
 split at h
 ·cases h
 ·refine ⟨by omega, fun o ho => ?_⟩
  obtain ⟨k, hk⟩ := List.getElem?_of_mem ho
  have := eachE_zero h k o hk
  unfold outG at this
  rw [firstE_cons0, firstE_cons0, firstE_cons0, withinE_zero, withinE_zero, withinE_zero] at this
  exact ⟨this.1, this.2.1, this.2.2.1⟩
theorem modsE_ok {ms : List Mo} (h : modsE ms = 0) : ms.length ≤ 8 ∧ ∀ m ∈ ms, nameB m.1.data.toList = true ∧ (0 ≤ m.2.1 ∧ m.2.1 ≤ 100000) ∧ (0 ≤ m.2.2.1 ∧ m.2.2.1 ≤ 100000) ∧ (1 ≤ m.2.2.2 ∧ m.2.2.2 ≤ 100) := by
 unfold modsE at h
 split at h
 ·cases h
 ·refine ⟨by omega, fun o ho => ?_⟩
  obtain ⟨k, hk⟩ := List.getElem?_of_mem ho
  have := eachE_zero h k o hk
  unfold modG at this
  rw [firstE_cons0, firstE_cons0, firstE_cons0, firstE_cons0, firstE_cons0, withinE_zero, withinE_zero, withinE_zero, whenE_zero (by decide)] at this
  exact ⟨by simpa using this.1, this.2.2.1, this.2.2.2.1, this.2.2.2.2.1⟩
theorem bothE_ok {ms : List Mo} {os : List I3} (h : bothE ms os = 0) : modsE ms = 0 ∧ outE os = 0 := by
 unfold bothE at h
 rw [firstE_cons0, firstE_cons0] at h
 exact ⟨h.1, h.2.1⟩
/-- the outages that are permitted for a module. -/
def permL (os : List I3) (m : Mo) : List I3 := os.filter fun o => perB o m
def noM : Mo := (⟨#[]⟩, 0, 0, 0)
def priL (ms : List Mo) (os : List I3) (k : Nat) (ps : List Int) : List Int := (permL os (ms[k]?.getD noM)).map fun o => o.2.2 - chgS o ms ps
def priK (ms : List Mo) (os : List I3) : Nat → List Int
 | 0 => []
 | k + 1 => priK ms os k ++ [minW (priL ms os k (priK ms os k))]
theorem priK_len (ms : List Mo) (os : List I3) (k : Nat) : (priK ms os k).length = k := by
 induction k with
 | zero => rfl
 | succ k ih => simp [priK, ih]
theorem minN_le (l : List Int) (k j : Nat) (hj : j ≤ k) : minN l k ≤ l[j]?.getD 0 := by
 induction k with
 | zero => obtain rfl : j = 0 := by omega
           exact Int.le_refl _
 | succ k ih =>
   unfold minN
   by_cases h : j = k + 1
   ·subst h; split <;> omega
   ·have := ih (by omega)
    split <;> omega
theorem minW_le {l : List Int} {x : Int} (hx : x ∈ l) : minW l ≤ x := by
 obtain ⟨j, hj⟩ := List.getElem?_of_mem hx
 have := (List.getElem?_eq_some_iff.1 hj).1
 have h := minN_le l (l.length - 1) j (by omega)
 rw [hj] at h
 exact h
theorem minW_rng {l : List Int} {lo hi : Int} (h : ∀ x ∈ l, lo ≤ x ∧ x ≤ hi) (h0 : 0 < l.length) : lo ≤ minW l ∧ minW l ≤ hi := minN_rng h _ (by omega)
theorem chgK_append (o : I3) (ms : List Mo) (ps qs : List Int) (k : Nat) (hk : k ≤ ps.length) : chgK o ms (ps ++ qs) k = chgK o ms ps k := by
 induction k with
 | zero => rfl
 | succ k ih => simp only [chgK]; rw [ih (by omega), List.getElem?_append_left (by omega)]
theorem chgS_snoc (o : I3) (ms : List Mo) (ps : List Int) (p : Int) : chgS o ms (ps ++ [p]) = chgS o ms ps + (if perB o (ms[ps.length]?.getD noM) = true then p else 0) := by
 unfold chgS
 rw [List.length_append, List.length_singleton]
 simp only [chgK]
 rw [chgK_append o ms ps [p] _ (Nat.le_refl _), List.getElem?_append_right (Nat.le_refl _), Nat.sub_self]
 rfl
theorem priK_ok {ms : List Mo} {os : List I3} (ho : ∀ o ∈ os, 0 ≤ o.2.2 ∧ o.2.2 ≤ 1000000) (k : Nat) (hk : k ≤ ms.length) (hp : ∀ j, j < k → permL os (ms[j]?.getD noM) ≠ []) :
 (∀ p ∈ priK ms os k, 0 ≤ p ∧ p ≤ 1000000) ∧ ∀ o ∈ os, 0 ≤ chgS o ms (priK ms os k) ∧ chgS o ms (priK ms os k) ≤ o.2.2 := by
 induction k with
 | zero => exact ⟨by simp [priK], fun o h => ⟨by simp [priK, chgS, chgK], by simpa [priK, chgS, chgK] using (ho o h).1⟩⟩
 | succ k ih =>
   obtain ⟨h1, h2⟩ := ih (by omega) (fun j hj => hp j (by omega))
   have hne : permL os (ms[k]?.getD noM) ≠ [] := hp k (by omega)
   have hb : ∀ x ∈ priL ms os k (priK ms os k), 0 ≤ x ∧ x ≤ 1000000 := by
    intro x hx
    obtain ⟨o, hoo, rfl⟩ := List.mem_map.1 hx
    have hom := (List.mem_filter.1 hoo).1
    have := h2 o hom
    have := ho o hom
    omega
   have hl : 0 < (priL ms os k (priK ms os k)).length := by
    unfold priL; rw [List.length_map]; exact List.length_pos_iff.2 hne
   have hm := minW_rng hb hl
   constructor
   ·intro p hp'
    simp only [priK, List.mem_append, List.mem_singleton] at hp'
    rcases hp' with h | rfl
    ·exact h1 p h
    ·exact hm
   ·intro o hoo
    have h3 := h2 o hoo
    simp only [priK]
    rw [chgS_snoc, priK_len]
    split
    ·next hpb =>
     have hmem : o.2.2 - chgS o ms (priK ms os k) ∈ priL ms os k (priK ms os k) := List.mem_map.2 ⟨o, List.mem_filter.2 ⟨hoo, hpb⟩, rfl⟩
     have := minW_le hmem
     omega
    ·omega
/-- a module for which no outage is permitted. -/
def priB (ms : List Mo) (os : List I3) : Bool := ms.any fun m => (permL os m).isEmpty
def priE (ms : List Mo) (os : List I3) : Int := if bothE ms os = 0 then (if priB ms os = true then 18 else 0) else bothE ms os
def priR (ms : List Mo) (os : List I3) : List Int := if priE ms os = 0 then priK ms os ms.length else []
theorem priB_at {ms : List Mo} {os : List I3} {k : Nat} {m : Mo} (hk : ms[k]? = some m) (h : permL os m = []) : priB ms os = true := List.any_eq_true.2 ⟨m, List.mem_of_getElem? hk, by rw [h]; rfl⟩
theorem priB_none {ms : List Mo} {os : List I3} (h : ∀ j, j < ms.length → permL os (ms[j]?.getD noM) ≠ []) : priB ms os = false := by
 unfold priB
 rw [List.any_eq_false]
 intro m hm
 obtain ⟨j, hj⟩ := List.getElem?_of_mem hm
 have := h j (List.getElem?_eq_some_iff.1 hj).1
 rw [hj] at this
 simpa using this
theorem own_setCellV {w : World} {base e size n B j : Nat} {v x : Value} {xs : List Value} (h : w.ownsRow base e size v n xs) (hB : B < base) : (w.setCell ⟨B, j, none⟩ x).ownsRow base e size v n xs := by
 refine ⟨h.1, ?_⟩
 rcases h.2 with h | ⟨g, cap, cur, hv, hg, hh, hr⟩
 ·exact .inl h
 ·exact .inr ⟨g, cap, cur, hv, hg, (Below.heap_setCell _ _ _ _ (show g ≠ B by omega)).trans hh, hr⟩
end
end Go.Proofs.YtpmngcffkhbofaaGreatDoor

/- The law's helpers: train, told. -/
import Derived.Test.YtpmngcffkhbofaaGreatDoorVbJ
namespace Go.Proofs.YtpmngcffkhbofaaGreatDoor
section
set_option linter.unusedSimpArgs false
set_option linter.unusedVariables false
open Go.RowKit
/-- pulses at successive ticks from one on. -/
def trnL (f : Int) (l : List Int) (k : Nat) : List P2 := (l.take k).mapIdx fun i n => (f + (i : Int), n)
theorem trnL_succ (f : Int) {l : List Int} {k : Nat} {x : Int} (h : l[k]? = some x) : trnL f l (k + 1) = trnL f l k ++ [(f + (k : Int), x)] := by
 have hlt := (List.getElem?_eq_some_iff.1 h).1
 unfold trnL
 rw [List.take_add_one, h, List.mapIdx_append]
 simp [List.length_take, Nat.min_eq_left (Nat.le_of_lt hlt)]
theorem trnL_len (f : Int) (l : List Int) (k : Nat) (hk : k ≤ l.length) : (trnL f l k).length = k := by unfold trnL; simp; omega
set_option maxRecDepth 100000 in
set_option maxHeartbeats 2000000 in
theorem train_any (f : Int) (v : Value) (l : List Int) (w : World) (hf : -1000000 ≤ f ∧ f ≤ 1000000) (hl : l.length ≤ 1000000) (hv : Ints w v l) :
 Calls Tryz.prog 25 #[.int .i64 f, v] w fun r w' => (∃ u, r = .returned u ∧ OwR w' w.heap.size 104 2 pV u (trnL f l l.length)) ∧ Below w.heap.size w w' := by
 obtain ⟨i0, hi, hz0, hz1, hz2⟩ := info_parts Tryz.infZvalvePulse
 have HV := Lib.hid hv
 obtain ⟨va, vc, hve, -⟩ := id hv
 subst hve
 obtain ⟨N, hN⟩ : ∃ N, N = l.length := ⟨_, rfl⟩
 rw [← hN] at HV hl ⊢
 have HN := Lib.hid hN
 clear hv hN
 go_enter Tryz.func25, Tryz.ntmps25
 go_wp2_with fail
 go_loopw [5, 10] (fun u i wr => ∃ k : Nat, k ≤ N ∧ i = .int .i64 k ∧ wr.ownsRow w.heap.size 104 2 u k ((trnL f l k).flatMap pV) ∧ Below w.heap.size w wr) (fun _ i _ => N - (intOf i).toNat)
 case atStart => exact ⟨0, by omega, rfl, World.ownsRow_nil _ _ _ _, Below.refl _ _⟩
 case round =>
  obtain ⟨k, hk, rfl, hown, hbel⟩ := hrel
  by_cases hlt : k < N
  ·obtain ⟨x, hx⟩ : ∃ x, l[k]? = some x := ⟨_, List.getElem?_eq_getElem (by rw [← HN.out]; exact hlt)⟩
   obtain ⟨b, off, cp, he, hcs⟩ := (HV.out.carry hbel).head (by rw [← HN.out]; omega)
   simp only [Value.slice.injEq] at he
   obtain ⟨rfl, -, rfl⟩ := he
   have c0 := hcs k (by rw [← HN.out]; exact hlt)
   rw [hx, Option.getD_some] at c0
   have hts : (trnL f l (k + 1)).flatMap pV = (trnL f l k).flatMap pV ++ [.int .i64 (f + (k : Int)), .int .i64 x] := by rw [trnL_succ f hx, List.flatMap_append]; rfl
   have HTS := Lib.hid hts
   have q1 : IntKind.i64.wrap (f + (k : Int)) = f + (k : Int) := IntWalk.i64_in _ (by omega)
   have hdk : (k : Int) < (N : Int) := by omega
   have hsz := hbel.size
   have kn := below_new wr (.cells #[.int .i64 (f + (k : Int)), .int .i64 x] 104)
   obtain ⟨oa, oc, rfl⟩ := own_slice hown
   clear hcs hx hts
   go_wp2_with (at_builtin; refine wpList_append_own _ rfl _ _ 30 rfl w.heap.size 104 i0 (.agg #[.int .i64 0, .int .i64 0]) 2 16 Tryz.undZvalvePulse hi hz0 hz1 hz2 rfl (by decide) _ _ _ rfl (own_below hown kn) ⟨wr.heap.size, 0, none⟩ 1 1 [.int .i64 (f + (k : Int)), .int .i64 x] rfl rfl (fun j u hj => (Blk.new wr 104 [.int .i64 (f + (k : Int)), .int .i64 x]).news j u hj) (by simp [Value.oneCell']) (by unfold maxLen; omega) (by omega) (by have := kn.size; omega) ?_; intro v9 w1 hown9 hgrow9 _)
   have hbel9 := (bthen hbel kn).trans (below_grow (own_below hown kn) (by have := kn.size; omega) hgrow9)
   rw [← HTS.out] at hown9
   clear hown hgrow9 kn hbel
   go_wp2
   go_roundw
   case rel => exact ⟨k + 1, by omega, by go_num, hown9, hbel9⟩
   case measure => simp [intOf]; omega
  ·obtain rfl : k = N := by omega
   have hout : OwR wr w.heap.size 104 2 pV u5 (trnL f l k) := by
    unfold OwR
    rw [trnL_len f l k (by rw [← HN.out]; exact Nat.le_refl _)]; exact hown
   have d0 : ¬ ((k : Int) < (k : Int)) := by omega
   clear hown
   go_wp2
   go_ret
   exact ⟨⟨_, rfl, hout⟩, hbel⟩
end
section
set_option linter.unusedSimpArgs false
set_option linter.unusedVariables false
open Go.RowKit
theorem Tryz.infZbipoleref07Pulse : (Tryz.prog.info? 47).map (fun i => (i.zero, i.size, i.bytes)) = some (some (.agg #[.int .i64 0, .int .i64 0]), 2, 16) := by kernel_rfl
theorem Tryz.undZbipoleref07Pulse : Tryz.prog.underlying 22 = some (.slice 47) := by kernel_rfl
set_option maxRecDepth 100000 in
set_option maxHeartbeats 2000000 in
theorem told_any (v : Value) (l : List P2) (w : World) (hl : l.length ≤ 1000000) (hv : Rw 2 pV w v l) :
 Calls Tryz.prog 14 #[v] w fun r w' => (∃ u, r = .returned u ∧ OwR w' w.heap.size 47 2 pV u l) ∧ Below w.heap.size w w' := by
 obtain ⟨i0, hi, hz0, hz1, hz2⟩ := info_parts Tryz.infZbipoleref07Pulse
 have HV := Lib.hid hv
 obtain ⟨va, vc, rfl, hvc⟩ := hv.slice
 obtain ⟨N, hN⟩ : ∃ N, N = l.length := ⟨_, rfl⟩
 rw [← hN] at HV hl ⊢
 have HN := Lib.hid hN
 clear hv hN hvc
 go_enter Tryz.func14, Tryz.ntmps14
 go_wp2_with fail
 go_loopw [3, 8] (fun u i wr => ∃ k : Nat, k ≤ N ∧ i = .int .i64 k ∧ wr.ownsRow w.heap.size 47 2 u k ((l.take k).flatMap pV) ∧ Below w.heap.size w wr) (fun _ i _ => N - (intOf i).toNat)
 case atStart => exact ⟨0, by omega, rfl, World.ownsRow_nil _ _ _ _, Below.refl _ _⟩
 case round =>
  obtain ⟨k, hk, rfl, hown, hbel⟩ := hrel
  by_cases hlt : k < N
  ·obtain ⟨x, hx⟩ : ∃ x, l[k]? = some x := ⟨_, List.getElem?_eq_getElem (by rw [← HN.out]; exact hlt)⟩
   obtain ⟨b, off, cp, he, hcs⟩ := (HV.out.carry hbel).head (by rw [← HN.out]; omega)
   simp only [Value.slice.injEq] at he
   obtain ⟨rfl, -, rfl⟩ := he
   obtain ⟨c0, c1⟩ := rw2 (hcs k x hx) (show pV x = [.int .i64 x.1, .int .i64 x.2] from rfl)
   have hts : (l.take (k + 1)).flatMap pV = (l.take k).flatMap pV ++ [.int .i64 x.1, .int .i64 x.2] := by rw [List.take_add_one, hx, List.flatMap_append]; simp [pV]
   obtain ⟨y0, hy0⟩ : ∃ y, y = x.1 := ⟨_, rfl⟩
   obtain ⟨y1, hy1⟩ : ∃ y, y = x.2 := ⟨_, rfl⟩
   rw [← hy0] at c0
   rw [← hy1] at c1
   rw [← hy0, ← hy1] at hts
   have HTS := Lib.hid hts
   have hdk : (k : Int) < (N : Int) := by omega
   have hsz := hbel.size
   have kb := below_new wr (.cells #[.int .i64 y0, .int .i64 y1] 104)
   have kn := bthen kb (below_new (wr.alloc (.cells #[.int .i64 y0, .int .i64 y1] 104)) (.cells #[.int .i64 y0, .int .i64 y1] 47))
   obtain ⟨oa, oc, rfl⟩ := own_slice hown
   clear hcs hx hts hy0 hy1
   go_wp2_with (at_builtin; refine wpList_append_own _ rfl _ _ 22 rfl w.heap.size 47 i0 (.agg #[.int .i64 0, .int .i64 0]) 2 16 Tryz.undZbipoleref07Pulse hi hz0 hz1 hz2 rfl (by decide) _ _ _ rfl (own_below hown kn) ⟨wr.heap.size + 1, 0, none⟩ 1 1 [.int .i64 y0, .int .i64 y1] rfl rfl (fun j u hj => by have h9 := (Blk.new (wr.alloc (.cells #[.int .i64 y0, .int .i64 y1] 104)) 47 [.int .i64 y0, .int .i64 y1]).news j u hj; rw [World.size_alloc] at h9; exact h9) (by simp [Value.oneCell']) (by unfold maxLen; omega) (by omega) (by have := kn.size; omega) ?_; intro v9 w1 hown9 hgrow9 _)
   have hbel9 := (bthen hbel kn).trans (below_grow (own_below hown kn) (by have := kn.size; omega) hgrow9)
   rw [← HTS.out] at hown9
   clear hown hgrow9 kn kb hbel c0 c1
   go_wp2
   go_roundw
   case rel => exact ⟨k + 1, by omega, by go_num, hown9, hbel9⟩
   case measure => simp [intOf]; omega
  ·obtain rfl : k = N := by omega
   have hout : OwR wr w.heap.size 47 2 pV u3 l := by
    unfold OwR
    rw [← HN.out]
    rw [List.take_of_length_le (by rw [HN.out]; exact Nat.le_refl _)] at hown
    exact hown
   have d0 : ¬ ((k : Int) < (k : Int)) := by omega
   clear hown
   go_wp2
   go_ret
   exact ⟨⟨_, rfl, hout⟩, hbel⟩
set_option maxRecDepth 100000 in
set_option maxHeartbeats 2000000 in
theorem pulses_any (v : Value) (l : List P2) (w : World) (hl : l.length ≤ 1000000) (hv : Rw 2 pV w v l) :
 Calls Tryz.prog 45 #[v] w fun r w' => (∃ u, r = .returned u ∧ OwR w' w.heap.size 104 2 pV u l) ∧ Below w.heap.size w w' := by
 obtain ⟨i0, hi, hz0, hz1, hz2⟩ := info_parts Tryz.infZvalvePulse
 have HV := Lib.hid hv
 obtain ⟨va, vc, rfl, hvc⟩ := hv.slice
 obtain ⟨N, hN⟩ : ∃ N, N = l.length := ⟨_, rfl⟩
 rw [← hN] at HV hl ⊢
 have HN := Lib.hid hN
 clear hv hN hvc
 go_enter Tryz.func45, Tryz.ntmps45
 go_wp2_with fail
 go_loopw [3, 8] (fun u i wr => ∃ k : Nat, k ≤ N ∧ i = .int .i64 k ∧ wr.ownsRow w.heap.size 104 2 u k ((l.take k).flatMap pV) ∧ Below w.heap.size w wr) (fun _ i _ => N - (intOf i).toNat)
 case atStart => exact ⟨0, by omega, rfl, World.ownsRow_nil _ _ _ _, Below.refl _ _⟩
 case round =>
  obtain ⟨k, hk, rfl, hown, hbel⟩ := hrel
  by_cases hlt : k < N
  ·obtain ⟨x, hx⟩ : ∃ x, l[k]? = some x := ⟨_, List.getElem?_eq_getElem (by rw [← HN.out]; exact hlt)⟩
   obtain ⟨b, off, cp, he, hcs⟩ := (HV.out.carry hbel).head (by rw [← HN.out]; omega)
   simp only [Value.slice.injEq] at he
   obtain ⟨rfl, -, rfl⟩ := he
   obtain ⟨c0, c1⟩ := rw2 (hcs k x hx) (show pV x = [.int .i64 x.1, .int .i64 x.2] from rfl)
   have hts : (l.take (k + 1)).flatMap pV = (l.take k).flatMap pV ++ [.int .i64 x.1, .int .i64 x.2] := by rw [List.take_add_one, hx, List.flatMap_append]; simp [pV]
   obtain ⟨y0, hy0⟩ : ∃ y, y = x.1 := ⟨_, rfl⟩
   obtain ⟨y1, hy1⟩ : ∃ y, y = x.2 := ⟨_, rfl⟩
   rw [← hy0] at c0
   rw [← hy1] at c1
   rw [← hy0, ← hy1] at hts
   have HTS := Lib.hid hts
   have hdk : (k : Int) < (N : Int) := by omega
   have hsz := hbel.size
   have kb := below_new wr (.cells #[.int .i64 y0, .int .i64 y1] 47)
   have kn := bthen kb (below_new (wr.alloc (.cells #[.int .i64 y0, .int .i64 y1] 47)) (.cells #[.int .i64 y0, .int .i64 y1] 104))
   obtain ⟨oa, oc, rfl⟩ := own_slice hown
   clear hcs hx hts hy0 hy1
   go_wp2_with (at_builtin; refine wpList_append_own _ rfl _ _ 30 rfl w.heap.size 104 i0 (.agg #[.int .i64 0, .int .i64 0]) 2 16 Tryz.undZvalvePulse hi hz0 hz1 hz2 rfl (by decide) _ _ _ rfl (own_below hown kn) ⟨wr.heap.size + 1, 0, none⟩ 1 1 [.int .i64 y0, .int .i64 y1] rfl rfl (fun j u hj => by have h9 := (Blk.new (wr.alloc (.cells #[.int .i64 y0, .int .i64 y1] 47)) 104 [.int .i64 y0, .int .i64 y1]).news j u hj; rw [World.size_alloc] at h9; exact h9) (by simp [Value.oneCell']) (by unfold maxLen; omega) (by omega) (by have := kn.size; omega) ?_; intro v9 w1 hown9 hgrow9 _)
   have hbel9 := (bthen hbel kn).trans (below_grow (own_below hown kn) (by have := kn.size; omega) hgrow9)
   rw [← HTS.out] at hown9
   clear hown hgrow9 kn kb hbel c0 c1
   go_wp2
   go_roundw
   case rel => exact ⟨k + 1, by omega, by go_num, hown9, hbel9⟩
   case measure => simp [intOf]; omega
  ·obtain rfl : k = N := by omega
   have hout : OwR wr w.heap.size 104 2 pV u3 l := by
    unfold OwR
    rw [← HN.out]
    rw [List.take_of_length_le (by rw [HN.out]; exact Nat.le_refl _)] at hown
    exact hown
   have d0 : ¬ ((k : Int) < (k : Int)) := by omega
   clear hown
   go_wp2
   go_ret
   exact ⟨⟨_, rfl, hout⟩, hbel⟩
end
section
set_option linter.unusedSimpArgs false
set_option linter.unusedVariables false
open Go.RowKit
set_option maxRecDepth 100000 in
set_option maxHeartbeats 2000000 in
theorem modules_any (w : World) :
 Calls Tryz.prog 37 #[] w fun r w' => (∃ u, r = .returned u ∧ Rw 4 mV w' u [(⟨#[109, 49]⟩, 0, 10, 2), (⟨#[109, 50]⟩, 5, 20, 3)]) ∧ Below w.heap.size w w' := by
 have kn := below_new w (.cells #[.string ⟨#[109, 49]⟩, .int .i64 0, .int .i64 10, .int .i64 2, .string ⟨#[109, 50]⟩, .int .i64 5, .int .i64 20, .int .i64 3] 163)
 have iB : Blk _ w.heap.size 163 ([(⟨#[109, 49]⟩, 0, 10, 2), (⟨#[109, 50]⟩, 5, 20, 3)].flatMap mV) := Blk.new w 163 [.string ⟨#[109, 49]⟩, .int .i64 0, .int .i64 10, .int .i64 2, .string ⟨#[109, 50]⟩, .int .i64 5, .int .i64 20, .int .i64 3]
 have HR := Lib.hid (Rw.of_blk mV_len iB 2 2 rfl (Nat.le_refl _))
 clear iB
 go_enter Tryz.func37, Tryz.ntmps37
 go_wp2
 go_ret
 exact ⟨⟨_, rfl, HR.out⟩, kn⟩
set_option maxRecDepth 100000 in
set_option maxHeartbeats 2000000 in
theorem outages_any (w : World) :
 Calls Tryz.prog 38 #[] w fun r w' => (∃ u, r = .returned u ∧ Rw 3 iV w' u [(8, 4, 10), (15, 8, 6)]) ∧ Below w.heap.size w w' := by
 have kn := below_new w (.cells #[.int .i64 8, .int .i64 4, .int .i64 10, .int .i64 15, .int .i64 8, .int .i64 6] 165)
 have iB : Blk _ w.heap.size 165 ([((8 : Int), (4 : Int), (10 : Int)), (15, 8, 6)].flatMap iV) := Blk.new w 165 [.int .i64 8, .int .i64 4, .int .i64 10, .int .i64 15, .int .i64 8, .int .i64 6]
 have HR := Lib.hid (Rw.of_blk iV_len iB 2 2 rfl (Nat.le_refl _))
 clear iB
 go_enter Tryz.func38, Tryz.ntmps38
 go_wp2
 go_ret
 exact ⟨⟨_, rfl, HR.out⟩, kn⟩
theorem own_baseV {w : World} {base base' e size n : Nat} {v : Value} {xs : List Value} (h : w.ownsRow base e size v n xs) (hb : base' ≤ base) : w.ownsRow base' e size v n xs := by
 refine ⟨h.1, ?_⟩
 rcases h.2 with h | ⟨g, cap, cur, hv, hg, hr⟩
 ·exact .inl h
 ·exact .inr ⟨g, cap, cur, hv, by omega, hr⟩
set_option maxRecDepth 100000 in
set_option maxHeartbeats 2000000 in
theorem one_any (w : World) :
 Calls Tryz.prog 20 #[] w fun r w' => (∃ a n cap, r = .returned (.agg #[.int .i64 0, .slice a n cap]) ∧ Prs w' (.slice a n cap) [((1 : Int), (3 : Int)), ((2 : Int), (3 : Int)), ((3 : Int), (5 : Int)), ((4 : Int), (5 : Int))]) ∧ Below w.heap.size w w' := by
 have TT := Lib.hid (fun W => train_any 1 (.slice (some ⟨W.heap.size, 0, none⟩) 4 4) [3, 3, 5, 5] (W.alloc (.cells #[.int .i64 3, .int .i64 3, .int .i64 5, .int .i64 5] 3)) (by omega) (by simp) (Ints.lit W 3 [3, 3, 5, 5] 4 rfl))
 go_enter Tryz.func20, Tryz.ntmps20
 go_upto_region 1 with fail
 obtain ⟨W1, hW1⟩ : ∃ v, v = World.alloc w (Obj.cells #[.int .i64 0, .slice none 0 0] 32) := ⟨_, rfl⟩
 have kW1 : Below w.heap.size w W1 := by rw [hW1]; exact below_new _ _
 have iW1 : Blk W1 (w.heap.size) 32 [.int .i64 0, .slice none 0 0] := by rw [hW1]; exact Blk.new _ _ _
 have sW1 : W1.heap.size = w.heap.size + 1 := by rw [hW1]; simp
 rw [← hW1]
 clear hW1
 have i1 := iW1
 have k2 := below_new W1 (.cells #[.int .i64 3, .int .i64 3, .int .i64 5, .int .i64 5] 3)
 have i2 := i1.carry k2
 have hB := bthen kW1 k2
 clear iW1 sW1 kW1 i1
 go_wp2_with fail
 refine (TT.out W1).mono ?_
 rintro e w3 ⟨⟨u, rfl, hu⟩, hb3⟩
 have i3 := i2.carry hb3
 have hB3 := bthen hB hb3
 have hur : Prs w3 u [((1 : Int), (3 : Int)), ((2 : Int), (3 : Int)), ((3 : Int), (5 : Int)), ((4 : Int), (5 : Int))] := hu.rw pV_len
 obtain ⟨a, cp, rfl, -⟩ := hur.slice
 have f0 := i3.frozen 0
 have f1 := i3.frozen 1
 have g0 := i3.cell (j := 0) (v := .int .i64 0) rfl
 have g1 := i3.cell (j := 1) (v := .slice none 0 0) rfl
 have i4 := (i3.set 0 (.int .i64 0)).set 1 (.slice a 4 cp)
 have hB4 := below_setC (below_setC hB3 w.heap.size 0 (Nat.le_refl _) (.int .i64 0)) w.heap.size 1 (Nat.le_refl _) (.slice a 4 cp)
 have hu4 := own_setCellV (j := 1) (x := .slice a 4 cp) (own_setCellV (j := 0) (x := .int .i64 0) (own_baseV hu (show w.heap.size + 1 ≤ _ by have := (i2.lt); omega)) (by omega : w.heap.size < w.heap.size + 1)) (by omega : w.heap.size < w.heap.size + 1)
 have HP := Lib.hid (Rw.of_own (l := [((1 : Int), (3 : Int)), ((2 : Int), (3 : Int)), ((3 : Int), (5 : Int)), ((4 : Int), (5 : Int))]) pV_len hu4 rfl)
 have HZ0 := Lib.hid (i4.cell (j := 0) (v := .int .i64 0) rfl)
 have HZ1 := Lib.hid (i4.cell (j := 1) (v := .slice a 4 cp) rfl)
 have HBB := Lib.hid hB4
 clear i4 hB4 hu4 hu hur i2 hB hB3 hb3 TT
 go_wp2
 have z0 := HZ0.out
 have z1 := HZ1.out
 exact bodyPost_ret (v := .agg #[.int .i64 0, .slice a 4 cp]) (by simp [results, Tryz.f20, go_sem, z0, z1]) rfl ⟨⟨_, _, _, rfl, HP.out⟩, HBB.out⟩
set_option maxRecDepth 100000 in
set_option maxHeartbeats 2000000 in
theorem two_any (w : World) :
 Calls Tryz.prog 21 #[] w fun r w' => (∃ a n cap, r = .returned (.agg #[.int .i64 1, .slice a n cap]) ∧ Prs w' (.slice a n cap) [((1 : Int), (3 : Int)), ((2 : Int), (1 : Int)), ((3 : Int), (5 : Int)), ((4 : Int), (5 : Int)), ((5 : Int), (4 : Int))]) ∧ Below w.heap.size w w' := by
 have TT := Lib.hid (fun W => train_any 1 (.slice (some ⟨W.heap.size, 0, none⟩) 5 5) [3, 1, 5, 5, 4] (W.alloc (.cells #[.int .i64 3, .int .i64 1, .int .i64 5, .int .i64 5, .int .i64 4] 3)) (by omega) (by simp) (Ints.lit W 3 [3, 1, 5, 5, 4] 5 rfl))
 go_enter Tryz.func21, Tryz.ntmps21
 go_upto_region 1 with fail
 obtain ⟨W1, hW1⟩ : ∃ v, v = World.alloc w (Obj.cells #[.int .i64 0, .slice none 0 0] 32) := ⟨_, rfl⟩
 have kW1 : Below w.heap.size w W1 := by rw [hW1]; exact below_new _ _
 have iW1 : Blk W1 (w.heap.size) 32 [.int .i64 0, .slice none 0 0] := by rw [hW1]; exact Blk.new _ _ _
 have sW1 : W1.heap.size = w.heap.size + 1 := by rw [hW1]; simp
 rw [← hW1]
 clear hW1
 have i1 := iW1
 have k2 := below_new W1 (.cells #[.int .i64 3, .int .i64 1, .int .i64 5, .int .i64 5, .int .i64 4] 3)
 have i2 := i1.carry k2
 have hB := bthen kW1 k2
 clear iW1 sW1 kW1 i1
 go_wp2_with fail
 refine (TT.out W1).mono ?_
 rintro e w3 ⟨⟨u, rfl, hu⟩, hb3⟩
 have i3 := i2.carry hb3
 have hB3 := bthen hB hb3
 have hur : Prs w3 u [((1 : Int), (3 : Int)), ((2 : Int), (1 : Int)), ((3 : Int), (5 : Int)), ((4 : Int), (5 : Int)), ((5 : Int), (4 : Int))] := hu.rw pV_len
 obtain ⟨a, cp, rfl, -⟩ := hur.slice
 have f0 := i3.frozen 0
 have f1 := i3.frozen 1
 have g0 := i3.cell (j := 0) (v := .int .i64 0) rfl
 have g1 := i3.cell (j := 1) (v := .slice none 0 0) rfl
 have i4 := (i3.set 0 (.int .i64 1)).set 1 (.slice a 5 cp)
 have hB4 := below_setC (below_setC hB3 w.heap.size 0 (Nat.le_refl _) (.int .i64 1)) w.heap.size 1 (Nat.le_refl _) (.slice a 5 cp)
 have hu4 := own_setCellV (j := 1) (x := .slice a 5 cp) (own_setCellV (j := 0) (x := .int .i64 1) (own_baseV hu (show w.heap.size + 1 ≤ _ by have := (i2.lt); omega)) (by omega : w.heap.size < w.heap.size + 1)) (by omega : w.heap.size < w.heap.size + 1)
 have HP := Lib.hid (Rw.of_own (l := [((1 : Int), (3 : Int)), ((2 : Int), (1 : Int)), ((3 : Int), (5 : Int)), ((4 : Int), (5 : Int)), ((5 : Int), (4 : Int))]) pV_len hu4 rfl)
 have HZ0 := Lib.hid (i4.cell (j := 0) (v := .int .i64 1) rfl)
 have HZ1 := Lib.hid (i4.cell (j := 1) (v := .slice a 5 cp) rfl)
 have HBB := Lib.hid hB4
 clear i4 hB4 hu4 hu hur i2 hB hB3 hb3 TT
 go_wp2
 have z0 := HZ0.out
 have z1 := HZ1.out
 exact bodyPost_ret (v := .agg #[.int .i64 1, .slice a 5 cp]) (by simp [results, Tryz.f21, go_sem, z0, z1]) rfl ⟨⟨_, _, _, rfl, HP.out⟩, HBB.out⟩
end
end Go.Proofs.YtpmngcffkhbofaaGreatDoor

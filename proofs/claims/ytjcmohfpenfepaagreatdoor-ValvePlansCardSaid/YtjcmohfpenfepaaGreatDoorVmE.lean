/- The reference of chapter 7: all plans, by a function that calls itself. -/
import Derived.Test.YtjcmohfpenfepaaGreatDoorVmB
import Derived.Maps.AppendAt
import Derived.Laws.AppendOwnNone
namespace Go.Proofs.YtjcmohfpenfepaaGreatDoor
set_option linter.unusedSimpArgs false
set_option linter.unusedVariables false
open Go.RowKit
theorem Tryz.infZintsR : (Tryz.prog.info? 41).map (fun i => (i.zero, i.size, i.bytes)) = some (some (.slice none 0 0), 1, 24) := by kernel_rfl
theorem Tryz.undZintsR : Tryz.prog.underlying 168 = some (.slice 41) := by kernel_rfl
/-- a beginning of a plan. -/
def BOk (ms : List Mo) (os : List I3) (b : List Int) : Prop :=
 ∀ (i : Nat) (k : Int), b[i]? = some k → (0 ≤ k ∧ k < os.length) ∧ perB (os[k.toNat]?.getD (0, 0, 0)) (ms[i]?.getD noM) = true
theorem BOk.pos {ms : List Mo} {os : List I3} {b : List Int} (h : BOk ms os b) : ∀ x ∈ b, 0 ≤ x := fun x hx => by
 obtain ⟨i, hi⟩ := List.getElem?_of_mem hx
 exact (h i x hi).1.1
theorem BOk.more {ms : List Mo} {os : List I3} {b : List Int} (h : BOk ms os b) (k : Nat) (hk : k < os.length) (hp : perB (os[k]?.getD (0, 0, 0)) (ms[b.length]?.getD noM) = true) : BOk ms os (b ++ [(k : Int)]) := fun i x hx => by
 by_cases hi : i < b.length
 ·rw [List.getElem?_append_left hi] at hx
  exact h i x hx
 ·have hl : i < (b ++ [(k : Int)]).length := (List.getElem?_eq_some_iff.1 hx).1
  rw [List.length_append, List.length_singleton] at hl
  obtain rfl : i = b.length := by omega
  rw [List.getElem?_concat_length] at hx
  cases hx
  exact ⟨by omega, by rw [Int.toNat_natCast]; exact hp⟩
theorem ext_all {ms : List Mo} {os : List I3} (hm : ∀ m ∈ ms, 1 ≤ m.2.2.2 ∧ m.2.2.2 ≤ 100) (n : Nat) {b : List Int} (h : BOk ms os b) : extL ms os (n + 1) b = extK ms os n b os.length := by
 by_cases hf : fitB ms os b = true
 ·exact extL_yes hf
 ·rw [extL_no (Bool.eq_false_iff.2 hf)]
  unfold extK
  refine (List.flatMap_eq_nil_iff.2 fun k hk => ?_).symm
  split
  ·refine extL_no (Bool.eq_false_iff.2 fun h9 => hf (fit_pre hm (t := [(k : Int)]) (fun x hx => ?_) h9))
   rcases List.mem_append.1 hx with h | hx
   ·exact BOk.pos ‹BOk ms os b› x h
   ·rw [List.mem_singleton] at hx; subst hx; omega
  ·rfl
theorem ext_end {ms : List Mo} {os : List I3} {b : List Int} (h : BOk ms os b) (hl : b.length = ms.length) : (plnE ms os b = 0 → extL ms os 0 b = [b]) ∧ (plnE ms os b ≠ 0 → extL ms os 0 b = []) :=
 ⟨fun h9 => extL_end (plnE_iff.1 h9).fit, fun h9 => extL_no (Bool.eq_false_iff.2 fun hf => h9 (plnE_iff.2 ⟨hl, h, hf⟩))⟩
theorem extK_cnt {ms : List Mo} {os : List I3} {n : Nat} (h : ∀ b, (extL ms os n b).length ≤ 6 ^ n) (b : List Int) : ∀ k, (extK ms os n b k).length ≤ k * 6 ^ n
 | 0 => by simp [extK]
 | k + 1 => by
   rw [extK_succ, List.length_append, Nat.succ_mul]
   refine Nat.add_le_add (extK_cnt h b k) ?_
   split
   ·exact h _
   ·simp
theorem extL_cnt {ms : List Mo} {os : List I3} (ho : os.length ≤ 6) : ∀ (n : Nat) (b : List Int), (extL ms os n b).length ≤ 6 ^ n
 | 0, b => by unfold extL; split <;> simp
 | n + 1, b => by
   by_cases hf : fitB ms os b = true
   ·rw [extL_yes hf]
    refine Nat.le_trans (extK_cnt (extL_cnt ho n) b os.length) ?_
    rw [Nat.pow_succ, Nat.mul_comm (6 ^ n)]
    exact Nat.mul_le_mul_right _ ho
   ·rw [extL_no (Bool.eq_false_iff.2 hf)]; simp
/-- rows of rows, laid by the call itself. -/
def OwP (H : Nat) (W : World) (u : Value) (L : List (List Int)) : Prop :=
 ∃ vs : List Value, W.ownsRow H 41 1 u L.length vs ∧ vs.length = L.length ∧ ∀ (k : Nat) (v : Value) (x : List Int), vs[k]? = some v → L[k]? = some x → OwnI 3 0 W v x
theorem OwP.carry {H : Nat} {W W' : World} {u : Value} {L : List (List Int)} (h : OwP H W u L) (hb : Below W.heap.size W W') : OwP H W' u L := by
 obtain ⟨vs, h1, h2, h3⟩ := h
 exact ⟨vs, own_below h1 hb, h2, fun k v x a b => (h3 k v x a b).carry hb⟩
theorem OwP.nil (H : Nat) (W : World) : OwP H W (.slice none 0 0) [] := ⟨[], World.ownsRow_nil _ _ _ _, rfl, fun k v x a _ => by simp at a⟩
/-- blocks of other types. -/
theorem own_apart {W W' : World} {B H n : Nat} {v u : Value} {x : List Int} {vs : List Value} (h : OwnI 3 B W v x) (hu : W.ownsRow H 41 1 u n vs) (hg : W.grownBy W' u.ownBlock) : OwnI 3 B W' v x := by
 refine World.ownsRow.kept h hg ?_
 rcases h.2 with ⟨rfl, -⟩ | ⟨g, cap, cur, rfl, -, hh, -⟩
 ·exact .inl rfl
 ·refine .inr fun e => ?_
  rcases hu.2 with ⟨rfl, -⟩ | ⟨g', cap', cur', rfl, -, hh', -⟩
  ·cases e
  ·simp only [Value.ownBlock, Option.some.injEq] at e
   subst e
   rw [hh] at hh'
   simp only [Option.some.injEq, Obj.cells.injEq] at hh'
   exact absurd hh'.2.1 (by decide)
theorem OwP.join {H : Nat} {W W' : World} {u u' : Value} {L L2 : List (List Int)} {vs vs2 : List Value} {n : Nat} (h2 : vs.length = L.length) (h3 : ∀ (k : Nat) (v : Value) (x : List Int), vs[k]? = some v → L[k]? = some x → OwnI 3 0 W v x)
 (hu : W.ownsRow H 41 1 u n vs) (g2 : vs2.length = L2.length) (g3 : ∀ (k : Nat) (v : Value) (x : List Int), vs2[k]? = some v → L2[k]? = some x → OwnI 3 0 W v x)
 (hg : W.grownBy W' u.ownBlock) (hown : W'.ownsRow H 41 1 u' (L.length + L2.length) (vs ++ vs2)) : OwP H W' u' (L ++ L2) := by
 refine ⟨vs ++ vs2, by rw [List.length_append]; exact hown, by simp [h2, g2], fun k v x a b => ?_⟩
 refine own_apart ?_ hu hg
 by_cases hk : k < vs.length
 ·rw [List.getElem?_append_left hk] at a
  rw [List.getElem?_append_left (by omega)] at b
  exact h3 k v x a b
 ·rw [List.getElem?_append_right (by omega)] at a
  rw [List.getElem?_append_right (by omega), ← h2] at b
  exact g3 _ v x a b
/-- a list of ints copied by append to an empty slice of the call's own. -/
theorem wpList_copyI {rest : List Oper} {ops : Array Oper} {o : Oper} {a : Act} {w : World} {Q : Exit → Act → World → Prop} (hgd : o.guard = none) (s x : Operand)
 (ho : o.op = .call { callee := .builtin .append, args := #[s, x], argTypes := #[41, 41] })
 (g base : Nat) (hs : a.eval s = .slice (some ⟨g, 0, none⟩) 0 0) (hG : w.heap[g]? = some (.cells #[] 3 (0, 0))) (hb : base ≤ g) (v : Value) (l : List Int) (hx : a.eval x = v) (hv : Ints w v l) (hl : l.length ≤ 1000000)
 (h : ∀ u w', OwnI 3 base w' u l → Below w.heap.size w w' → wpList Tryz.prog ops Q rest (a.put o.dst u) w') : wpList Tryz.prog ops Q (o :: rest) a w := by
 obtain ⟨i0, hi, hz0, hz1, hz2⟩ := info_parts Tryz.infZint
 refine wpList_plain hgd fun K hK => ?_
 have hgl : g < w.heap.size := (Array.getElem?_eq_some_iff.1 hG).1
 rcases Nat.eq_zero_or_pos l.length with h0 | h0
 ·obtain rfl : l = [] := List.length_eq_zero_iff.1 h0
  obtain ⟨xa, c, rfl, -⟩ := hv
  have hr := run_append_empty (P := Tryz.prog) w 41 41 o.type _ _ i0 _ Tryz.undZint Tryz.undZint hi hz0 g 0 xa c
  unfold Oper.wp execOp
  simp only [ho, resolve, invoke, builtin, Sem.run_bind, Sem.run_pure, Result.andThen_ok, List.map_toArray, List.map_cons, List.map_nil, hs, hx, List.length_nil, hr]
  exact hK _ _ (h _ _ ⟨rfl, .inr ⟨g, 0, #[], rfl, hb, hG, Nat.le_refl _, by simp, rfl, rfl⟩⟩ (Below.refl _ _))
 ·refine wp_append_freshO s x _ _ _ ho i0 _ 1 8 Tryz.undZint hi hz0 hz1 hz2 rfl g 0 hs _ l.length _ hx (hv.src Tryz.undZint h0) h0 (by unfold maxLen; omega) (by omega) (fun u w' hown hb2 => hK _ _ (h u w' (OwnI.base hown (by omega)) hb2))
set_option maxRecDepth 100000 in
set_option maxHeartbeats 8000000 in
theorem plansR_any (vm vo : Value) (ms : List Mo) (os : List I3) (hml : ms.length ≤ 8) (hol : os.length ≤ 6) (hmr : ∀ m ∈ ms, 1 ≤ m.2.2.2 ∧ m.2.2.2 ≤ 100) : ∀ (n : Nat) (b : List Int) (vb : Value) (w : World), b.length + n = ms.length → BOk ms os b → Rw 4 mV w vm ms → Rw 3 iV w vo os → OwnI 3 0 w vb b →
 Calls Tryz.prog 102 #[vm, vo, vb] w fun r w' => (∃ u, r = .returned u ∧ OwP w.heap.size w' u (extL ms os n b)) ∧ Below w.heap.size w w' := by
 obtain ⟨i0, hi, hz0, hz1, hz2⟩ := info_parts Tryz.infZint
 obtain ⟨i1, hi1, hy0, hy1, hy2⟩ := info_parts Tryz.infZintsR
 intro n
 induction n with
 | zero =>
   intro b vb w hlen hbk hm ho hown
   rw [Nat.add_zero] at hlen
   obtain ⟨hE0, hE1⟩ := ext_end hbk hlen
   have TC := Lib.hid (fun W hm ho hp => CheckPlanR_any vm vo vb ms os b W (by omega) (by omega) (by omega) hmr hm ho hp)
   obtain ⟨E, hE⟩ : ∃ e, e = plnE ms os b := ⟨_, rfl⟩
   obtain ⟨R, hR⟩ : ∃ e, e = extL ms os 0 b := ⟨_, rfl⟩
   rw [← hE] at hE0 hE1 TC
   rw [← hR] at hE0 hE1 ⊢
   have T1 := TC.out w hm ho hown.ints
   obtain ⟨ma, mc, rfl, -⟩ := hm.slice
   obtain ⟨ba, bc, rfl⟩ := own_slice hown
   obtain ⟨NM, hNM⟩ : ∃ N, N = ms.length := ⟨_, rfl⟩
   obtain ⟨NB, hNB⟩ : ∃ N, N = b.length := ⟨_, rfl⟩
   rw [← hNM] at T1 ⊢
   rw [← hNB] at T1 hown ⊢
   have z0 : ((NB : Int) == (NM : Int)) = true := by rw [beq_iff_eq]; omega
   have HOWN := Lib.hid hown
   have HNB := Lib.hid hNB
   have HE0 := Lib.hid hE0
   have HE1 := Lib.hid hE1
   clear hm ho hown hE hR hNM hNB hE0 hE1 TC hlen hbk hml hol hmr
   go_enter Tryz.func102, Tryz.ntmps102
   go_wp2_with fail
   refine T1.mono ?_
   rintro e W2 ⟨rfl, hb⟩
   clear T1
   by_cases h0 : E = 0
   ·have z1 : (E != 0) = false := by rw [h0]; rfl
    have hR := HE0.out h0
    subst hR
    clear h0 HE0 HE1
    go_wp2
    go_ret
    have hk := below_new W2 (.cells #[.slice ba NB bc] 41)
    refine ⟨⟨_, rfl, [.slice ba NB bc], ⟨rfl, .inr ⟨W2.heap.size, 1, _, rfl, hb.size, World.alloc_heap_new W2 _, Nat.le_refl _, by unfold maxLen; omega, rfl, rfl⟩⟩, rfl, fun k v x h1 h2 => ?_⟩, bthen hb hk⟩
    cases k with
    | zero =>
      cases h1
      cases h2
      have := (HOWN.out.carry hb).carry hk
      exact this
    | succ k => cases h1
   ·have z1 : (E != 0) = true := by simpa using h0
    have hR := HE1.out h0
    subst hR
    clear h0 HE0 HE1
    go_wp2
    go_ret
    exact ⟨⟨_, rfl, OwP.nil _ _⟩, hb⟩
 | succ n ih =>
   intro b vb w hlen hbk hm ho hown
   have HM := Lib.hid hm
   have HO := Lib.hid ho
   have HOWN := Lib.hid hown
   have IH := Lib.hid ih
   have HX := Lib.hid (ext_all hmr n hbk)
   have HBM := Lib.hid (fun k hk hp => hbk.more k hk hp)
   have hcnt := extL_cnt (ms := ms) hol n
   have HC := Lib.hid (fun k => extK_cnt hcnt b k)
   have HC1 := Lib.hid (fun b => hcnt b)
   have h6 : 6 ^ n ≤ 6 ^ 8 := Nat.pow_le_pow_right (by decide) (by omega)
   have h6 : 6 ^ n ≤ 1679616 := h6
   have HS := Lib.hid (extK_succ ms os n b)
   have HL9 := Lib.hid (show ∀ k : Int, (b ++ [k]).length + n = ms.length from fun k => by rw [List.length_append, List.length_singleton]; omega)
   have hmn : b.length < ms.length := by omega
   obtain ⟨m, hmk⟩ : ∃ m, ms[b.length]? = some m := ⟨_, List.getElem?_eq_getElem hmn⟩
   rw [hmk, Option.getD_some] at HBM
   have HS : Hid (∀ k, extK ms os n b (k + 1) = extK ms os n b k ++ (if perB (os[k]?.getD (0, 0, 0)) m = true then extL ms os n (b ++ [(k : Int)]) else [])) := Lib.hid (fun k => by have h8 := HS.out k; rw [hmk, Option.getD_some] at h8; exact h8)
   have HMK := Lib.hid hmk
   obtain ⟨ma, mc, rfl, -⟩ := hm.slice
   obtain ⟨oa, oc, rfl, -⟩ := ho.slice
   obtain ⟨ba, bc, rfl⟩ := own_slice hown
   obtain ⟨NM, hNM⟩ : ∃ N, N = ms.length := ⟨_, rfl⟩
   obtain ⟨NO, hNO⟩ : ∃ N, N = os.length := ⟨_, rfl⟩
   obtain ⟨NB, hNB⟩ : ∃ N, N = b.length := ⟨_, rfl⟩
   obtain ⟨P6, hP6⟩ : ∃ p, p = 6 ^ n := ⟨_, rfl⟩
   rw [← hP6] at h6 HC HC1
   rw [← hNM] at HM IH hml hmn ⊢
   rw [← hNO] at HO IH hol HX HBM ⊢
   rw [← hNB] at HOWN HMK hmn ⊢
   have HNM := Lib.hid hNM
   have HNO := Lib.hid hNO
   have HNB := Lib.hid hNB
   have z0 : ((NB : Int) == (NM : Int)) = false := by rw [beq_eq_false_iff_ne]; omega
   have hdm : (NB : Int) < (NM : Int) := by omega
   clear hm ho hown hNM hNO hNB hP6 hcnt hmk hlen hbk hmr ih
   go_enter Tryz.func102, Tryz.ntmps102
   go_wp2_with fail
   go_loopw [7, 8] (fun u i wr => ∃ k : Nat, k ≤ NO ∧ i = .int .i64 k ∧ OwP w.heap.size wr u (extK ms os n b k) ∧ Below w.heap.size w wr) (fun _ i _ => NO - (intOf i).toNat)
   case atStart => exact ⟨0, by omega, rfl, by simpa [extK] using OwP.nil _ _, Below.refl _ _⟩
   case round =>
    obtain ⟨k, hk, rfl, hop, hbel⟩ := hrel
    by_cases hlt : k < NO
    ·have hdk : (k : Int) < (NO : Int) := by omega
     obtain ⟨x, hx⟩ : ∃ x, os[k]? = some x := ⟨_, List.getElem?_eq_getElem (by rw [← HNO.out]; exact hlt)⟩
     have hs := HS.out k
     rw [hx, Option.getD_some] at hs
     have hbm := HBM.out k hlt
     rw [hx, Option.getD_some] at hbm
     obtain ⟨mb, mo, mcap, hme, hmcs⟩ := (HM.out.carry hbel).head (by rw [← HNM.out]; omega)
     simp only [Value.slice.injEq] at hme
     obtain ⟨rfl, -, rfl⟩ := hme
     obtain ⟨m0, m1, m2, m3⟩ := rw4 (hmcs NB m HMK.out) (show mV m = [.string m.1, .int .i64 m.2.1, .int .i64 m.2.2.1, .int .i64 m.2.2.2] from rfl)
     obtain ⟨ob, oo, ocap, he, hcs⟩ := (HO.out.carry hbel).head (by rw [← HNO.out]; omega)
     simp only [Value.slice.injEq] at he
     obtain ⟨rfl, -, rfl⟩ := he
     obtain ⟨c0, c1, c2⟩ := rw3 (hcs k x hx) (show iV x = [.int .i64 x.1, .int .i64 x.2.1, .int .i64 x.2.2] from rfl)
     have TI := Lib.hid (fun W => IsPermitted_any x.1 x.2.1 x.2.2 m.1 m.2.1 m.2.2.1 m.2.2.2 W)
     obtain ⟨pb2, hpb⟩ : ∃ b, b = perB x m := ⟨_, rfl⟩
     have TI2 : Hid (∀ W, Calls Tryz.prog 101 #[.agg #[.string m.1, .int .i64 m.2.1, .int .i64 m.2.2.1, .int .i64 m.2.2.2], .agg #[.int .i64 x.1, .int .i64 x.2.1, .int .i64 x.2.2]] W fun r w' => r = .returned (.bool pb2) ∧ Below W.heap.size W w') := by rw [hpb]; exact TI
     rw [← hpb] at hs hbm
     obtain ⟨z0', hz0'⟩ : ∃ z, z = m.1 := ⟨_, rfl⟩
     obtain ⟨z1, hz1'⟩ : ∃ z, z = m.2.1 := ⟨_, rfl⟩
     obtain ⟨z2, hz2'⟩ : ∃ z, z = m.2.2.1 := ⟨_, rfl⟩
     obtain ⟨z3, hz3'⟩ : ∃ z, z = m.2.2.2 := ⟨_, rfl⟩
     rw [← hz0', ← hz1', ← hz2', ← hz3'] at TI2
     rw [← hz0'] at m0
     rw [← hz1'] at m1
     rw [← hz2'] at m2
     rw [← hz3'] at m3
     obtain ⟨y0, hy0'⟩ : ∃ z, z = x.1 := ⟨_, rfl⟩
     obtain ⟨y1, hy1'⟩ : ∃ z, z = x.2.1 := ⟨_, rfl⟩
     obtain ⟨y2, hy2'⟩ : ∃ z, z = x.2.2 := ⟨_, rfl⟩
     rw [← hy0', ← hy1', ← hy2'] at TI2
     rw [← hy0'] at c0
     rw [← hy1'] at c1
     rw [← hy2'] at c2
     have HS1 := Lib.hid hs
     have HBM1 := Lib.hid hbm
     have HOP := Lib.hid hop
     have HBEL := Lib.hid hbel
     clear hs hbm hx hpb TI hmcs hcs hz0' hz1' hz2' hz3' hy0' hy1' hy2' hop
     go_upto_region 9 with fail
     refine wp_region_E 99 (by kernel_rfl) ?_
     obtain ⟨wz, hwz⟩ : ∃ v, v = wr.drew := ⟨_, rfl⟩
     rw [← hwz]
     have hlz : Below wr.heap.size wr wz := by rw [hwz]; exact (Below.refl _ _).drew
     have hbz := bthen (Below.refl _ _) hlz
     have c0 := cellb c0 hlz
     have c1 := cellb c1 hlz
     have c2 := cellb c2 hlz
     have m0 := cellb m0 hlz
     have m1 := cellb m1 hlz
     have m2 := cellb m2 hlz
     have m3 := cellb m3 hlz
     clear hwz hlz
     refine zV 0 ⟨some 27, .move (.tmp 0), 48, "ref.go:539", #[], none⟩ rfl ?_
     simp only [Act.put, zS]
     refine zV 1 ⟨some 28, .move (.tmp 2), 41, "ref.go:539", #[], none⟩ rfl ?_
     simp only [Act.put, zS]
     refine zV 2 ⟨some 29, .call ⟨.builtin .len, #[.tmp 28], #[41]⟩, 3, "ref.go:539", #[⟨1, .data⟩], none⟩ rfl ?_ (hv := fun w hE => by have c0 := cellb c0 hE; have c1 := cellb c1 hE; have c2 := cellb c2 hE; have m0 := cellb m0 hE; have m1 := cellb m1 hE; have m2 := cellb m2 hE; have m3 := cellb m3 hE; (try dsimp only); go_simp; try rfl)
     simp only [Act.put, zS]
     refine zV 3 ⟨some 30, .indexAddr 48 (.tmp 27) (.tmp 29), 0, "ref.go:539", #[⟨0, .data⟩, ⟨2, .data⟩], none⟩ rfl ?_
     simp only [Act.put, zS]
     refine zV 4 ⟨some 31, .load 143 (.tmp 30), 143, "ref.go:539", #[⟨3, .data⟩], none⟩ rfl ?_ (hv := fun w hE => by have c0 := cellb c0 hE; have c1 := cellb c1 hE; have c2 := cellb c2 hE; have m0 := cellb m0 hE; have m1 := cellb m1 hE; have m2 := cellb m2 hE; have m3 := cellb m3 hE; (try dsimp only); go_simp; try rfl)
     simp only [Act.put, zS]
     refine zV 5 ⟨some 32, .move (.tmp 1), 49, "ref.go:539", #[], none⟩ rfl ?_
     simp only [Act.put, zS]
     refine zV 6 ⟨some 33, .move (.tmp 8), 3, "ref.go:539", #[], none⟩ rfl ?_
     simp only [Act.put, zS]
     refine zV 7 ⟨some 34, .indexAddr 49 (.tmp 32) (.tmp 33), 0, "ref.go:539", #[⟨5, .data⟩, ⟨6, .data⟩], none⟩ rfl ?_
     simp only [Act.put, zS]
     refine zV 8 ⟨some 35, .load 88 (.tmp 34), 88, "ref.go:539", #[⟨7, .data⟩], none⟩ rfl ?_ (hv := fun w hE => by have c0 := cellb c0 hE; have c1 := cellb c1 hE; have c2 := cellb c2 hE; have m0 := cellb m0 hE; have m1 := cellb m1 hE; have m2 := cellb m2 hE; have m3 := cellb m3 hE; (try dsimp only); go_simp; try rfl)
     simp only [Act.put, zS]
     refine zB 9 ⟨some 36, .call ⟨.value (.func 101), #[.tmp 31, .tmp 35], #[143, 88]⟩, 4, "ref.go:539", #[⟨4, .data⟩, ⟨8, .data⟩], none⟩ (fun w hE => TI2.out w) rfl ?_
     simp only [Act.put, zS]
     refine wpAnyE_done (by kernel_rfl) (fun wy1 hE => ?_) _
     have hbz1 := bthen hbz hE
     have c0 := cellb c0 hE
     have c1 := cellb c1 hE
     have c2 := cellb c2 hE
     have m0 := cellb m0 hE
     have m1 := cellb m1 hE
     have m2 := cellb m2 hE
     have m3 := cellb m3 hE
     clear hE
     have hb2 := hbz1
     obtain ⟨W9, hW9⟩ : ∃ v, v = wy1 := ⟨_, rfl⟩
     rw [← hW9] at hb2 c2 ⊢
     clear hW9
     clear c0 c1 c2 m0 m1 m2 m3 TI2
     have hop := HOP.out.carry hb2
     have HB9 := Lib.hid (bthen HBEL.out hb2)
     clear hbel HOP HBEL hb2
     cases pb2 with
     | false =>
       have hs := HS1.out
       rw [if_neg (by decide), List.append_nil] at hs
       rw [← hs] at hop
       have HOP := Lib.hid hop
       clear hs HS1 HBM1 hop
       go_wp2
       go_roundw
       case rel => exact ⟨k + 1, by omega, by go_num, HOP.out, HB9.out⟩
       case measure => simp [intOf]; omega
     | true =>
       have hs := HS1.out
       rw [if_pos rfl] at hs
       have HS2 := Lib.hid hs
       have HBK := Lib.hid (HBM1.out rfl)
       have hob := HOWN.out.carry HB9.out
       have hoi := hob.ints
       have hnb1 : b.length ≤ 8 := by rw [← HNB.out]; omega
       clear hs HS1 HBM1
       go_wp2_with (at_builtin; first | (refine wpList_copyI rfl (.tmp 40) (.tmp 41) rfl W9.heap.size W9.heap.size rfl (World.alloc_heap_new W9 _) (Nat.le_refl _) _ b rfl (hoi.carry (below_new _ _)) (by omega) ?_; intro u w2 hu hbu) | (refine wpList_append_own _ rfl (.tmp 42) (.tmp 44) 41 rfl W9.heap.size 3 i0 (.int .i64 0) 1 8 Tryz.undZint hi hz0 hz1 hz2 rfl (by decide) u b.length _ rfl (own_below hu (below_new _ _)) ⟨w2.heap.size, 0, none⟩ 1 1 [.int .i64 (k : Int)] rfl rfl (cell_one_new _ _ _) (by simp [Value.oneCell']) (by unfold maxLen; omega) (by omega) (by have := hbu.size; simp at this ⊢; omega) ?_; intro v9 w9 hown9 hgrow9 _))
       have hb3 : Below W9.heap.size W9 w9 := ((bthen (below_new W9 (.cells #[] 3)) hbu).trans ((below_new w2 (.cells #[.int .i64 (k : Int)] 3)).mono (by have := hbu.size; simp at this; omega))).trans (below_grow (own_below hu (below_new _ _)) (by have := hbu.size; simp at this ⊢; omega) hgrow9)
       have hown10 : OwnI 3 0 w9 v9 (b ++ [(k : Int)]) := OwnI.base (base := W9.heap.size) (by unfold OwnI; rw [List.length_append, List.length_singleton, List.map_append]; exact hown9) (Nat.zero_le _)
       have HB3 := Lib.hid (bthen HB9.out hb3)
       replace hop := hop.carry hb3
       clear hown9 hgrow9 hu hbu hob hoi hb3
       refine (IH.out (b ++ [(k : Int)]) v9 w9 (by rw [HNM.out]; exact HL9.out _) HBK.out (HM.out.carry HB3.out) (HO.out.carry HB3.out) hown10).mono ?_
       rintro e w10 ⟨⟨u2, rfl, hop2⟩, hb10⟩
       have hc1 := HC.out k
       have hc2 := HC1.out (b ++ [(k : Int)])
       obtain ⟨L1, hL1⟩ : ∃ l, l = extK ms os n b k := ⟨_, rfl⟩
       obtain ⟨L2, hL2⟩ : ∃ l, l = extL ms os n (b ++ [(k : Int)]) := ⟨_, rfl⟩
       have hs := HS2.out
       rw [← hL1, ← hL2] at hs
       rw [← hL1] at hc1 hop
       rw [← hL2] at hc2 hop2
       have hc3 : k * P6 ≤ 6 * 1679616 := Nat.mul_le_mul (by omega) h6
       have HS3 := Lib.hid hs
       have HB10 := Lib.hid (bthen HB3.out hb10)
       have hs10 := HB10.out.size
       replace hop := hop.carry hb10
       clear hs HS2 HB3 hb10 hL1 hL2 HBK hown10
       obtain ⟨vs2, g1, g2, g3⟩ := hop2
       rcases id g1.2 with ⟨rfl, h0⟩ | ⟨g, cap, cur, rfl, -⟩
       ·obtain rfl : L2 = [] := List.length_eq_zero_iff.1 h0
        have HOP3 : Hid (OwP w.heap.size w10 u7 (extK ms os n b (k + 1))) := Lib.hid (by rw [HS3.out, List.append_nil]; exact hop)
        obtain ⟨vs1, q1, q2, q3⟩ := hop
        clear g1 g2 g3 q3 h0 HS3
        go_wp2_with (at_builtin; refine wpList_append_own_none rfl (.tmp 37) (.tmp 46) 168 rfl w.heap.size 41 i1 1 Tryz.undZintsR hi1 u7 L1.length vs1 rfl q1 rfl ?_)
        go_roundw
        case rel => exact ⟨k + 1, by omega, by go_num, HOP3.out, HB10.out⟩
        case measure => simp [intOf]; omega
       ·obtain ⟨vs1, q1, q2, q3⟩ := hop
        have hone : ∀ x ∈ vs2, x.oneCell' = true := fun x hx => by
         obtain ⟨j, hj⟩ := List.getElem?_of_mem hx
         obtain ⟨y, hy⟩ : ∃ y, L2[j]? = some y := ⟨_, List.getElem?_eq_getElem (by have := (List.getElem?_eq_some_iff.1 hj).1; omega)⟩
         obtain ⟨a9, c9, rfl⟩ := own_slice (g3 j x y hj hy)
         rfl
        have Q3 := Lib.hid q3
        have G3 := Lib.hid g3
        have HONE := Lib.hid hone
        clear q3 g3 hone
        go_wp2_with (at_builtin; refine wpList_append_own _ rfl (.tmp 37) (.tmp 46) 168 rfl w.heap.size 41 i1 (.slice none 0 0) 1 24 Tryz.undZintsR hi1 hy0 hy1 hy2 rfl (by decide) u7 L1.length vs1 rfl q1 ⟨g, 0, none⟩ L2.length cap vs2 rfl (by omega) (fun j x hj => World.ownsRow.cells g1 rfl j x hj) HONE.out (by unfold maxLen; omega) (by omega) hs10 ?_; intro v11 w11 hown11 hgrow11 _)
        have HOP3 : Hid (OwP w.heap.size w11 v11 (extK ms os n b (k + 1))) := Lib.hid (by rw [HS3.out]; exact OwP.join q2 Q3.out q1 g2 G3.out hgrow11 hown11)
        have HB11 := Lib.hid (HB10.out.trans (below_grow q1 hs10 hgrow11))
        clear hown11 hgrow11 q1 q2 g1 g2 HS3
        go_wp2
        go_roundw
        case rel => exact ⟨k + 1, by omega, by go_num, HOP3.out, HB11.out⟩
        case measure => simp [intOf]; omega
    ·obtain rfl : k = NO := by omega
     have hdk : ¬ (k : Int) < (k : Int) := by omega
     rw [← HX.out] at hop
     have HOP := Lib.hid hop
     clear hop
     go_wp2
     go_ret
     exact ⟨⟨_, rfl, HOP.out⟩, hbel⟩
end Go.Proofs.YtjcmohfpenfepaaGreatDoor

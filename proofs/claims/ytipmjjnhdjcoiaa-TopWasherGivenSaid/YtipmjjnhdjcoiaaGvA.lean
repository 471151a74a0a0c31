/- Package flow: joining, sorting, searching, mapping of orders and steps: contracts of valve's texts turned to flow's types. Printed by gen/gvw.py A. -/
import Derived.Test.YtipmjjnhdjcoiaaGvW
namespace Go.Proofs.Ytipmjjnhdjcoiaa
set_option linter.unusedSimpArgs false
set_option linter.unusedVariables false
open Go.RowKit Go.Maps Go.Sort Go.ChangeShapes
attribute [local go_sem] Oper.semAt_some

abbrev S4 : Type := Int × Int × Int × Int
def s4V (x : S4) : List Value := [.int .i64 x.1, .int .i64 x.2.1, .int .i64 x.2.2.1, .int .i64 x.2.2.2]
theorem s4V_len (x : S4) : (s4V x).length = 4 := rfl
theorem Try.infZflowOrder : (Try.prog.info? 34).map (fun i => (i.zero, i.size, i.bytes)) = some (some (.agg #[.int .i64 0, .int .i64 0]), 2, 16) := by kernel_rfl
theorem Try.undZflowOrder : Try.prog.underlying 31 = some (.slice 34) := by kernel_rfl
theorem Try.infZErr : (Try.prog.info? 36).map (fun i => (i.zero, i.size, i.bytes)) = some (some (.int .i64 0), 1, 8) := by kernel_rfl
theorem Try.undZErr : Try.prog.underlying 82 = some (.slice 36) := by kernel_rfl
set_option maxRecDepth 100000 in
set_option maxHeartbeats 2000000 in
theorem Grow_nil (n : Nat) (w : World) (hn : n ≤ 1000000) :
    Calls Try.prog 55 #[.slice none 0 0, .int .i64 n] w fun r w' => (∃ u, r = .returned u ∧ w'.ownsRow w.heap.size 34 2 u 0 ([] : List Value)) ∧ Below w.heap.size w w' := by
  rcases Nat.eq_zero_or_pos n with h0 | h0
  · subst h0
    go_enter Try.func55, Try.ntmps55
    go_wp2
    go_ret
    exact ⟨⟨_, rfl, World.ownsRow_nil _ _ _ _⟩, Below.refl _ _⟩
  · obtain ⟨i0, hi, hz0, hz1, hz2⟩ := info_parts Try.infZflowOrder
    have hti : Try.prog.underlying 3 = some (.int .i64) := Try.underlying3
    have hold : (Builtin.firstCells i0.size 0 (.slice none 0 0)).run Try.prog w.drew = .ok ([] : List Value).toArray w.drew := run_firstCells_none w.drew i0.size 0 0 0
    have hnc : Builtin.nextslicecap (0 + n) 0 = n := by rw [Nat.zero_add]; exact nextslicecap_zero h0
    have hrz : ∀ ty, (Builtin.append_ #[31, 3] ty #[.slice none 0 0, .int .i64 n]).run Try.prog w = _ := fun ty => Lib.run_append_grow_zeros w 31 3 ty 34 i0 _ .i64 .i64 Try.undZflowOrder hti hi hz0 none 0 0 [] hold n h0 (by rw [hz1]; decide) (by omega) (by omega) (by rw [hz2]; omega) (by rw [hnc, hz2]; omega)
    rw [Nat.zero_add] at hrz
    obtain ⟨C, hC⟩ : ∃ C, C = grownCap w n 0 34 := ⟨_, rfl⟩
    have hCn : n ≤ C := by rw [hC]; exact grownCap_ge w _ _ _
    have hCm : C ≤ maxLen := by rw [hC]; exact grownCap_le_maxLen w n 0 _ (by unfold maxLen; omega)
    rw [← hC] at hrz
    obtain ⟨W, hW⟩ : ∃ W, W = (w.drew.alloc (.cells (([] : List Value).toArray ++ Builtin.zeroCells (Value.agg #[.int .i64 0, .int .i64 0]).cells n ++ Builtin.zeroCells (Value.agg #[.int .i64 0, .int .i64 0]).cells (C - n)) 34)) := ⟨_, rfl⟩
    have hown : W.ownsRow w.heap.size 34 2 (.slice (some ⟨w.heap.size, 0, none⟩) 0 C) 0 [] := by
      refine ⟨rfl, .inr ⟨w.heap.size, C, _, rfl, Nat.le_refl _, by rw [hW]; exact heap_alloc_new w.drew _, by omega, hCm, ?_, ?_⟩⟩
      · simp [size_zeroCells, Value.cells]; omega
      · simp
    have hbel : Below w.heap.size w W := by rw [hW]; exact (Below.refl _ _).drew.alloc (Nat.le_refl _) _
    rw [← hW] at hrz
    unfold maxLen at hCm
    clear hW hC hold hnc hi hz0 hz1 hz2 hti
    have h1 : ¬ ((n : Int) < 0) := by omega
    have h4 : (0 : Int) < (n : Int) := by omega
    go_enter Try.func55, Try.ntmps55
    go_wp2_with (at_builtin; refine Lib.wpList_append_run _ rfl _ _ _ _ rfl _ _ rfl rfl _ _ (hrz _) ?_)
    all_goals (go_ret; exact ⟨⟨_, rfl, hown⟩, hbel⟩)
/-- what has been joined after k lists of two. -/
def catK (l1 l2 : List P2) : Nat → List P2
  | 0 => []
  | 1 => l1
  | _ => l1 ++ l2
set_option maxRecDepth 100000 in
set_option maxHeartbeats 4000000 in
theorem Concat2_any (B : Nat) (a1 a2 : Option Addr) (n1 c1 n2 c2 : Nat) (l1 l2 : List P2) (w : World) (h0 : w.cell? ⟨B, 0, none⟩ = some (.slice a1 n1 c1)) (h1 : w.cell? ⟨B, 1, none⟩ = some (.slice a2 n2 c2)) (hv1 : Prs w (.slice a1 n1 c1) l1) (hv2 : Prs w (.slice a2 n2 c2) l2) (hl : n1 + n2 ≤ 1000000) :
    Calls Try.prog 21 #[.slice (some ⟨B, 0, none⟩) 2 2] w fun r w' => (∃ u, r = .returned u ∧ w'.ownsRow w.heap.size 34 2 u (l1 ++ l2).length ((l1 ++ l2).flatMap pV)) ∧ Below w.heap.size w w' := by
  have TG := Lib.hid (fun W => Grow_nil (n1 + n2) W hl)
  have HN1 := Lib.hid hv1.len
  have HN2 := Lib.hid hv2.len
  obtain ⟨i0, hi, hz0, hz1, hz2⟩ := info_parts Try.infZflowOrder
  have HV1 := Lib.hid hv1
  have HV2 := Lib.hid hv2
  clear hv1 hv2
  have q1 : IntKind.i64.wrap ((n1 : Int) + (n2 : Int)) = (n1 : Int) + (n2 : Int) := IntWalk.i64_in _ (by omega)
  have q2 : ((n1 + n2 : Nat) : Int) = (n1 : Int) + (n2 : Int) := by push_cast; rfl
  rw [q2] at TG
  clear q2
  go_enter Try.func21, Try.ntmps21
  go_wp2_with fail
  go_loopw [3, 11] (fun s i wr => wr = w ∧ ((s = .int .i64 0 ∧ i = .int .i64 0) ∨ (s = .int .i64 n1 ∧ i = .int .i64 1) ∨ (s = .int .i64 ((n1 : Int) + (n2 : Int)) ∧ i = .int .i64 2))) (fun _ i _ => 2 - (intOf i).toNat)
  case atStart => exact ⟨rfl, .inl ⟨rfl, rfl⟩⟩
  case round =>
    obtain ⟨hw, hr⟩ := hrel
    replace hw := hw.symm
    subst hw
    rcases hr with ⟨rfl, rfl⟩ | ⟨rfl, rfl⟩ | ⟨rfl, rfl⟩
    · go_wp2
      go_roundw
      case rel => exact ⟨by trivial, .inr (.inl ⟨by simp, by go_num⟩)⟩
      case measure => simp [intOf]
    · go_wp2
      go_roundw
      case rel => exact ⟨by trivial, .inr (.inr ⟨by simp, by go_num⟩)⟩
      case measure => simp [intOf]
    · go_wp2_with fail
      refine (TG.out w).mono ?_
      rintro e w2 ⟨⟨u, rfl, hu⟩, hb2⟩
      go_wp2_with fail
      go_loopw [6, 27] (fun u i wx => ∃ k : Nat, k ≤ 2 ∧ i = .int .i64 k ∧ wx.ownsRow w.heap.size 34 2 u (catK l1 l2 k).length ((catK l1 l2 k).flatMap pV) ∧ Below w.heap.size w wx) (fun _ i _ => 2 - (intOf i).toNat)
      case atStart => exact ⟨0, by omega, rfl, hu, hb2⟩
      case round =>
        clear hu hb2 TG
        obtain ⟨k, hk, rfl, hown, hbel⟩ := hrel
        obtain rfl | rfl | rfl : k = 0 ∨ k = 1 ∨ k = 2 := by omega
        · have hcx := cellb h0 hbel
          obtain ⟨sa, sc, rfl⟩ := own_slice hown
          obtain ⟨-, hcap, hcm⟩ := own_cap hown
          rcases Nat.eq_zero_or_pos n1 with hz | hz
          · have hle : l1 = [] := List.length_eq_zero_iff.1 (by rw [← HN1.out]; exact hz)
            have HZ := Lib.hid hz
            obtain ⟨m, hm⟩ : ∃ m, m = (catK l1 l2 0).length := ⟨_, rfl⟩
            have hown2 : wr.ownsRow w.heap.size 34 2 (.slice sa m sc) (catK l1 l2 1).length ((catK l1 l2 1).flatMap pV) := by
              have e : catK l1 l2 1 = catK l1 l2 0 := by simp [catK, hle]
              rw [e, hm]; exact hown
            rw [← hm] at hcap ⊢
            clear hown hm hz hle
            go_wp2_with (at_builtin; refine wpList_append_zero rfl _ _ 31 34 rfl i0 _ Try.undZflowOrder hi hz0 _ _ _ _ _ _ hcap (by unfold maxLen at *; omega) rfl rfl HZ.out ?_)
            go_roundw
            case rel => exact ⟨1, by omega, by go_num, hown2, hbel⟩
            case measure => simp [intOf]
          · obtain ⟨b, off, cp, he, -⟩ := HV1.out.head (by rw [← HN1.out]; exact hz)
            simp only [Value.slice.injEq] at he
            obtain ⟨rfl, -, rfl⟩ := he
            have hsrc := fun j u hj => (by have := HV1.out.src pV_len (by decide) (by rw [← HN1.out]; exact hz) j u hj; rw [addr_add] at this ⊢; exact cellb this hbel : wr.cell? ((⟨b, off, none⟩ : Addr).add j) = some u)
            have HS := Lib.hid (fun (j : Nat) (u : Value) (hj : (l1.flatMap pV)[j]? = some u) => (show wr.cell? ((⟨b, off, none⟩ : Addr).add j) = some u from hsrc j u hj))
            have HFL := Lib.hid (show (l1.flatMap pV).length = n1 * 2 by rw [flat_len pV_len, HN1.out])
            have HONE := Lib.hid (pV_one l1)
            obtain ⟨m, hm⟩ : ∃ m, m = (catK l1 l2 0).length := ⟨_, rfl⟩
            have hm9 : m ≤ n1 + n2 := by
              have := HN1.out
              have := HN2.out
              rw [hm]; simp [catK]
            have HM := Lib.hid hm
            rw [← hm] at hown ⊢
            clear hsrc hm hcap
            go_wp2_with (at_builtin; refine wpList_append_own _ rfl _ _ 31 rfl w.heap.size 34 i0 (.agg #[.int .i64 0, .int .i64 0]) 2 16 Try.undZflowOrder hi hz0 hz1 hz2 rfl (by decide) (.slice sa m sc) m _ rfl hown ⟨b, off, none⟩ n1 c1 (l1.flatMap pV) rfl HFL.out HS.out HONE.out (by unfold maxLen; omega) (by omega) hbel.size ?_; intro v7 w8 hown' hgrow _)
            have hbelN : Below w.heap.size w w8 := hbel.trans (below_grow hown hbel.size hgrow)
            have hownN : w8.ownsRow w.heap.size 34 2 v7 (catK l1 l2 1).length ((catK l1 l2 1).flatMap pV) := by
              have e : catK l1 l2 1 = catK l1 l2 0 ++ l1 := by simp [catK]
              rw [e, List.length_append, List.flatMap_append, ← HM.out, ← HN1.out]
              exact hown'
            clear hown hown' hgrow hbel hcx
            go_wp2
            go_roundw
            case rel => exact ⟨1, by omega, by go_num, hownN, hbelN⟩
            case measure => simp [intOf]
        · have hcx := cellb h1 hbel
          obtain ⟨sa, sc, rfl⟩ := own_slice hown
          obtain ⟨-, hcap, hcm⟩ := own_cap hown
          rcases Nat.eq_zero_or_pos n2 with hz | hz
          · have hle : l2 = [] := List.length_eq_zero_iff.1 (by rw [← HN2.out]; exact hz)
            have HZ := Lib.hid hz
            obtain ⟨m, hm⟩ : ∃ m, m = (catK l1 l2 1).length := ⟨_, rfl⟩
            have hown2 : wr.ownsRow w.heap.size 34 2 (.slice sa m sc) (catK l1 l2 2).length ((catK l1 l2 2).flatMap pV) := by
              have e : catK l1 l2 2 = catK l1 l2 1 := by simp [catK, hle]
              rw [e, hm]; exact hown
            rw [← hm] at hcap ⊢
            clear hown hm hz hle
            go_wp2_with (at_builtin; refine wpList_append_zero rfl _ _ 31 34 rfl i0 _ Try.undZflowOrder hi hz0 _ _ _ _ _ _ hcap (by unfold maxLen at *; omega) rfl rfl HZ.out ?_)
            go_roundw
            case rel => exact ⟨2, by omega, by go_num, hown2, hbel⟩
            case measure => simp [intOf]
          · obtain ⟨b, off, cp, he, -⟩ := HV2.out.head (by rw [← HN2.out]; exact hz)
            simp only [Value.slice.injEq] at he
            obtain ⟨rfl, -, rfl⟩ := he
            have hsrc := fun j u hj => (by have := HV2.out.src pV_len (by decide) (by rw [← HN2.out]; exact hz) j u hj; rw [addr_add] at this ⊢; exact cellb this hbel : wr.cell? ((⟨b, off, none⟩ : Addr).add j) = some u)
            have HS := Lib.hid (fun (j : Nat) (u : Value) (hj : (l2.flatMap pV)[j]? = some u) => (show wr.cell? ((⟨b, off, none⟩ : Addr).add j) = some u from hsrc j u hj))
            have HFL := Lib.hid (show (l2.flatMap pV).length = n2 * 2 by rw [flat_len pV_len, HN2.out])
            have HONE := Lib.hid (pV_one l2)
            obtain ⟨m, hm⟩ : ∃ m, m = (catK l1 l2 1).length := ⟨_, rfl⟩
            have hm9 : m ≤ n1 + n2 := by
              have := HN1.out
              have := HN2.out
              rw [hm]; simp [catK]; omega
            have HM := Lib.hid hm
            rw [← hm] at hown ⊢
            clear hsrc hm hcap
            go_wp2_with (at_builtin; refine wpList_append_own _ rfl _ _ 31 rfl w.heap.size 34 i0 (.agg #[.int .i64 0, .int .i64 0]) 2 16 Try.undZflowOrder hi hz0 hz1 hz2 rfl (by decide) (.slice sa m sc) m _ rfl hown ⟨b, off, none⟩ n2 c2 (l2.flatMap pV) rfl HFL.out HS.out HONE.out (by unfold maxLen; omega) (by omega) hbel.size ?_; intro v7 w8 hown' hgrow _)
            have hbelN : Below w.heap.size w w8 := hbel.trans (below_grow hown hbel.size hgrow)
            have hownN : w8.ownsRow w.heap.size 34 2 v7 (catK l1 l2 2).length ((catK l1 l2 2).flatMap pV) := by
              have e : catK l1 l2 2 = catK l1 l2 1 ++ l2 := by simp [catK]
              rw [e, List.length_append, List.flatMap_append, ← HM.out, ← HN2.out]
              exact hown'
            clear hown hown' hgrow hbel hcx
            go_wp2
            go_roundw
            case rel => exact ⟨2, by omega, by go_num, hownN, hbelN⟩
            case measure => simp [intOf]
        · go_wp2
          go_ret
          exact ⟨⟨_, rfl, hown⟩, hbel⟩
theorem Try.enterCmpO (args : Array Value) (w : World) : Sem.run Try.prog (callFunc 24 args) w = .ok (.enter 24 args) w :=
  MuLone.run_callFunc_enter Try.func24 (by kernel_rfl) rfl args w
theorem compareO_any (a b c d : Int) (w : World) : Calls Try.prog 24 #[.agg #[.int .i64 a, .int .i64 b], .agg #[.int .i64 c, .int .i64 d]] w fun r w' => r = .returned (.int .i64 (cmpI a c)) ∧ w' = (w.alloc (.cells #[.int .i64 a, .int .i64 b] 34)).alloc (.cells #[.int .i64 c, .int .i64 d] 34) := by
  have T := Lib.hid (fun W => CompareI_any a c W)
  go_enter Try.func24, Try.ntmps24
  go_wp2_with fail
  refine (T.out _).mono ?_
  rintro e w' ⟨rfl, rfl⟩
  go_wp2
  go_ret
  exact ⟨rfl, rfl⟩
theorem lays_O (blk off size : Nat) (w : World) : CmpLays Try.prog 24 #[] pV 2 cmpP blk off size w := fun m os dk hs x y => by
  refine Calls.mono (compareO_any x.1 x.2 y.1 y.2 _) ?_
  rintro e w' ⟨rfl, rfl⟩
  exact ⟨rfl, grow2 _ _ _⟩
theorem sizeO (w : World) : (Go.sizeOf 34).run Try.prog w = .ok 2 w := by kernel_rfl
theorem aggO (w : World) : (isAgg 34).run Try.prog w = .ok true w := by kernel_rfl
set_option maxHeartbeats 1000000 in
theorem sortO_any (base : Nat) (v : Value) (l : List P2) (w : World) (hl : l.length ≤ 1000000) (hown : OwR w base 34 2 pV v l) :
    Calls Try.prog 23 #[v, .func (.func 24) #[] #[]] w fun e w' => (e = .returned (.tuple #[]) ∧ ∃ l', l'.Perm l ∧ l'.Pairwise (fun x y => x.1 ≤ y.1) ∧ Prs w' v l') ∧ Below base w w' := by
  obtain ⟨h1, h2⟩ := hown
  rcases h2 with ⟨rfl, h2⟩ | ⟨g, cap, cur, rfl, hg, hh, hnc, hcap, hcs, htk⟩
  · obtain rfl := List.length_eq_zero_iff.1 h2
    refine Calls.mono (AnyF.slices_SortFunc_none { Try.sortO with } none 0 _ w) ?_
    rintro e w' ⟨rfl, rfl⟩
    exact ⟨⟨rfl, [], List.Perm.refl _, List.Pairwise.nil, Rw.nil _ _ _ _ _⟩, Below.refl _ _⟩
  have hblk : g < w.heap.size := (Array.getElem?_eq_some_iff.1 hh).1
  have hH := holds_own hh htk
  have hcon := AnyQ.slices_SortFunc Try.sortO 2 aggO sizeO pV pV_len pV_cell cmpP swoP 24 #[] g 0 cap l.toArray w Try.enterCmpO (lays_O g 0 _ w) hH hblk (by simp; omega)
  refine Calls.mono (f := 23) hcon ?_
  rintro e w' ⟨rfl, d', n, os, hp, hs, rfl⟩
  have hsz : d'.size = l.toArray.size := hp.1
  have hlen : d'.toList.length = l.length := by simpa using hsz
  refine ⟨⟨rfl, d'.toList, by simpa using perm_of_in hp, sorted_of_in hs hsz.symm, ?_⟩, below_sortK (Below.refl _ _) hg hblk _ _⟩
  have := rw_holds (l := d'.toList) (cap := cap) (holdsK_sortWorldK_c pV 2 w g 0 l.toArray d' n os hH hblk hsz) (by rw [hlen]; exact hnc)
  rwa [hlen] at this
set_option maxHeartbeats 1000000 in
theorem IndexO_any (K : Nat) (cap : Array Value) (henter : ∀ args w, Sem.run Try.prog (callFunc K args) w = .ok (.enter K args) w) (g : P2 → Bool) (v : Value) (l : List P2) (w : World) (hl : l.length ≤ 1000000000) (hv : Rw 2 pV w v l)
    (hf : ∀ x ∈ l, ∀ w1, Below w.heap.size w w1 → Calls Try.prog K (#[.agg #[.int .i64 x.1, .int .i64 x.2]] ++ cap) w1 fun r w2 => r = .returned (.bool (g x)) ∧ Below w1.heap.size w1 w2) :
    Calls Try.prog 59 #[v, .func (.func K) #[] cap] w fun r w' => r = .returned (.int .i64 (findX g l)) ∧ Below w.heap.size w w' := by
  rcases Nat.eq_zero_or_pos l.length with h0 | h0
  · obtain rfl : l = [] := List.length_eq_zero_iff.1 h0
    obtain ⟨a, cp, rfl, _, _⟩ := hv
    go_enter Try.func59, Try.ntmps59
    go_wp2
    go_loop [8] (fun i => i = .int .i64 0) (fun _ => 0)
    case atStart => rfl
    case round =>
      obtain rfl := hrel
      go_wp2
      go_ret
      exact ⟨rfl, Below.refl _ _⟩
  · obtain ⟨b, off, cp, rfl, hcs⟩ := hv.head h0
    clear hv
    go_enter Try.func59, Try.ntmps59
    go_wp2
    go_loopw [8] (fun i wr => ∃ k : Nat, k ≤ l.length ∧ i = .int .i64 k ∧ (l.take k).any g = false ∧ Below w.heap.size w wr) (fun i _ => l.length - (intOf i).toNat)
    case atStart => exact ⟨0, by omega, rfl, rfl, Below.refl _ _⟩
    case round =>
      obtain ⟨k, hk, rfl, hf0, hbel⟩ := hrel
      have HF := Lib.hid hf0
      clear hf0
      by_cases hlt : k < l.length
      · obtain ⟨x, hx⟩ : ∃ x, l[k]? = some x := ⟨_, List.getElem?_eq_getElem hlt⟩
        obtain ⟨c0, c1⟩ := rw2 (hcs k x hx) (show pV x = [.int .i64 x.1, .int .i64 x.2] from rfl)
        have c0 := cellb c0 hbel
        have c1 := cellb c1 hbel
        have HX := Lib.hid hx
        clear hcs hx
        have TG := Lib.hid (hf x (List.mem_of_getElem? HX.out) wr hbel)
        by_cases hg : g x = true
        · go_wp2_with fail
          refine TG.out.mono ?_
          rintro e w2 ⟨rfl, hb2⟩
          go_wp2
          go_ret
          exact ⟨ret_int (findX_some HX.out HF.out hg).symm, bthen hbel hb2⟩
        · have hg' : g x = false := by simpa using hg
          clear hg
          go_wp2_with fail
          refine TG.out.mono ?_
          rintro e w2 ⟨rfl, hb2⟩
          go_wp2
          go_roundw
          case rel => exact ⟨k + 1, by omega, by go_num, anyX_take_succ HX.out HF.out hg', bthen hbel hb2⟩
          case measure => simp [intOf]; omega
      · obtain rfl : k = l.length := by omega
        go_wp2
        go_ret
        exact ⟨ret_int (findX_none (by have := HF.out; rwa [List.take_length] at this)).symm, hbel⟩
set_option maxHeartbeats 400000 in
theorem ContainsO_any (K : Nat) (cap : Array Value) (henter : ∀ args w, Sem.run Try.prog (callFunc K args) w = .ok (.enter K args) w) (g : P2 → Bool) (v : Value) (l : List P2) (w : World) (hl : l.length ≤ 1000000000) (hv : Rw 2 pV w v l)
    (hf : ∀ x ∈ l, ∀ w1, Below w.heap.size w w1 → Calls Try.prog K (#[.agg #[.int .i64 x.1, .int .i64 x.2]] ++ cap) w1 fun r w2 => r = .returned (.bool (g x)) ∧ Below w1.heap.size w1 w2) :
    Calls Try.prog 25 #[v, .func (.func K) #[] cap] w fun r w' => r = .returned (.bool (l.any g)) ∧ Below w.heap.size w w' := by
  have HG := Lib.hid (findX_ge g l)
  have TI := Lib.hid (IndexO_any K cap henter g v l w hl hv hf)
  go_enter Try.func25, Try.ntmps25
  go_wp2_with fail
  refine TI.out.mono ?_
  rintro e w2 ⟨rfl, hb2⟩
  go_wp2
  go_ret
  exact ⟨ret_bool HG.out, hb2⟩
set_option maxHeartbeats 1000000 in
theorem IndexS_any (K : Nat) (cap : Array Value) (henter : ∀ args w, Sem.run Try.prog (callFunc K args) w = .ok (.enter K args) w) (g : S4 → Bool) (v : Value) (l : List S4) (w : World) (hl : l.length ≤ 1000000000) (hv : Rw 4 s4V w v l)
    (hf : ∀ x ∈ l, ∀ w1, Below w.heap.size w w1 → Calls Try.prog K (#[.agg #[.int .i64 x.1, .int .i64 x.2.1, .int .i64 x.2.2.1, .int .i64 x.2.2.2]] ++ cap) w1 fun r w2 => r = .returned (.bool (g x)) ∧ Below w1.heap.size w1 w2) :
    Calls Try.prog 34 #[v, .func (.func K) #[] cap] w fun r w' => r = .returned (.int .i64 (findX g l)) ∧ Below w.heap.size w w' := by
  rcases Nat.eq_zero_or_pos l.length with h0 | h0
  · obtain rfl : l = [] := List.length_eq_zero_iff.1 h0
    obtain ⟨a, cp, rfl, _, _⟩ := hv
    go_enter Try.func34, Try.ntmps34
    go_wp2
    go_loop [8] (fun i => i = .int .i64 0) (fun _ => 0)
    case atStart => rfl
    case round =>
      obtain rfl := hrel
      go_wp2
      go_ret
      exact ⟨rfl, Below.refl _ _⟩
  · obtain ⟨b, off, cp, rfl, hcs⟩ := hv.head h0
    clear hv
    go_enter Try.func34, Try.ntmps34
    go_wp2
    go_loopw [8] (fun i wr => ∃ k : Nat, k ≤ l.length ∧ i = .int .i64 k ∧ (l.take k).any g = false ∧ Below w.heap.size w wr) (fun i _ => l.length - (intOf i).toNat)
    case atStart => exact ⟨0, by omega, rfl, rfl, Below.refl _ _⟩
    case round =>
      obtain ⟨k, hk, rfl, hf0, hbel⟩ := hrel
      have HF := Lib.hid hf0
      clear hf0
      by_cases hlt : k < l.length
      · obtain ⟨x, hx⟩ : ∃ x, l[k]? = some x := ⟨_, List.getElem?_eq_getElem hlt⟩
        obtain ⟨c0, c1, c2, c3⟩ := rw4 (hcs k x hx) (show s4V x = [.int .i64 x.1, .int .i64 x.2.1, .int .i64 x.2.2.1, .int .i64 x.2.2.2] from rfl)
        have c0 := cellb c0 hbel
        have c1 := cellb c1 hbel
        have c2 := cellb c2 hbel
        have c3 := cellb c3 hbel
        have HX := Lib.hid hx
        clear hcs hx
        have TG := Lib.hid (hf x (List.mem_of_getElem? HX.out) wr hbel)
        by_cases hg : g x = true
        · go_wp2_with fail
          refine TG.out.mono ?_
          rintro e w2 ⟨rfl, hb2⟩
          go_wp2
          go_ret
          exact ⟨ret_int (findX_some HX.out HF.out hg).symm, bthen hbel hb2⟩
        · have hg' : g x = false := by simpa using hg
          clear hg
          go_wp2_with fail
          refine TG.out.mono ?_
          rintro e w2 ⟨rfl, hb2⟩
          go_wp2
          go_roundw
          case rel => exact ⟨k + 1, by omega, by go_num, anyX_take_succ HX.out HF.out hg', bthen hbel hb2⟩
          case measure => simp [intOf]; omega
      · obtain rfl : k = l.length := by omega
        go_wp2
        go_ret
        exact ⟨ret_int (findX_none (by have := HF.out; rwa [List.take_length] at this)).symm, hbel⟩
set_option maxRecDepth 100000 in
set_option maxHeartbeats 2000000 in
theorem mapSE_any (K : Nat) (cap : Array Value) (henter : ∀ args w, Sem.run Try.prog (callFunc K args) w = .ok (.enter K args) w) (g : S4 → Int) (v : Value) (l : List S4) (w : World) (hl : l.length ≤ 1000000) (hv : Rw 4 s4V w v l)
    (hf : ∀ x ∈ l, ∀ w1, Below w.heap.size w w1 → Calls Try.prog K (#[.agg #[.int .i64 x.1, .int .i64 x.2.1, .int .i64 x.2.2.1, .int .i64 x.2.2.2]] ++ cap) w1 fun r w2 => r = .returned (.int .i64 (g x)) ∧ Below w1.heap.size w1 w2) :
    Calls Try.prog 32 #[v, .func (.func K) #[] cap] w fun r w' => (∃ u, r = .returned u ∧ OwR w' w.heap.size 36 1 nV u (l.map g)) ∧ Below w.heap.size w w' := by
  rcases Nat.eq_zero_or_pos l.length with h0 | h0
  · obtain rfl : l = [] := List.length_eq_zero_iff.1 h0
    obtain ⟨a, cp, rfl, _, _⟩ := hv
    go_enter Try.func32, Try.ntmps32
    go_wp2
    go_loop [5, 10] (fun v i => v = .slice none 0 0 ∧ i = .int .i64 0) (fun _ _ => 0)
    case atStart => exact ⟨rfl, rfl⟩
    case round =>
      obtain ⟨rfl, rfl⟩ := hrel
      go_wp2
      go_ret
      exact ⟨⟨_, rfl, World.ownsRow_nil _ _ _ _⟩, Below.refl _ _⟩
  · obtain ⟨b, off, cp, rfl, hcs⟩ := hv.head h0
    clear hv
    obtain ⟨i0, hi, hz0, hz1, hz2⟩ := info_parts Try.infZErr
    go_enter Try.func32, Try.ntmps32
    go_wp2
    go_loopw [5, 10] (fun v i wr => ∃ k : Nat, k ≤ l.length ∧ i = .int .i64 k ∧ wr.ownsRow w.heap.size 36 1 v k (((l.take k).map g).flatMap nV) ∧ Below w.heap.size w wr) (fun _ i _ => l.length - (intOf i).toNat)
    case atStart => exact ⟨0, by omega, rfl, World.ownsRow_nil _ _ _ _, Below.refl _ _⟩
    case round =>
      obtain ⟨k, hk, rfl, hown, hbel⟩ := hrel
      by_cases hlt : k < l.length
      · obtain ⟨x, hx⟩ : ∃ x, l[k]? = some x := ⟨_, List.getElem?_eq_getElem hlt⟩
        obtain ⟨c0, c1, c2, c3⟩ := rw4 (hcs k x hx) (show s4V x = [.int .i64 x.1, .int .i64 x.2.1, .int .i64 x.2.2.1, .int .i64 x.2.2.2] from rfl)
        have c0 := cellb c0 hbel
        have c1 := cellb c1 hbel
        have c2 := cellb c2 hbel
        have c3 := cellb c3 hbel
        have hts := flatMap_take_succ nV g l k x hx
        have hts : ((l.take (k + 1)).map g).flatMap nV = ((l.take k).map g).flatMap nV ++ [.int .i64 (g x)] := hts
        have TF := Lib.hid (fun W hE => hf x (List.mem_of_getElem? hx) W hE)
        obtain ⟨y0, hy0⟩ : ∃ y, y = (g x) := ⟨_, rfl⟩
        rw [← hy0] at TF hts
        have HTS := Lib.hid hts
        clear hcs hx hts hy0
        go_wp2_with fail
        have hbx := bthen hbel (below_new wr (Obj.cells #[Value.int IntKind.i64 x.1, Value.int IntKind.i64 x.2.1, Value.int IntKind.i64 x.2.2.1, Value.int IntKind.i64 x.2.2.2] 85))
        refine (TF.out _ hbx).mono ?_
        rintro e w2 ⟨rfl, hb2⟩
        have hbx2 := bthen hbx hb2
        have hown := own_below hown (bthen (below_new wr (Obj.cells #[Value.int IntKind.i64 x.1, Value.int IntKind.i64 x.2.1, Value.int IntKind.i64 x.2.2.1, Value.int IntKind.i64 x.2.2.2] 85)) hb2)
        clear hbx hb2 hbel c0 c1 c2 c3
        go_wp2_with (at_builtin; refine wpList_append_own _ rfl _ _ 82 rfl w.heap.size 36 i0 (.int .i64 0) 1 8 Try.undZErr hi hz0 hz1 hz2 rfl (by decide) _ _ _ rfl (own_below hown (below_new _ _)) ⟨w2.heap.size, 0, none⟩ 1 1 [.int .i64 y0] rfl rfl (fun j u hj => (Blk.new w2 36 [.int .i64 y0]).news j u hj) (by simp [Value.oneCell']) (by unfold maxLen; omega) (by omega) (by have := hbx2.size; simp; omega) ?_; intro v' w1 hown' hgrow _)
        have hbel' : Below w.heap.size w w1 := (bthen hbx2 (below_new w2 (.cells #[.int .i64 y0] 36))).trans (below_grow (own_below hown (below_new _ _)) (by have := hbx2.size; simp; omega) hgrow)
        have hown2 : w1.ownsRow w.heap.size 36 1 v' (k + 1) (((l.take (k + 1)).map g).flatMap nV) := by
          rw [HTS.out]; exact hown'
        clear hown hbx2 hown' hgrow
        go_wp2
        go_roundw
        case rel => exact ⟨k + 1, by omega, by go_num, hown2, hbel'⟩
        case measure => simp [intOf]; omega
      · obtain rfl : k = l.length := by omega
        have hout : OwR wr w.heap.size 36 1 nV u5 (l.map g) := by
          unfold OwR
          rw [List.take_length] at hown
          rw [List.length_map]; exact hown
        clear hown
        go_wp2
        go_ret
        exact ⟨⟨_, rfl, hout⟩, hbel⟩
set_option maxRecDepth 100000 in
set_option maxHeartbeats 2000000 in
theorem mapIE_any (K : Nat) (cap : Array Value) (henter : ∀ args w, Sem.run Try.prog (callFunc K args) w = .ok (.enter K args) w) (g : Int → Int) (v : Value) (l : List Int) (w : World) (hl : l.length ≤ 1000000) (hv : Rw 1 nV w v l)
    (hf : ∀ x ∈ l, ∀ w1, Below w.heap.size w w1 → Calls Try.prog K (#[.int .i64 x] ++ cap) w1 fun r w2 => r = .returned (.int .i64 (g x)) ∧ Below w1.heap.size w1 w2) :
    Calls Try.prog 38 #[v, .func (.func K) #[] cap] w fun r w' => (∃ u, r = .returned u ∧ OwR w' w.heap.size 36 1 nV u (l.map g)) ∧ Below w.heap.size w w' := by
  rcases Nat.eq_zero_or_pos l.length with h0 | h0
  · obtain rfl : l = [] := List.length_eq_zero_iff.1 h0
    obtain ⟨a, cp, rfl, _, _⟩ := hv
    go_enter Try.func38, Try.ntmps38
    go_wp2
    go_loop [5, 10] (fun v i => v = .slice none 0 0 ∧ i = .int .i64 0) (fun _ _ => 0)
    case atStart => exact ⟨rfl, rfl⟩
    case round =>
      obtain ⟨rfl, rfl⟩ := hrel
      go_wp2
      go_ret
      exact ⟨⟨_, rfl, World.ownsRow_nil _ _ _ _⟩, Below.refl _ _⟩
  · obtain ⟨b, off, cp, rfl, hcs⟩ := hv.head h0
    clear hv
    obtain ⟨i0, hi, hz0, hz1, hz2⟩ := info_parts Try.infZErr
    go_enter Try.func38, Try.ntmps38
    go_wp2
    go_loopw [5, 10] (fun v i wr => ∃ k : Nat, k ≤ l.length ∧ i = .int .i64 k ∧ wr.ownsRow w.heap.size 36 1 v k (((l.take k).map g).flatMap nV) ∧ Below w.heap.size w wr) (fun _ i _ => l.length - (intOf i).toNat)
    case atStart => exact ⟨0, by omega, rfl, World.ownsRow_nil _ _ _ _, Below.refl _ _⟩
    case round =>
      obtain ⟨k, hk, rfl, hown, hbel⟩ := hrel
      by_cases hlt : k < l.length
      · obtain ⟨x, hx⟩ : ∃ x, l[k]? = some x := ⟨_, List.getElem?_eq_getElem hlt⟩
        have c0 := rw1 (hcs k x hx) (show nV x = [.int .i64 x] from rfl)
        have c0 := cellb c0 hbel
        have hts := flatMap_take_succ nV g l k x hx
        have hts : ((l.take (k + 1)).map g).flatMap nV = ((l.take k).map g).flatMap nV ++ [.int .i64 (g x)] := hts
        have TF := Lib.hid (fun W hE => hf x (List.mem_of_getElem? hx) W hE)
        obtain ⟨y0, hy0⟩ : ∃ y, y = (g x) := ⟨_, rfl⟩
        rw [← hy0] at TF hts
        have HTS := Lib.hid hts
        clear hcs hx hts hy0
        go_wp2_with fail
        refine (TF.out _ hbel).mono ?_
        rintro e w2 ⟨rfl, hb2⟩
        have hbx2 := bthen hbel hb2
        have hown := own_below hown hb2
        clear hb2 hbel c0
        go_wp2_with (at_builtin; refine wpList_append_own _ rfl _ _ 82 rfl w.heap.size 36 i0 (.int .i64 0) 1 8 Try.undZErr hi hz0 hz1 hz2 rfl (by decide) _ _ _ rfl (own_below hown (below_new _ _)) ⟨w2.heap.size, 0, none⟩ 1 1 [.int .i64 y0] rfl rfl (fun j u hj => (Blk.new w2 36 [.int .i64 y0]).news j u hj) (by simp [Value.oneCell']) (by unfold maxLen; omega) (by omega) (by have := hbx2.size; simp; omega) ?_; intro v' w1 hown' hgrow _)
        have hbel' : Below w.heap.size w w1 := (bthen hbx2 (below_new w2 (.cells #[.int .i64 y0] 36))).trans (below_grow (own_below hown (below_new _ _)) (by have := hbx2.size; simp; omega) hgrow)
        have hown2 : w1.ownsRow w.heap.size 36 1 v' (k + 1) (((l.take (k + 1)).map g).flatMap nV) := by
          rw [HTS.out]; exact hown'
        clear hown hbx2 hown' hgrow
        go_wp2
        go_roundw
        case rel => exact ⟨k + 1, by omega, by go_num, hown2, hbel'⟩
        case measure => simp [intOf]; omega
      · obtain rfl : k = l.length := by omega
        have hout : OwR wr w.heap.size 36 1 nV u5 (l.map g) := by
          unfold OwR
          rw [List.take_length] at hown
          rw [List.length_map]; exact hown
        clear hown
        go_wp2
        go_ret
        exact ⟨⟨_, rfl, hout⟩, hbel⟩
end Go.Proofs.Ytipmjjnhdjcoiaa

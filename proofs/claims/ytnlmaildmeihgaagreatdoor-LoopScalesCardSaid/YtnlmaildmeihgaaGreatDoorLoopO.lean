/- slices.Clone; the rows of the table of a polynomial, as they are visited; the table. -/
import Derived.Test.YtnlmaildmeihgaaGreatDoorLoopN
import Derived.Test.YtnlmaildmeihgaaGreatDoorRange
namespace Go.Proofs.YtnlmaildmeihgaaGreatDoor
open Go.RowKit Go.Shelf

attribute [local go_sem] Oper.semAt_some

set_option maxHeartbeats 1000000 in
theorem Clone_any (v : Value) (l : List Int) (w : World) (hv : Ints w v l) (hl : l.length ≤ 1000000000) :
    Calls Tryz.prog 137 #[v] w fun e w' => (∃ u, e = .returned u ∧ OwnI 3 w.heap.size w' u l) ∧ Below w.heap.size w w' := by
  obtain ⟨i0, hi, hz0, hz1, hz2⟩ := info_parts Tryz.infoInt
  rcases Nat.eq_zero_or_pos l.length with h0 | h0
  · obtain rfl : l = [] := List.length_eq_zero_iff.1 h0
    obtain ⟨a, cap, rfl, _, _⟩ := hv
    cases a with
    | none =>
      have hnil : ∀ W, (binOp .eql 26 (.slice none 0 cap) (.slice none 0 0)).run Tryz.prog W = .ok (.bool true) W := fun W => Lib.run_eql_slice_nil W _ _ _ _ _ _ _ Tryz.underlying26
      go_enter Tryz.func137, Tryz.ntmps137
      go_wp2
      go_ret
      exact ⟨⟨_, rfl, ⟨rfl, .inl ⟨rfl, rfl⟩⟩⟩, Below.refl _ _⟩
    | some a =>
      have hnil : ∀ W, (binOp .eql 26 (.slice (some a) 0 cap) (.slice none 0 0)).run Tryz.prog W = .ok (.bool false) W := fun W => Lib.run_eql_slice_nil W _ _ _ _ _ _ _ Tryz.underlying26
      have happ := fun (W : World) (ty : TypeId) (g : Nat) => run_append_empty (P := Tryz.prog) W 26 26 ty 3 3 i0 _ Tryz.underlying26 Tryz.underlying26 hi hz0 g 0 (some a) cap
      go_enter Tryz.func137, Tryz.ntmps137
      go_wp2
      go_ret
      exact ⟨⟨_, rfl, ⟨rfl, .inr ⟨w.heap.size, 0, #[], rfl, Nat.le_refl _, World.alloc_heap_new w _, Nat.le_refl _, by simp, rfl, rfl⟩⟩⟩, below_new _ _⟩
  · obtain ⟨b, o, cap, rfl, _⟩ := (id hv).head h0
    have hnil : ∀ W, (binOp .eql 26 (.slice (some ⟨b, o, none⟩) l.length cap) (.slice none 0 0)).run Tryz.prog W = .ok (.bool false) W := fun W => Lib.run_eql_slice_nil W _ _ _ _ _ _ _ Tryz.underlying26
    go_enter Tryz.func137, Tryz.ntmps137
    go_wp2_with (at_builtin; refine wpList_append_freshO rfl (.tmp 5) (.tmp 6) 26 26 3 rfl i0 (.int .i64 0) 1 8 Tryz.underlying26 hi hz0 hz1 hz2 rfl w.heap.size 0 rfl _ l.length _ rfl ((hv.alloc _).src Tryz.underlying26 h0) h0 (by unfold maxLen; omega) (by omega) ?_; intro u w2 hown hb)
    have hown' : OwnI 3 w.heap.size w2 u l := OwnI.base hown (by simp)
    have hb' := bthen (below_new w (.cells #[] 3)) hb
    clear hown hb hnil
    go_ret
    exact ⟨⟨_, rfl, hown'⟩, hb'⟩

/-- the k-th row. -/
def rowK (p : List Int) : Nat → List Int
  | 0 => p
  | k + 1 => nextL (rowK p k)
theorem rowK_length (p : List Int) (k : Nat) : (rowK p k).length = p.length - k := by
  induction k with
  | zero => rfl
  | succ k ih => rw [rowK, nextL, upto_length, ih]; omega
/-- the rows from one on. -/
def tableL : Nat → List Int → List (List Int)
  | 0, _ => []
  | f + 1, r => if r.length ≤ 1 then [] else if failsB r then [r] else r :: tableL f (nextL r)
def tableW (p : List Int) : List (List Int) := tableL p.length p
theorem tableL_stop (f : Nat) (r : List Int) (h : r.length ≤ 1) : tableL f r = [] := by
  cases f with
  | zero => rfl
  | succ f => rw [tableL, if_pos h]
theorem tableL_upto (p : List Int) (k : Nat) (h : ∀ j, j < k → failsB (rowK p j) = false) (hk : k < p.length) : tableW p = upto (rowK p) k ++ tableL (p.length - k) (rowK p k) := by
  induction k with
  | zero => simp [upto, tableW, rowK]
  | succ k ih =>
    rw [ih (fun j hj => h j (by omega)) (by omega), upto_succ, show p.length - k = (p.length - (k + 1)) + 1 from by omega, tableL, if_neg (by rw [rowK_length]; omega), h k (by omega)]
    simp [rowK]
theorem table_done (p : List Int) (k : Nat) (h : ∀ j, j < k → failsB (rowK p j) = false) (hk : k ≤ p.length) (hs : (rowK p k).length ≤ 1) : tableW p = upto (rowK p) k := by
  rcases Nat.lt_or_ge k p.length with hlt | hge
  · rw [tableL_upto p k h hlt, tableL_stop _ _ hs, List.append_nil]
  · cases k with
    | zero => rw [tableW, tableL_stop _ _ (by omega)]; rfl
    | succ k =>
      rw [tableL_upto p k (fun j hj => h j (by omega)) (by omega), tableL_stop _ _ (by rw [rowK_length]; omega), List.append_nil]
      rcases Nat.eq_zero_or_pos p.length with h0 | h0
      · omega
      · exfalso
        have := h k (by omega)
        have hl := rowK_length p k
        rw [show p.length - k = 1 from by omega] at hl
        match hq : rowK p k, hl with
        | [x], _ => rw [hq] at this; simp [failsB] at this
theorem table_fails (p : List Int) (k : Nat) (h : ∀ j, j < k → failsB (rowK p j) = false) (hk : 1 < (rowK p k).length) (hf : failsB (rowK p k) = true) : tableW p = upto (rowK p) (k + 1) := by
  have hl := rowK_length p k
  rw [tableL_upto p k h (by omega), show p.length - k = (p.length - k - 1) + 1 from by omega, tableL, if_neg (by omega), if_pos hf, upto_succ]

/-- the blocks of integers are kept. -/
def KInt (A B : World) : Prop := ∀ (b : Nat) (c : Array Value), A.heap[b]? = some (.cells c 3 (0, 0)) → B.heap[b]? = some (.cells c 3 (0, 0))
theorem KInt.trans {A B C : World} (h : KInt A B) (k : KInt B C) : KInt A C := fun b c hc => k b c (h b c hc)
theorem KInt.turn (W : World) (l : Nat) (o o' : Obj) (h : W.heap[l]? = some o) (h1 : o.isCells = false) : KInt W (W.putObj l o') := fun b c hc => by
  by_cases e : b = l
  · subst e; rw [hc] at h; cases h; cases h1
  · exact (World.putObj_heap_other e).trans hc
theorem OwnI.kint {base : Nat} {A B : World} {v : Value} {l : List Int} (h : OwnI 3 base A v l) (k : KInt A B) : OwnI 3 base B v l := by
  obtain ⟨h1, h2⟩ := h
  refine ⟨h1, ?_⟩
  rcases h2 with h2 | ⟨g, cap, cur, hv, hg, hh, r⟩
  · exact .inl h2
  · exact .inr ⟨g, cap, cur, hv, hg, k _ _ hh, r⟩
theorem grown_of_below {A B : World} (h : Below A.heap.size A B) : A.grownBy B none := ⟨h.os, h.tape, h.output, h.size, fun k hk _ => h.block k hk⟩

set_option maxRecDepth 100000 in
set_option maxHeartbeats 2000000 in
theorem rows1_in (n : Nat) (hn : 1 ≤ n) (l Bs : Nat) (v : Value) (p : List Int) (hl : p.length ≤ 1000000000) (J Jx : List (Value × List Int) → World → Prop)
    (hJ : ∀ pre A B, J pre A → A.grownBy B none → J pre B)
    (hY : ∀ pre x W, J pre W → (OwnI 3 0 W x.1 x.2 ∧ pre.length < p.length) → YieldAt Fence.wide (n - 1) Tryz.prog l #[x.1] W fun e W' =>
      (e = .returned (.bool true) ∧ J (pre ++ [x]) W' ∧ KInt W W') ∨ (e = .returned (.bool false) ∧ Jx (pre ++ [x]) W'))
    (W : World) (hBs : W.cell? ⟨Bs, 0, none⟩ = some v) (hv : Ints W v p) (h00 : J [] W) :
    CallsIn Fence.wide n Tryz.prog 173 #[.func (.yield l) #[] #[], .pointer (some ⟨Bs, 0, none⟩)] W fun e W' => (∃ v, e = .returned v) ∧
      ((∃ ys, ys.map Prod.snd = tableW p ∧ J ys W') ∨ (∃ pre, Jx pre W')) := by
  refine callsIn_of_wp Tryz.func173 rfl trivial ?_ rfl
  simp only [Tryz.ntmps173, List.size_toArray, List.length_cons, List.length_nil, Nat.reduceAdd, Nat.reduceSub, Array.replicate_succ, Array.replicate_zero, List.push_toArray, List.append_toArray, List.nil_append, List.cons_append]
  have hwf : ∀ f, Fence.wide.fn f := fun _ => trivial
  have hcl := (callsIn_wide (n := n - 1)).2 (Clone_any v p W hv hl)
  have HCL := Lib.hid hcl
  clear hcl
  gi_wp2_with (gi_at_call 137; refine HCL.out.mono ?_; rintro e w1 ⟨⟨u, rfl, hu⟩, hb⟩)
  have hl' : p.length ≤ 1000000000 := hl
  clear HCL hBs
  gi_loopw [3] (fun r wr => ∃ (k : Nat) (pre : List (Value × List Int)), k ≤ p.length ∧ pre.map Prod.snd = upto (rowK p) k ∧ J pre wr ∧ OwnI 3 0 wr r (rowK p k) ∧ (∀ j, j < k → failsB (rowK p j) = false))
    (fun r _ => match r with | .slice _ n _ => n | _ => 0)
  case atStart => exact ⟨0, [], Nat.zero_le _, rfl, hJ _ _ _ h00 (grown_of_below hb), hu.base (Nat.zero_le _), fun j hj => by omega⟩
  case round =>
    obtain ⟨k, pre, hk, hpre, hj, ho, hf⟩ := hrel
    have hlen := rowK_length p k
    obtain ⟨L, hL⟩ : ∃ L, L = rowK p k := ⟨_, rfl⟩
    rw [← hL] at ho hlen
    have HL := Lib.hid hL
    have HP := Lib.hid hpre
    have HF := Lib.hid hf
    clear hL hpre hf
    by_cases hlt : 1 < L.length
    · have hi := ho.ints
      obtain ⟨b, o, cap, rfl, hc⟩ := hi.head (by omega)
      obtain ⟨fn, tmps, assign, body, hy, hR⟩ := hY pre (_, L) wr hj ⟨ho, by have h1 := congrArg List.length HP.out; rw [List.length_map, upto_length] at h1; omega⟩
      have hlt' : (1 : Int) < (L.length : Int) := by omega
      clear hlen hc hY hu
      gi_wp2
      refine hR.mono ?_
      rintro e W3 (⟨rfl, hj3, hk3⟩ | ⟨rfl, hjx⟩)
      · have ho3 := ho.kint hk3
        have hfa := (callsIn_wide (n := n - 1)).2 (fails_any _ L W3 ho3.ints (by have := HL.out; have := rowK_length p k; rw [← HL.out] at this; omega) (by omega))
        have HFA := Lib.hid hfa
        clear hfa hR hy
        by_cases hfl : failsB L = true
        · rw [hfl] at HFA
          gi_wp2_with (gi_at_call 143; refine HFA.out.mono ?_; rintro e w4 ⟨rfl, hb4⟩)
          refine bodyPost_ret (results_none rfl _ _ _) rfl ?_
          refine ⟨⟨_, rfl⟩, .inl ⟨pre ++ [(_, L)], ?_, hJ _ _ _ hj3 (grown_of_below hb4)⟩⟩
          rw [List.map_append, HP.out, HL.out]
          have hlt := hlt
          rw [HL.out] at hlt hfl
          rw [table_fails p k HF.out hlt hfl, upto_succ]
          rfl
        · have hfl' : failsB L = false := by simpa using hfl
          clear hfl
          rw [hfl'] at HFA
          have hnx := fun (w4 : World) (hb4 : Below W3.heap.size W3 w4) => (callsIn_wide (n := n - 1)).2 (next_any _ L w4 (ho3.ints.below hb4) (by have := HL.out; have := rowK_length p k; rw [← HL.out] at this; omega) (by omega))
          have HNX := Lib.hid hnx
          clear hnx
          gi_wp2_with (first | (gi_at_call 143; refine HFA.out.mono ?_; rintro e w4 ⟨rfl, hb4⟩) | (gi_at_call 174; refine (HNX.out _ hb4).mono ?_; rintro e w5 ⟨⟨u5, rfl, hu5⟩, hb5⟩))
          go_roundw
          case rel =>
            refine ⟨k + 1, pre ++ [(_, L)], ?_, ?_, hJ _ _ _ hj3 (grown_of_below (bthen hb4 hb5)), ?_, ?_⟩
            · have := HL.out; have := rowK_length p k; rw [← HL.out] at this; omega
            · rw [List.map_append, HP.out, HL.out, upto_succ]; rfl
            · rw [rowK, ← HL.out]; exact hu5.base (Nat.zero_le _)
            · intro j hj4
              rcases Nat.lt_or_ge j k with h | h
              · exact HF.out j h
              · obtain rfl : j = k := by omega
                rw [← HL.out]; exact hfl'
          case measure =>
            obtain ⟨a5, c5, hv5, _⟩ := hu5.ints
            subst hv5
            rw [show (nextL L).length = L.length - 1 from upto_length _ _]
            show L.length - 1 < L.length
            omega
      · clear hR hy
        gi_wp2
        refine bodyPost_ret (results_none rfl _ _ _) rfl ?_
        exact ⟨⟨_, rfl⟩, .inr ⟨_, hjx⟩⟩
    · obtain ⟨a, cap, rfl, _⟩ := ho.ints
      have hlt' : ¬ (1 : Int) < (L.length : Int) := by omega
      clear hY hu hlen
      gi_wp2
      go_end0
      refine ⟨⟨_, rfl⟩, .inl ⟨pre, ?_, hj⟩⟩
      rw [HP.out]
      exact (table_done p k HF.out hk (by rw [← HL.out]; omega)).symm

end Go.Proofs.YtnlmaildmeihgaaGreatDoor

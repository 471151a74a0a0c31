/- The law TopWasherGiven: its closure; lists of pairs appended. Printed by gen/gvX.py. -/
import Derived.Test.YtipmjjnhdjcoiaaGvM
import Derived.Test.YtipmjjnhdjcoiaaGvT
import Derived.Test.YtipmjjnhdjcoiaaGvG
import Derived.Test.YtipmjjnhdjcoiaaGvR
import Derived.Test.YtipmjjnhdjcoiaaDrpB
namespace Go.Proofs.Ytipmjjnhdjcoiaa
set_option linter.unusedSimpArgs false
set_option linter.unusedVariables false
open Go.RowKit

theorem own_baseV {w : World} {base base' e size n : Nat} {v : Value} {xs : List Value} (h : w.ownsRow base e size v n xs) (hb : base' ≤ base) : w.ownsRow base' e size v n xs := by
  refine ⟨h.1, ?_⟩
  rcases h.2 with h | ⟨g, cap, cur, hv, hg, hr⟩
  · exact .inl h
  · exact .inr ⟨g, cap, cur, hv, by omega, hr⟩
set_option maxRecDepth 100000 in
set_option maxHeartbeats 2000000 in
theorem ordersC_any (v : Value) (l : List P2) (w : World) (hl : l.length ≤ 1000000) (hv : Rw 2 pV w v l) :
    Calls Try.prog 8 #[v] w fun r w' => (∃ u, r = .returned u ∧ OwR w' w.heap.size 34 2 pV u l) ∧ Below w.heap.size w w' := by
  obtain ⟨i0, hi, hz0, hz1, hz2⟩ := info_parts Try.infZflowOrder
  have HV := Lib.hid hv
  obtain ⟨va, vc, rfl, hvc⟩ := hv.slice
  obtain ⟨N, hN⟩ : ∃ N, N = l.length := ⟨_, rfl⟩
  rw [← hN] at HV hl ⊢
  have HN := Lib.hid hN
  clear hv hN hvc
  go_enter Try.func8, Try.ntmps8
  go_wp2_with fail
  go_loopw [3, 8] (fun u i wr => ∃ k : Nat, k ≤ N ∧ i = .int .i64 k ∧ wr.ownsRow w.heap.size 34 2 u k ((l.take k).flatMap pV) ∧ Below w.heap.size w wr) (fun _ i _ => N - (intOf i).toNat)
  case atStart => exact ⟨0, by omega, rfl, World.ownsRow_nil _ _ _ _, Below.refl _ _⟩
  case round =>
    obtain ⟨k, hk, rfl, hown, hbel⟩ := hrel
    by_cases hlt : k < N
    · obtain ⟨x, hx⟩ : ∃ x, l[k]? = some x := ⟨_, List.getElem?_eq_getElem (by rw [← HN.out]; exact hlt)⟩
      obtain ⟨b, off, cp, he, hcs⟩ := (HV.out.carry hbel).head (by rw [← HN.out]; omega)
      simp only [Value.slice.injEq] at he
      obtain ⟨rfl, -, rfl⟩ := he
      obtain ⟨c0, c1⟩ := rw2 (hcs k x hx) (show pV x = [.int .i64 x.1, .int .i64 x.2] from rfl)
      have hts : (l.take (k + 1)).flatMap pV = (l.take k).flatMap pV ++ [.int .i64 x.1, .int .i64 x.2] := by rw [List.take_add_one, hx, List.flatMap_append]; simp [pV]
      obtain ⟨y0, hy0⟩ : ∃ y, y = x.1 := ⟨_, rfl⟩
      obtain ⟨y1, hy1⟩ : ∃ y, y = x.2 := ⟨_, rfl⟩
      rw [← hy0] at c0
      rw [← hy1] at c1
      rw [← hy0, ← hy1] at hts
      have HTS := Lib.hid hts
      have hdk : (k : Int) < (N : Int) := by omega
      have hsz := hbel.size
      have kb := below_new wr (.cells #[.int .i64 y0, .int .i64 y1] 33)
      have kn := bthen kb (below_new (wr.alloc (.cells #[.int .i64 y0, .int .i64 y1] 33)) (.cells #[.int .i64 y0, .int .i64 y1] 34))
      obtain ⟨oa, oc, rfl⟩ := own_slice hown
      clear hcs hx hts hy0 hy1
      go_wp2_with (at_builtin; refine wpList_append_own _ rfl _ _ 31 rfl w.heap.size 34 i0 (.agg #[.int .i64 0, .int .i64 0]) 2 16 Try.undZflowOrder hi hz0 hz1 hz2 rfl (by decide) _ _ _ rfl (own_below hown kn) ⟨wr.heap.size + 1, 0, none⟩ 1 1 [.int .i64 y0, .int .i64 y1] rfl rfl (fun j u hj => by have h9 := (Blk.new (wr.alloc (.cells #[.int .i64 y0, .int .i64 y1] 33)) 34 [.int .i64 y0, .int .i64 y1]).news j u hj; rw [World.size_alloc] at h9; exact h9) (by simp [Value.oneCell']) (by unfold maxLen; omega) (by omega) (by have := kn.size; omega) ?_; intro v9 w1 hown9 hgrow9 _)
      have hbel9 := (bthen hbel kn).trans (below_grow (own_below hown kn) (by have := kn.size; omega) hgrow9)
      rw [← HTS.out] at hown9
      clear hown hgrow9 kn kb hbel c0 c1
      go_wp2
      go_roundw
      case rel => exact ⟨k + 1, by omega, by go_num, hown9, hbel9⟩
      case measure => simp [intOf]; omega
    · obtain rfl : k = N := by omega
      have hout : OwR wr w.heap.size 34 2 pV u3 l := by
        unfold OwR
        rw [← HN.out]
        rw [List.take_of_length_le (by rw [HN.out]; exact Nat.le_refl _)] at hown
        exact hown
      have d0 : ¬ ((k : Int) < (k : Int)) := by omega
      clear hown
      go_wp2
      go_ret
      exact ⟨⟨_, rfl, hout⟩, hbel⟩
theorem Try.enterGiv1 (args : Array Value) (w : World) : Sem.run Try.prog (callFunc 8 args) w = .ok (.enter 8 args) w :=
  MuLone.run_callFunc_enter Try.func8 (by kernel_rfl) rfl args w
theorem wp_append_run {P : Program} {o : Oper} {a : Act} {w : World} {K : Act → World → Prop} {Q : Exit → Act → World → Prop} (s x : Operand) (t : TypeId)
    (ho : o.op = .call { callee := .builtin .append, args := #[s, x], argTypes := #[t, t] }) {v v2 u : Value} {w' : World} (hs : a.eval s = v) (hx : a.eval x = v2)
    (hr : (Builtin.append_ #[t, t] o.type #[v, v2]).run P w = .ok u w') (h : K (a.put o.dst u) w') : o.wp P a w K Q := by
  unfold Oper.wp execOp
  simp only [ho, resolve, invoke, builtin, Sem.run_bind, Sem.run_pure, Result.andThen_ok, List.map_toArray, List.map_cons, List.map_nil, hs, hx, hr]
  exact h
theorem srcP {P : Program} {tx e : TypeId} (htx : P.underlying tx = some (.slice e)) {w : World} {a : Option Addr} {n c : Nat} {l : List P2} (h : Prs w (.slice a n c) l) (hn : 0 < n) : Src P 2 tx (.slice a n c) n (l.flatMap pV) w := by
  have hl := h.len
  obtain ⟨b, off, cp, he, -⟩ := h.head (by rw [← hl]; exact hn)
  simp only [Value.slice.injEq] at he
  obtain ⟨rfl, -, rfl⟩ := he
  exact Src.ofSlice w htx _ _ _ _ (by rw [flat_len pV_len, hl]) (fun j u hj => h.src pV_len (by decide) (by rw [← hl]; exact hn) j u hj) (pV_one l)
theorem run_append_freshP {P : Program} (w : World) (t ty e : TypeId) (i : TypeInfo) (z : Value) (ht : P.underlying t = some (.slice e)) (hi : P.info? e = some i) (hz : i.zero = some z) (hs1 : i.size = 2) (hby : i.bytes = 16) (hzs : z.cells.size = 2)
    (base g : Nat) (hg : Blk w g e []) (hbg : base ≤ g) (v : Value) (l : List P2) (hv : Prs w v l) (hl : l.length ≤ 1000000) :
    ∃ u w', (Builtin.append_ #[t, t] ty #[.slice (some ⟨g, 0, none⟩) 0 0, v]).run P w = .ok u w' ∧ w'.ownsRow base e 2 u l.length (l.flatMap pV) ∧ Below w.heap.size w w' := by
  obtain ⟨a, c, rfl, -⟩ := hv.slice
  have hlt := Blk.lt hg
  rcases Nat.eq_zero_or_pos l.length with h0 | h0
  · obtain rfl : l = [] := List.length_eq_zero_iff.1 h0
    exact ⟨_, _, run_append_zero w t ty e i z ht hi hz (some ⟨g, 0, none⟩) a 0 0 c (Nat.le_refl _) (by unfold maxLen; omega), ⟨rfl, .inr ⟨g, 0, #[], rfl, hbg, hg, Nat.le_refl _, by unfold maxLen; omega, rfl, rfl⟩⟩, Below.refl _ _⟩
  · obtain ⟨u, w', hr, ho, hb⟩ := run_append_freshO (P := P) w t t ty e i z 2 16 ht hi hz hs1 hby hzs g 0 _ l.length _ (srcP ht hv h0) h0 (by unfold maxLen; omega) (by omega)
    exact ⟨u, w', hr, own_baseV ho (by omega), hb⟩
theorem run_append_ontoP {P : Program} (w : World) (t ty e : TypeId) (i : TypeInfo) (z : Value) (ht : P.underlying t = some (.slice e)) (hi : P.info? e = some i) (hz : i.zero = some z) (hs1 : i.size = 2) (hby : i.bytes = 16) (hzs : z.cells.size = 2)
    (base : Nat) (hbase : base ≤ w.heap.size) (v1 v2 : Value) (l1 l2 : List P2) (hown : w.ownsRow base e 2 v1 l1.length (l1.flatMap pV)) (hv : Prs w v2 l2) (hl1 : l1.length ≤ 1000000) (hl2 : l2.length ≤ 1000000) :
    ∃ u w', (Builtin.append_ #[t, t] ty #[v1, v2]).run P w = .ok u w' ∧ w'.ownsRow base e 2 u (l1 ++ l2).length ((l1 ++ l2).flatMap pV) ∧ Below base w w' := by
  obtain ⟨a, c, rfl, -⟩ := hv.slice
  obtain ⟨a1, c1, rfl⟩ := own_slice hown
  obtain ⟨-, hcap, hcm⟩ := own_cap hown
  rcases Nat.eq_zero_or_pos l2.length with h0 | h0
  · obtain rfl : l2 = [] := List.length_eq_zero_iff.1 h0
    exact ⟨_, _, run_append_zero w t ty e i z ht hi hz a1 a l1.length c1 c hcap (by unfold maxLen at *; omega), by rw [List.append_nil]; exact hown, Below.refl _ _⟩
  · obtain ⟨b, off, cp, he, -⟩ := hv.head h0
    simp only [Value.slice.injEq] at he
    obtain ⟨rfl, -, rfl⟩ := he
    obtain ⟨v', w', hr, h2, h3, _, h5⟩ := run_append_own_at (P := P) w base t ty e i z 2 16 ht hi hz hs1 hby hzs (by decide) _ l1.length _ hown ⟨b, off, none⟩ l2.length c (l2.flatMap pV) (by rw [flat_len pV_len]) (fun j u hj => hv.src pV_len (by decide) h0 j u hj) (pV_one l2) (by unfold maxLen; omega) (by omega) hbase
    exact ⟨v', w', hr, by rw [List.length_append, List.flatMap_append]; exact h2, below_grow hown hbase h3⟩
end Go.Proofs.Ytipmjjnhdjcoiaa

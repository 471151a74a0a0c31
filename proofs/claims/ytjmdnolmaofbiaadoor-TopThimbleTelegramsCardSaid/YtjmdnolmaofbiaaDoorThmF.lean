/- The package phasor: the counters that are lost. -/
import Derived.Test.YtjmdnolmaofbiaaDoorThmE
namespace Go.Proofs.YtjmdnolmaofbiaaDoor
set_option linter.unusedSimpArgs false
set_option linter.unusedVariables false
open Go.RowKit

/-- a slice of telegrams. -/
def Tgs (w : World) (v : Value) (l : List Tg) : Prop :=
  ∃ a cap, v = .slice a l.length cap ∧ l.length ≤ cap ∧ (0 < l.length → ∃ b off, a = some ⟨b, off, none⟩ ∧ ∀ (j : Nat) (x : Tg), l[j]? = some x → w.cell? ⟨b, off + j * 6, none⟩ = some (.int .i64 x.1) ∧ w.cell? ⟨b, off + j * 6 + 1, none⟩ = some (.int .i64 x.2.1) ∧ w.cell? ⟨b, off + j * 6 + 2, none⟩ = some (.int .i64 x.2.2.1) ∧ w.cell? ⟨b, off + j * 6 + 3, none⟩ = some (.int .i64 x.2.2.2.1) ∧ w.cell? ⟨b, off + j * 6 + 4, none⟩ = some (.int .i64 x.2.2.2.2.1) ∧ w.cell? ⟨b, off + j * 6 + 5, none⟩ = some (.int .i64 x.2.2.2.2.2))
theorem Tgs.carry {w w' : World} {v : Value} {l : List Tg} (h : Tgs w v l) (hb : Below w.heap.size w w') : Tgs w' v l := by
  obtain ⟨a, cap, hv, hc, h⟩ := h
  refine ⟨a, cap, hv, hc, fun hl => ?_⟩
  obtain ⟨b, off, ha, h⟩ := h hl
  refine ⟨b, off, ha, fun j x hj => ?_⟩
  obtain ⟨c0, c1, c2, c3, c4, c5⟩ := h j x hj
  exact ⟨cellb c0 hb, cellb c1 hb, cellb c2 hb, cellb c3 hb, cellb c4 hb, cellb c5 hb⟩
theorem Tgs.head {w : World} {v : Value} {l : List Tg} (h : Tgs w v l) (h0 : 0 < l.length) : ∃ b off cap, v = .slice (some ⟨b, off, none⟩) l.length cap ∧ ∀ (j : Nat) (x : Tg), l[j]? = some x → w.cell? ⟨b, off + j * 6, none⟩ = some (.int .i64 x.1) ∧ w.cell? ⟨b, off + j * 6 + 1, none⟩ = some (.int .i64 x.2.1) ∧ w.cell? ⟨b, off + j * 6 + 2, none⟩ = some (.int .i64 x.2.2.1) ∧ w.cell? ⟨b, off + j * 6 + 3, none⟩ = some (.int .i64 x.2.2.2.1) ∧ w.cell? ⟨b, off + j * 6 + 4, none⟩ = some (.int .i64 x.2.2.2.2.1) ∧ w.cell? ⟨b, off + j * 6 + 5, none⟩ = some (.int .i64 x.2.2.2.2.2) := by
  obtain ⟨a, cap, hv, hc, h⟩ := h
  obtain ⟨b, off, rfl, h'⟩ := h h0
  exact ⟨b, off, cap, hv, h'⟩
theorem tgV_at : ∀ (l : List Tg) (j : Nat) (x : Tg) (i : Nat), l[j]? = some x → i < 6 → (l.flatMap tgV)[j * 6 + i]? = (tgV x)[i]?
  | [], j, x, i, h, _ => by simp at h
  | y :: l, 0, x, i, h, hi => by
    simp at h
    subst h
    rw [List.flatMap_cons, List.getElem?_append_left (by simp [tgV]; omega)]
    simp
  | y :: l, j + 1, x, i, h, hi => by
    rw [List.flatMap_cons, List.getElem?_append_right (by simp [tgV]; omega)]
    have h2 : (tgV y).length = 6 := rfl
    rw [h2, show (j + 1) * 6 + i - 6 = j * 6 + i by omega]
    exact tgV_at l j x i (by simpa using h) hi
theorem Tgs.of_own {w : World} {base : Nat} {v : Value} {l : List Tg} (h : OwT w base v l) : Tgs w v l := by
  unfold OwT at h
  rcases h.2 with ⟨h0, hn⟩ | ⟨g, cap, cur, hv, _, hg, hc, _, hs, ht⟩
  · have : l = [] := List.length_eq_zero_iff.1 hn
    subst this
    exact ⟨none, 0, h0, Nat.le_refl _, fun h => by simp at h⟩
  · refine ⟨some ⟨g, 0, none⟩, cap, hv, hc, fun _ => ⟨g, 0, rfl, fun j x hj => ?_⟩⟩
    have hjl := (List.getElem?_eq_some_iff.1 hj).1
    have key : ∀ i u, i < 6 → (tgV x)[i]? = some u → w.cell? ⟨g, j * 6 + i, none⟩ = some u := fun i u hi hu => by
      have h1 : (cur.toList.take (l.length * 6))[j * 6 + i]? = (l.flatMap tgV)[j * 6 + i]? := by rw [ht]
      rw [List.getElem?_take_of_lt (by omega), tgV_at l j x i hj hi, hu] at h1
      have h2 : cur[j * 6 + i]? = some u := by rw [← Array.getElem?_toList]; exact h1
      simp [World.cell?, hg, h2]
    rw [Nat.zero_add]
    exact ⟨key 0 _ (by omega) rfl, key 1 _ (by omega) rfl, key 2 _ (by omega) rfl, key 3 _ (by omega) rfl, key 4 _ (by omega) rfl, key 5 _ (by omega) rfl⟩
theorem takeX_succ_map {α : Type} (l : List α) (k : Nat) (f : α → Value) (x : α) (hk : l[k]? = some x) : (l.take (k + 1)).map f = (l.take k).map f ++ [f x] := by
  rw [List.take_add_one, hk]; simp


set_option maxHeartbeats 1000000 in
theorem mappedTE_any (K : Nat) (cap : Array Value) (henter : ∀ args w, Sem.run Tryd.prog (callFunc K args) w = .ok (.enter K args) w) (g : Tg → Int) (v : Value) (l : List Tg) (w : World) (hl : l.length ≤ 1000000000) (hv : Tgs w v l)
    (hf : ∀ x ∈ l, ∀ w1, Below w.heap.size w w1 → Calls Tryd.prog K (#[.agg #[.int .i64 x.1, .int .i64 x.2.1, .int .i64 x.2.2.1, .int .i64 x.2.2.2.1, .int .i64 x.2.2.2.2.1, .int .i64 x.2.2.2.2.2]] ++ cap) w1 fun r w2 => r = .returned (.int .i64 (g x)) ∧ Below w1.heap.size w1 w2) :
    Calls Tryd.prog 35 #[v, .func (.func K) #[] cap] w fun r w' => (∃ u, r = .returned u ∧ Ints w' u (l.map g)) ∧ Below w.heap.size w w' := by
  rcases Nat.eq_zero_or_pos l.length with h0 | h0
  · obtain rfl : l = [] := List.length_eq_zero_iff.1 h0
    obtain ⟨a, cp, rfl, _, _⟩ := hv
    go_enter Tryd.func35, Tryd.ntmps35
    go_wp2
    go_loop [5, 10] (fun v i => v = .slice none 0 0 ∧ i = .int .i64 0) (fun _ _ => 0)
    case atStart => exact ⟨rfl, rfl⟩
    case round =>
      obtain ⟨rfl, rfl⟩ := hrel
      go_wp2
      go_ret
      exact ⟨⟨_, rfl, Ints.nil _⟩, Below.refl _ _⟩
  · obtain ⟨b, off, cp, rfl, hcs⟩ := hv.head h0
    clear hv
    obtain ⟨i0, hi, hz0, hz1, hz2⟩ := info_parts Tryd.infoErrno
    go_enter Tryd.func35, Tryd.ntmps35
    go_wp2
    go_loopw [5, 10] (fun v i wr => ∃ k : Nat, k ≤ l.length ∧ i = .int .i64 k ∧ wr.ownsRow w.heap.size 44 1 v k ((l.take k).map fun x => Value.int .i64 (g x)) ∧ Below w.heap.size w wr) (fun _ i _ => l.length - (intOf i).toNat)
    case atStart => exact ⟨0, by omega, rfl, World.ownsRow_nil _ _ _ _, Below.refl _ _⟩
    case round =>
      obtain ⟨k, hk, rfl, hown, hbel⟩ := hrel
      by_cases hlt : k < l.length
      · obtain ⟨x, hx⟩ : ∃ x, l[k]? = some x := ⟨_, List.getElem?_eq_getElem hlt⟩
        obtain ⟨c0, c1, c2, c3, c4, c5⟩ := hcs k x hx
        have c0 := cellb c0 hbel
        have c1 := cellb c1 hbel
        have c2 := cellb c2 hbel
        have c3 := cellb c3 hbel
        have c4 := cellb c4 hbel
        have c5 := cellb c5 hbel
        have HX := Lib.hid hx
        clear hcs hx
        go_wp2_with fail
        have hbx := bthen hbel (below_new wr (Obj.cells #[Value.int IntKind.i64 x.1, Value.int IntKind.i64 x.2.1, Value.int IntKind.i64 x.2.2.1, Value.int IntKind.i64 x.2.2.2.1, Value.int IntKind.i64 x.2.2.2.2.1, Value.int IntKind.i64 x.2.2.2.2.2] 40))
        refine (hf x (List.mem_of_getElem? HX.out) _ hbx).mono ?_
        rintro e w2 ⟨rfl, hb2⟩
        have hbx2 := bthen hbx hb2
        have hown := own_below hown (bthen (below_new wr (Obj.cells #[Value.int IntKind.i64 x.1, Value.int IntKind.i64 x.2.1, Value.int IntKind.i64 x.2.2.1, Value.int IntKind.i64 x.2.2.2.1, Value.int IntKind.i64 x.2.2.2.2.1, Value.int IntKind.i64 x.2.2.2.2.2] 40)) hb2)
        clear hbx hb2 hbel c0 c1 c2 c3 c4 c5
        go_wp2_with (at_builtin; refine wpList_append_own _ rfl _ _ 81 rfl w.heap.size 44 i0 (.int .i64 0) 1 8 Tryd.underlying81 hi hz0 hz1 hz2 rfl (by decide) _ _ _ rfl (hown.alloc _) ⟨w2.heap.size, 0, none⟩ 1 1 [.int .i64 (g x)] rfl rfl (cell_one_new _ _ _) (by simp [Value.oneCell']) (by unfold maxLen; omega) (by omega) (by have := hbx2.size; simp; omega) ?_; intro v' w1 hown' hgrow _)
        have hbel' := below_own hbx2 hown hgrow
        have hown2 : w1.ownsRow w.heap.size 44 1 v' (k + 1) ((l.take (k + 1)).map fun x => Value.int .i64 (g x)) := by
          rw [takeX_succ_map _ _ _ x HX.out]; exact hown'
        clear hown hbx2 hown' hgrow
        go_wp2
        go_roundw
        case rel => exact ⟨k + 1, by omega, by go_num, hown2, hbel'⟩
        case measure => simp [intOf]; omega
      · obtain rfl : k = l.length := by omega
        have hout : Ints wr u5 (l.map g) := Ints.of_own (n := l.length) (by rw [List.take_length] at hown; rw [List.map_map]; exact hown) (by simp)
        clear hown
        go_wp2
        go_ret
        exact ⟨⟨_, rfl, hout⟩, hbel⟩

theorem wpList_append_empty {P : Program} {ops : Array Oper} {rest : List Oper} {o : Oper} {a : Act} {w : World} {Q : Exit → Act → World → Prop} (hgd : o.guard = none) (s x : Operand) (t tx e e' : TypeId)
    (ho : o.op = .call { callee := .builtin .append, args := #[s, x], argTypes := #[t, tx] })
    (i : TypeInfo) (z : Value) (ht : P.underlying t = some (.slice e)) (htx : P.underlying tx = some (.slice e')) (hi : P.info? e = some i) (hz : i.zero = some z)
    (g og : Nat) (hs : a.eval s = .slice (some ⟨g, og, none⟩) 0 0) (xa : Option Addr) (c : Nat) (hx : a.eval x = .slice xa 0 c)
    (h : wpList P ops Q rest (a.put o.dst (.slice (some ⟨g, og, none⟩) 0 0)) w) : wpList P ops Q (o :: rest) a w := by
  refine wpList_plain hgd fun K hK => ?_
  have hr := run_append_empty (P := P) w t tx o.type e e' i z ht htx hi hz g og xa c
  unfold Oper.wp execOp
  simp only [ho, resolve, invoke, builtin, Sem.run_bind, Sem.run_pure, Result.andThen_ok, List.map_toArray, List.map_cons, List.map_nil, hs, hx, hr]
  exact hK _ _ h
theorem Tryd.enterCkT (args : Array Value) (w : World) : Sem.run Tryd.prog (callFunc 14 args) w = .ok (.enter 14 args) w :=
  MuLone.run_callFunc_enter Tryd.func14 (by kernel_rfl) rfl args w
set_option maxRecDepth 100000 in
set_option maxHeartbeats 1000000 in
theorem checkTelegrams_ok (v : Value) (l : List Tg) (w : World) (hl : l.length ≤ 1024) (hv : Tgs w v l) (hok : ∀ t ∈ l, TgOk t) :
    Calls Tryd.prog 22 #[v] w fun r w' => r = .returned (.int .i64 0) ∧ Below w.heap.size w w' := by
  have TM := Lib.hid (mappedTE_any 14 #[] Tryd.enterCkT (fun _ => 0) v l w (by omega) hv (fun x hx w1 _ => CheckTelegram_ok x.1 x.2.1 x.2.2.1 x.2.2.2.1 x.2.2.2.2.1 x.2.2.2.2.2 (hok x hx) w1))
  have hz : firstE (l.map fun _ => (0 : Int)) = 0 := by
    have : ∀ m : List Tg, firstE (m.map fun _ => (0 : Int)) = 0 := fun m => by
      induction m with
      | nil => rfl
      | cons a t ih => rw [List.map_cons]; unfold firstE; rw [if_pos rfl]; exact ih
    exact this l
  have TF := Lib.hid (fun (u : Value) (W : World) (h : Ints W u (l.map fun _ => (0 : Int))) => firstP_any u _ W (by rw [List.length_map]; simp [maxLen]; omega) h)
  rw [hz] at TF
  obtain ⟨a, cp, rfl, _, _⟩ := hv
  obtain ⟨n, hn⟩ : ∃ n, n = l.length := ⟨_, rfl⟩
  rw [← hn] at TM hl ⊢
  have d1 : ¬ 1024 < (n : Int) := by omega
  clear hz hn hok
  go_enter Tryd.func22, Tryd.ntmps22
  go_wp2_with fail
  refine TM.out.mono ?_
  rintro e w1 ⟨⟨u, rfl, hu⟩, hb⟩
  go_wp2_with fail
  refine (TF.out u w1 hu).mono ?_
  rintro e w2 ⟨rfl, rfl⟩
  go_wp2
  go_ret
  exact ⟨rfl, hb⟩
theorem Tgs.src {w : World} {v : Value} {l : List Tg} (h : Tgs w v l) {tx e : TypeId} (hk : Tryd.prog.underlying tx = some (.slice e)) (h0 : 0 < l.length) : Src Tryd.prog 6 tx v l.length (l.flatMap tgV) w := by
  obtain ⟨b, off, cap, rfl, hcs⟩ := h.head h0
  have hlen : (l.flatMap tgV).length = l.length * 6 := by
    clear hcs h h0
    induction l with
    | nil => rfl
    | cons a t ih => rw [List.flatMap_cons, List.length_append, ih]; simp [tgV]; omega
  refine Src.ofSlice w hk _ _ _ _ (by rw [hlen]) (fun j u hj => ?_) (fun u hu => ?_)
  · rw [addr_add]
    have hjl := (List.getElem?_eq_some_iff.1 hj).1
    rw [hlen] at hjl
    obtain ⟨x, hx⟩ : ∃ x, l[j / 6]? = some x := ⟨_, List.getElem?_eq_getElem (by omega)⟩
    obtain ⟨c0, c1, c2, c3, c4, c5⟩ := hcs (j / 6) x hx
    have h2 := tgV_at l (j / 6) x (j % 6) hx (by omega)
    rw [show j / 6 * 6 + j % 6 = j by omega, hj] at h2
    have h6 : j % 6 = 0 ∨ j % 6 = 1 ∨ j % 6 = 2 ∨ j % 6 = 3 ∨ j % 6 = 4 ∨ j % 6 = 5 := by omega
    have hoff : off + j = off + j / 6 * 6 + j % 6 := by omega
    rw [hoff, h2]
    rcases h6 with h | h | h | h | h | h <;> rw [h]
    · exact c0
    · exact c1
    · exact c2
    · exact c3
    · exact c4
    · exact c5
  · obtain ⟨x, _, hx⟩ := List.mem_flatMap.1 hu
    simp [tgV] at hx
    rcases hx with rfl | rfl | rfl | rfl | rfl | rfl <;> rfl
set_option maxRecDepth 100000 in
set_option maxHeartbeats 1000000 in
theorem CloneT_any (ad : Addr) (c : Nat) (l : List Tg) (w : World) (hl : l.length ≤ 1024) (hv : Tgs w (.slice (some ad) l.length c) l) :
    Calls Tryd.prog 25 #[.slice (some ad) l.length c] w fun r w' => (∃ u, r = .returned u ∧ Tgs w' u l) ∧ Below w.heap.size w w' := by
  obtain ⟨i0, hi, hz0, hz1, hz2⟩ := info_parts Tryd.infoTg3
  rcases Nat.eq_zero_or_pos l.length with h0 | h0
  · obtain rfl : l = [] := List.length_eq_zero_iff.1 h0
    have hnil : ∀ W, (binOp .eql 47 (.slice (some ad) 0 c) (.slice none 0 0)).run Tryd.prog W = .ok (.bool false) W := fun W => Lib.run_eql_slice_nil W _ _ _ _ _ _ _ Tryd.underlying47
    go_enter Tryd.func25, Tryd.ntmps25
    go_wp2_with (at_builtin; refine wpList_append_empty rfl (.tmp 5) (.tmp 6) 47 47 40 40 rfl i0 _ Tryd.underlying47 Tryd.underlying47 hi hz0 w.heap.size 0 rfl (some ad) c rfl ?_)
    go_ret
    exact ⟨⟨_, rfl, _, _, rfl, Nat.le_refl _, fun h => by simp at h⟩, below_new _ _⟩
  · have k1 := below_new w (.cells #[] 40)
    have hnil : ∀ W, (binOp .eql 47 (.slice (some ad) l.length c) (.slice none 0 0)).run Tryd.prog W = .ok (.bool false) W := fun W => Lib.run_eql_slice_nil W _ _ _ _ _ _ _ Tryd.underlying47
    go_enter Tryd.func25, Tryd.ntmps25
    go_wp2_with (at_builtin; refine wpList_append_freshO rfl (.tmp 5) (.tmp 6) 47 47 40 rfl i0 (.agg #[.int .i64 0, .int .i64 0, .int .i64 0, .int .i64 0, .int .i64 0, .int .i64 0]) 6 48 Tryd.underlying47 hi hz0 hz1 hz2 rfl w.heap.size 0 rfl _ l.length _ rfl ((hv.carry k1).src Tryd.underlying47 h0) h0 (by unfold maxLen; omega) (by omega) ?_; intro u w2 hown hb)
    have hP := Tgs.of_own hown
    have hb' := bthen k1 hb
    go_ret
    exact ⟨⟨_, rfl, hP⟩, hb'⟩

theorem Tryd.enterLost1 (args : Array Value) (w : World) : Sem.run Tryd.prog (callFunc 26 args) w = .ok (.enter 26 args) w :=
  MuLone.run_callFunc_enter Tryd.func26 (by kernel_rfl) rfl args w
theorem Lost1_any (a b c d e f s : Int) (B : Nat) (w : World) (hB : w.cell? ⟨B, 0, none⟩ = some (.int .i64 s)) :
    Calls Tryd.prog 26 #[.agg #[.int .i64 a, .int .i64 b, .int .i64 c, .int .i64 d, .int .i64 e, .int .i64 f], .pointer (some ⟨B, 0, none⟩)] w fun r w' => r = .returned (.bool (a != s)) ∧ Below w.heap.size w w' := by
  have hB2 := cellb hB (below_new w (.cells #[.int .i64 a, .int .i64 b, .int .i64 c, .int .i64 d, .int .i64 e, .int .i64 f] 40))
  go_enter Tryd.func26, Tryd.ntmps26
  go_wp2
  go_ret
  exact ⟨rfl, below_new _ _⟩
set_option maxRecDepth 100000 in
set_option maxHeartbeats 1000000 in
theorem IndexT_none (v : Value) (l : List Tg) (s : Int) (B : Nat) (w : World) (hl : l.length ≤ 1024) (hv : Tgs w v l) (hB : w.cell? ⟨B, 0, none⟩ = some (.int .i64 s)) (hs : ∀ t ∈ l, t.1 = s) :
    Calls Tryd.prog 36 #[v, .func (.func 26) #[] #[.pointer (some ⟨B, 0, none⟩)]] w fun r w' => r = .returned (.int .i64 (-1)) ∧ Below w.heap.size w w' := by
  have HV := Lib.hid hv
  have HS := Lib.hid hs
  obtain ⟨a, cp, rfl, _, _⟩ := hv
  clear hs
  go_enter Tryd.func36, Tryd.ntmps36
  go_wp2_with fail
  go_loopw [8] (fun i wr => ∃ k : Nat, k ≤ l.length ∧ i = .int .i64 k ∧ Below w.heap.size w wr) (fun i _ => l.length - (intOf i).toNat)
  case atStart => exact ⟨0, by omega, rfl, Below.refl _ _⟩
  case round =>
    obtain ⟨k, hk, rfl, hbel⟩ := hrel
    by_cases hlt : k < l.length
    · obtain ⟨b, off, cap, hvv, hcs⟩ := HV.out.head (by omega)
      simp only [Value.slice.injEq] at hvv
      obtain ⟨rfl, _, rfl⟩ := hvv
      obtain ⟨x, hx⟩ : ∃ x, l[k]? = some x := ⟨_, List.getElem?_eq_getElem hlt⟩
      obtain ⟨c0, c1, c2, c3, c4, c5⟩ := hcs k x hx
      have c0 := cellb c0 hbel
      have c1 := cellb c1 hbel
      have c2 := cellb c2 hbel
      have c3 := cellb c3 hbel
      have c4 := cellb c4 hbel
      have c5 := cellb c5 hbel
      have hxs := HS.out x (List.mem_of_getElem? hx)
      have TL := Lib.hid (Lost1_any x.1 x.2.1 x.2.2.1 x.2.2.2.1 x.2.2.2.2.1 x.2.2.2.2.2 s B wr (cellb hB hbel))
      have hz : (x.1 != s) = false := by rw [hxs]; simp
      rw [hz] at TL
      clear hcs hx hxs hz
      go_wp2_with fail
      refine TL.out.mono ?_
      rintro e w5 ⟨rfl, hb5⟩
      clear c0 c1 c2 c3 c4 c5
      go_wp2_with fail
      go_roundw
      case rel => exact ⟨k + 1, by omega, by go_num, bthen hbel hb5⟩
      case measure => simp [intOf]; omega
    · obtain rfl : k = l.length := by omega
      go_wp2
      go_ret
      exact ⟨rfl, hbel⟩
theorem DeleteT_none (v : Value) (l : List Tg) (s : Int) (B : Nat) (w : World) (hl : l.length ≤ 1024) (hv : Tgs w v l) (hB : w.cell? ⟨B, 0, none⟩ = some (.int .i64 s)) (hs : ∀ t ∈ l, t.1 = s) :
    Calls Tryd.prog 24 #[v, .func (.func 26) #[] #[.pointer (some ⟨B, 0, none⟩)]] w fun r w' => r = .returned v ∧ Below w.heap.size w w' := by
  have TI := Lib.hid (IndexT_none v l s B w hl hv hB hs)
  obtain ⟨a, cp, rfl, _, _⟩ := hv
  clear hs hB
  go_enter Tryd.func24, Tryd.ntmps24
  go_wp2_with fail
  refine TI.out.mono ?_
  rintro e w5 ⟨rfl, hb5⟩
  go_wp2
  go_ret
  exact ⟨rfl, hb5⟩
theorem and_mask (x : Int) (hx : 0 ≤ x ∧ x < 1099511627776) : bits .and .i64 x 65535 = x % 65536 := by
  obtain ⟨X, rfl⟩ := Int.eq_ofNat_of_zero_le hx.1
  have h1 : X &&& 65535 = X % 65536 := Nat.and_two_pow_sub_one_eq_mod X 16
  show IntKind.i64.wrap ((BitVec.ofInt 64 (X : Int) &&& BitVec.ofInt 64 (65535 : Int)).toNat : Nat) = _
  have e1 : BitVec.ofInt 64 (X : Int) = BitVec.ofNat 64 X := rfl
  have e2 : BitVec.ofInt 64 (65535 : Int) = BitVec.ofNat 64 65535 := rfl
  rw [e1, e2, BitVec.toNat_and, BitVec.toNat_ofNat, BitVec.toNat_ofNat, Nat.mod_eq_of_lt (by omega), Nat.mod_eq_of_lt (by decide), h1]
  have h2 : -9223372036854775808 ≤ ((X % 65536 : Nat) : Int) ∧ ((X % 65536 : Nat) : Int) ≤ 9223372036854775807 := by omega
  rw [IntWalk.i64_in _ h2]
  omega
theorem gapsL_snoc : ∀ (l : List Int) (a b : Int), gapsL (l ++ [a] ++ [b]) = gapsL (l ++ [a]) ++ gapL a b
  | [], a, b => by simp [gapsL]
  | [c], a, b => by simp [gapsL]
  | c :: d :: l, a, b => by
    have ih := gapsL_snoc (d :: l) a b
    simp only [List.cons_append, gapsL] at ih ⊢
    rw [ih, List.append_assoc]
theorem gaps_take (l : List Int) (i : Nat) (hi : 1 ≤ i) (h : i < l.length) : gapsL (l.take (i + 1)) = gapsL (l.take i) ++ gapL (l[i - 1]?.getD 0) (l[i]?.getD 0) := by
  obtain ⟨j, rfl⟩ : ∃ j, i = j + 1 := ⟨i - 1, by omega⟩
  rw [List.take_add_one, List.take_add_one, List.getElem?_eq_getElem (by omega), List.getElem?_eq_getElem h, Nat.add_sub_cancel, List.getElem?_eq_getElem (by omega)]
  exact gapsL_snoc _ _ _
theorem gap_end {c d : Int} (hc : 0 ≤ c ∧ c < 65536) (hd : 0 ≤ d ∧ d < 65536) (k : Nat) (hk : (k : Int) ≤ (d - c - 1) % 65536) : ((c + 1 + (k : Int)) % 65536 = d) ↔ (k : Int) = (d - c - 1) % 65536 := by
  omega
end Go.Proofs.YtjmdnolmaofbiaaDoor

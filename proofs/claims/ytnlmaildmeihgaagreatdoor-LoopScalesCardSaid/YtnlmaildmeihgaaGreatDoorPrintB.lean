/- Print: the fields of a loop. -/
import Derived.Test.YtnlmaildmeihgaaGreatDoorPrintA
import Derived.Lib.ItoaLen
import Derived.Deep.DeepAppendWide
namespace Go.Proofs.YtnlmaildmeihgaaGreatDoor
open Go.RowKit

theorem field1 (B : Nat) (w : World) : Calls Tryz.prog 155 #[.pointer (some ⟨B, 0, none⟩)] w fun e w' => e = .returned (.pointer (some ⟨B, 0, none⟩)) ∧ w = w' := by
  go_enter Tryz.func155, Tryz.ntmps155
  go_wp2
  go_ret
  exact ⟨rfl, rfl⟩
theorem field2 (B : Nat) (w : World) : Calls Tryz.prog 156 #[.pointer (some ⟨B, 0, none⟩)] w fun e w' => e = .returned (.pointer (some ⟨B, 1, none⟩)) ∧ w = w' := by
  go_enter Tryz.func156, Tryz.ntmps156
  go_wp2
  go_ret
  exact ⟨rfl, rfl⟩
theorem field3 (B : Nat) (w : World) : Calls Tryz.prog 157 #[.pointer (some ⟨B, 0, none⟩)] w fun e w' => e = .returned (.pointer (some ⟨B, 2, none⟩)) ∧ w = w' := by
  go_enter Tryz.func157, Tryz.ntmps157
  go_wp2
  go_ret
  exact ⟨rfl, rfl⟩
theorem field4 (B : Nat) (w : World) : Calls Tryz.prog 158 #[.pointer (some ⟨B, 0, none⟩)] w fun e w' => e = .returned (.pointer (some ⟨B, 3, none⟩)) ∧ w = w' := by
  go_enter Tryz.func158, Tryz.ntmps158
  go_wp2
  go_ret
  exact ⟨rfl, rfl⟩

/-- the four fields' entries: a name and a function each. -/
def fld : Nat → Value
  | 0 => .agg #[.string ⟨#[112, 108, 97, 110, 116, 110, 117, 109]⟩, .func (.func 155) #[] #[]]
  | 1 => .agg #[.string ⟨#[112, 108, 97, 110, 116, 100, 101, 110]⟩, .func (.func 156) #[] #[]]
  | 2 => .agg #[.string ⟨#[99, 111, 110, 116, 114, 111, 108, 108, 101, 114, 110, 117, 109]⟩, .func (.func 157) #[] #[]]
  | _ => .agg #[.string ⟨#[99, 111, 110, 116, 114, 111, 108, 108, 101, 114, 100, 101, 110]⟩, .func (.func 158) #[] #[]]
open Classical in
/-- how an entry reads: as its number. -/
noncomputable def fldR (v : Value) : Option (DataW Unit × List MemPlace) :=
  if v = fld 0 then some (.lit (.int .i64 0), []) else if v = fld 1 then some (.lit (.int .i64 1), []) else if v = fld 2 then some (.lit (.int .i64 2), []) else if v = fld 3 then some (.lit (.int .i64 3), []) else some (.lit (.int .i64 (-1)), [])

theorem fldR0 : fldR (fld 0) = some (.lit (.int .i64 0), []) := by simp [fldR]
theorem fldR1 : fldR (fld 1) = some (.lit (.int .i64 1), []) := by simp [fldR, fld]
theorem fldR2 : fldR (fld 2) = some (.lit (.int .i64 2), []) := by simp [fldR, fld]
theorem fldR3 : fldR (fld 3) = some (.lit (.int .i64 3), []) := by simp [fldR, fld]
def fldD : DataW Unit := ((((DataW.map []).put (.int .i64 0) (.lit (.int .i64 0))).put (.int .i64 1) (.lit (.int .i64 1))).put (.int .i64 2) (.lit (.int .i64 2))).put (.int .i64 3) (.lit (.int .i64 3))

set_option maxRecDepth 100000 in
theorem fields_any (w : World) : Calls Tryz.prog 129 #[] w fun e w' => ∃ b, e = .returned (.map (some b)) ∧ w'.ownsMap Tryz.prog 3 fldR b 4 fldD ∧ Below w.heap.size w w' := by
  have hu : Tryz.prog.underlying 3 = some (.int .i64) := by kernel_rfl
  have hm : Tryz.prog.underlying 183 = some (.map 3 187) := by kernel_rfl
  obtain ⟨w1, r1, o1, g1⟩ := (World.ownsMap_made (H := Unit) w Tryz.prog 3 fldR).update (Maps.int_keyed hu) hm (by decide) (Maps.keyOf_int_mk hu (a := 0) (by decide)) fldR0
  obtain ⟨w2, r2, o2, g2⟩ := o1.update (Maps.int_keyed hu) hm (by decide) (Maps.keyOf_int_mk hu (a := 1) (by decide)) fldR1
  obtain ⟨w3, r3, o3, g3⟩ := o2.update (Maps.int_keyed hu) hm (by decide) (Maps.keyOf_int_mk hu (a := 2) (by decide)) fldR2
  obtain ⟨w4, r4, o4, g4⟩ := o3.update (Maps.int_keyed hu) hm (by decide) (Maps.keyOf_int_mk hu (a := 3) (by decide)) fldR3
  have b1 := (below_new w (.map #[] 0)).grown g1 (by simp) (fun k hk => by cases hk; exact Nat.le_refl _)
  have b2 := b1.grown g2 b1.size (fun k hk => by cases hk; exact Nat.le_refl _)
  have b3 := b2.grown g3 b2.size (fun k hk => by cases hk; exact Nat.le_refl _)
  have b4 := b3.grown g4 b3.size (fun k hk => by cases hk; exact Nat.le_refl _)
  simp only [fld] at r1 r2 r3 r4
  go_enter Tryz.func129, Tryz.ntmps129
  have hmk := fun (t : TypeId) (w : World) => run_makeMap (P := Tryz.prog) t w
  go_wp2
  go_ret
  exact ⟨_, rfl, o4, b4⟩

theorem fldR_inv {v : Value} {k : Nat} {ps : List MemPlace} (hk : k < 4) (h : fldR v = some (.lit (.int .i64 k), ps)) : v = fld k := by
  unfold fldR at h
  split at h
  · rename_i e
    simp at h
    obtain rfl : k = 0 := by omega
    exact e
  split at h
  · rename_i e
    simp at h
    obtain rfl : k = 1 := by omega
    exact e
  split at h
  · rename_i e
    simp at h
    obtain rfl : k = 2 := by omega
    exact e
  split at h
  · rename_i e
    simp at h
    obtain rfl : k = 3 := by omega
    exact e
  · simp at h
theorem fld_look {w : World} {b : Nat} (h : w.ownsMap Tryz.prog 3 fldR b 4 fldD) (k : Nat) (hk : k < 4) : (Instr.lookup 183 (.map (some b)) (.int .i64 k) false).run Tryz.prog w = .ok (fld k) w := by
  have hu : Tryz.prog.underlying 3 = some (.int .i64) := by kernel_rfl
  have hm : Tryz.prog.underlying 183 = some (.map 3 187) := by kernel_rfl
  have hz : (zeroValue 187).run Tryz.prog w = .ok (.agg #[.string ⟨#[]⟩, .nilFunc]) w := by kernel_rfl
  have hzd : fldR (.agg #[.string ⟨#[]⟩, .nilFunc]) = some (.lit (.int .i64 (-1)), []) := by simp [fldR, fld]
  have hw : (Lit.int .i64 (k : Int)).wf = true := by
    obtain rfl | rfl | rfl | rfl : k = 0 ∨ k = 1 ∨ k = 2 ∨ k = 3 := by omega
    all_goals decide
  obtain ⟨v, ps, hr, hv⟩ := h.lookup (Maps.int_keyed hu) hm hz hzd (Maps.keyOf_int_mk hu hw)
  have hD : fldD.atKey (.int .i64 (k : Int)) (.lit (.int .i64 (-1))) = (.lit (.int .i64 (k : Int)) : DataW Unit) := by
    obtain rfl | rfl | rfl | rfl : k = 0 ∨ k = 1 ∨ k = 2 ∨ k = 3 := by omega
    all_goals rfl
  rw [hD] at hv
  rw [hr, fldR_inv hk hv]

theorem fld_len {w : World} {b : Nat} (h : w.ownsMap Tryz.prog 3 fldR b 4 fldD) : ∃ es clock, w.heap[b]? = some (.map es clock) ∧ es.size = 4 := by
  obtain ⟨es, clock, hb, F, hs, hD⟩ := h
  refine ⟨es, clock, hb, ?_⟩
  have e : fldD = .map [(.int .i64 0, .lit (.int .i64 0)), (.int .i64 1, .lit (.int .i64 1)), (.int .i64 2, .lit (.int .i64 2)), (.int .i64 3, .lit (.int .i64 3))] := by rfl
  rw [e] at hD
  injection hD with hD
  have hl := congrArg List.length hD
  rw [show ∀ l : List (Lit × DataW Unit), (l.foldr DataW.insert []).length = l.length from fun l => by exact Go.length_sorted l] at hl
  simpa using hl.symm

/-- a slice of values of one cell each, as a source of an append. -/
theorem Vals.src {P : Program} {w : World} {v : Value} {us : List Value} (h : Vals w v us) {tx e : TypeId} (hk : P.underlying tx = some (.slice e)) (h0 : 0 < us.length) (h1 : ∀ u ∈ us, u.oneCell' = true) : Src P 1 tx v us.length us w := by
  obtain ⟨a, cap, rfl, _, hc⟩ := h
  obtain ⟨b, off, rfl, hcs⟩ := hc h0
  exact Src.ofSlice w hk _ _ _ _ (by simp) (fun j u hj => by rw [addr_add]; exact hcs j u hj) h1

theorem run_append_one {P : Program} (w : World) (t tx ty e e' : TypeId) (i : TypeInfo) (z : Value) (bytes : Nat) (ht : P.underlying t = some (.slice e)) (htx : P.underlying tx = some (.slice e')) (hi : P.info? e = some i) (hz : i.zero = some z) (hs1 : i.size = 1) (hby : i.bytes = bytes) (hb2 : bytes ≤ 64)
    (g : Nat) (x : Value) (hc0 : w.cell? ⟨g, 0, none⟩ = some x) (v : Value) (us : List Value) (hv : Vals w v us) (h0 : 0 < us.length) (h1 : ∀ u ∈ us, u.oneCell' = true) (hl : us.length ≤ 1000000) :
    ∃ u w', (Builtin.append_ #[t, tx] ty #[.slice (some ⟨g, 0, none⟩) 1 1, v]).run P w = .ok u w' ∧ Vals w' u (x :: us) ∧ Below w.heap.size w w' := by
  have hsrc := hv.src htx h0 h1
  rw [← hs1] at hsrc
  have hcap : Builtin.nextslicecap (1 + us.length) 1 * i.bytes ≤ 281474976710656 := by
    have h := nextslicecap_le_wide (need := 1 + us.length) (old := 1) (by omega)
    rw [hby]
    calc _ ≤ (1 + us.length + (1 + us.length) / 4 + 192) * 64 := Nat.mul_le_mul h hb2
      _ ≤ _ := by omega
  have hrun := run_append_grow_src (P := P) (w := w) t tx ty e i z ht hi hz (some ⟨g, 0, none⟩) 1 1 [x] (run_firstCells_some w.drew i.size 1 ⟨g, 0, none⟩ 1 1 [x] (by simp [hs1]) (fun j u hj => by
    match j, hj with
    | 0, hj => simp at hj; subst hj; rw [addr_add]; exact hc0)) v us.length us hsrc (by omega) (by omega) hcap
  refine ⟨_, _, hrun, ⟨some ⟨w.heap.size, 0, none⟩, grownCap w (1 + us.length) 1 e, by rw [List.length_cons, Nat.add_comm us.length 1], ?_, fun _ => ⟨_, _, rfl, fun j u hj => ?_⟩⟩, (Below.refl _ _).drew.alloc (Nat.le_refl _) _⟩
  · have := grownCap_ge w (1 + us.length) 1 e
    rw [List.length_cons]; omega
  · have := cell_new w.drew ((([x] : List Value) ++ us).toArray ++ Builtin.zeroCells z.cells (grownCap w (1 + us.length) 1 e - (1 + us.length))) e j
    rw [show w.drew.heap.size = w.heap.size from rfl] at this
    rw [Nat.zero_add]
    refine this.trans ?_
    have hjl : j < (x :: us).length := (List.getElem?_eq_some_iff.1 hj).1
    rw [Array.getElem?_append_left (by simpa using hjl)]
    simpa using hj

theorem wp_append_one {P : Program} {o : Oper} {a : Act} {w : World} {K : Act → World → Prop} {Q : Exit → Act → World → Prop} (s x : Operand) (t tx e e' : TypeId)
    (ho : o.op = .call { callee := .builtin .append, args := #[s, x], argTypes := #[t, tx] })
    (i : TypeInfo) (z : Value) (bytes : Nat) (ht : P.underlying t = some (.slice e)) (htx : P.underlying tx = some (.slice e')) (hi : P.info? e = some i) (hz : i.zero = some z) (hs1 : i.size = 1) (hby : i.bytes = bytes) (hb2 : bytes ≤ 64)
    (g : Nat) (y : Value) (hs : a.eval s = .slice (some ⟨g, 0, none⟩) 1 1) (hc0 : w.cell? ⟨g, 0, none⟩ = some y) (v : Value) (us : List Value) (hx : a.eval x = v) (hv : Vals w v us) (h0 : 0 < us.length) (h1 : ∀ u ∈ us, u.oneCell' = true) (hl : us.length ≤ 1000000)
    (h : ∀ u w', Vals w' u (y :: us) → Below w.heap.size w w' → K (a.put o.dst u) w') : o.wp P a w K Q := by
  obtain ⟨u, w', hr, h2, h3⟩ := run_append_one (P := P) w t tx o.type e e' i z bytes ht htx hi hz hs1 hby hb2 g y hc0 v us hv h0 h1 hl
  unfold Oper.wp execOp
  simp only [ho, resolve, invoke, builtin, Sem.run_bind, Sem.run_pure, Result.andThen_ok, List.map_toArray, List.map_cons, List.map_nil, hs, hx, hr]
  exact h u w' h2 h3

/-- a field's name, and its function. -/
def fldName : Nat → ByteArray
  | 0 => ⟨#[112, 108, 97, 110, 116, 110, 117, 109]⟩
  | 1 => ⟨#[112, 108, 97, 110, 116, 100, 101, 110]⟩
  | 2 => ⟨#[99, 111, 110, 116, 114, 111, 108, 108, 101, 114, 110, 117, 109]⟩
  | _ => ⟨#[99, 111, 110, 116, 114, 111, 108, 108, 101, 114, 100, 101, 110]⟩
def fldF : Nat → Nat
  | 0 => 155
  | 1 => 156
  | 2 => 157
  | _ => 158
theorem fld_eq (k : Nat) : fld k = .agg #[.string (fldName k), .func (.func (fldF k)) #[] #[]] := by
  match k with
  | 0 => rfl
  | 1 => rfl
  | 2 => rfl
  | _ + 3 => rfl
theorem field_any (k : Nat) (hk : k < 4) (B : Nat) (w : World) : Calls Tryz.prog (fldF k) #[.pointer (some ⟨B, 0, none⟩)] w fun e w' => e = .returned (.pointer (some ⟨B, k, none⟩)) ∧ w = w' := by
  obtain rfl | rfl | rfl | rfl : k = 0 ∨ k = 1 ∨ k = 2 ∨ k = 3 := by omega
  · exact field1 B w
  · exact field2 B w
  · exact field3 B w
  · exact field4 B w
theorem field1_enter (args : Array Value) (w : World) : Sem.run Tryz.prog (callFunc 155 args) w = .ok (.enter 155 args) w :=
  MuLone.run_callFunc_enter Tryz.func155 (by kernel_rfl) rfl args w
theorem field2_enter (args : Array Value) (w : World) : Sem.run Tryz.prog (callFunc 156 args) w = .ok (.enter 156 args) w :=
  MuLone.run_callFunc_enter Tryz.func156 (by kernel_rfl) rfl args w
theorem field3_enter (args : Array Value) (w : World) : Sem.run Tryz.prog (callFunc 157 args) w = .ok (.enter 157 args) w :=
  MuLone.run_callFunc_enter Tryz.func157 (by kernel_rfl) rfl args w
theorem field4_enter (args : Array Value) (w : World) : Sem.run Tryz.prog (callFunc 158 args) w = .ok (.enter 158 args) w :=
  MuLone.run_callFunc_enter Tryz.func158 (by kernel_rfl) rfl args w
theorem field_enter (k : Nat) (hk : k < 4) (args : Array Value) (w : World) : Sem.run Tryz.prog (callFunc (fldF k) args) w = .ok (.enter (fldF k) args) w := by
  obtain rfl | rfl | rfl | rfl : k = 0 ∨ k = 1 ∨ k = 2 ∨ k = 3 := by omega
  · exact field1_enter args w
  · exact field2_enter args w
  · exact field3_enter args w
  · exact field4_enter args w

theorem field_word (s : ByteArray) (F : Nat) (w : World) : (Instr.field 187 (.agg #[.string s, .func (.func F) #[] #[]]) 0).run Tryz.prog w = .ok (.string s) w := by kernel_rfl
theorem field_func (s : ByteArray) (F : Nat) (w : World) : (Instr.field 187 (.agg #[.string s, .func (.func F) #[] #[]]) 1).run Tryz.prog w = .ok (.func (.func F) #[] #[]) w := by kernel_rfl
theorem map_below {w w' : World} {b : Nat} {D : DataW Unit} {n : Nat} (h : w.ownsMap Tryz.prog 3 fldR b n D) (hb : Below w.heap.size w w') : w'.ownsMap Tryz.prog 3 fldR b n D := by
  obtain ⟨es, clock, hc, r⟩ := h
  exact ⟨es, clock, (hb.block b (Array.getElem?_eq_some_iff.1 hc).1).trans hc, r⟩
theorem fld_lenR {w : World} {b : Nat} (h : w.ownsMap Tryz.prog 3 fldR b 4 fldD) (ty : TypeId) : (Builtin.len_ #[183] ty #[.map (some b)]).run Tryz.prog w = .ok (.int .i64 4) w := by
  obtain ⟨es, clock, hb, hs⟩ := fld_len h
  have := run_len_map (P := Tryz.prog) (w := w) 183 ty b es clock (by kernel_rfl) hb
  rw [hs] at this
  exact this

theorem word_size (n : Int) (h : -100 ≤ n ∧ n ≤ 100) : (word n).data.toList.length ≤ 21 := by
  have := Lib.itoa_length_le n (by omega) (by omega)
  simpa [word] using this

end Go.Proofs.YtnlmaildmeihgaaGreatDoor

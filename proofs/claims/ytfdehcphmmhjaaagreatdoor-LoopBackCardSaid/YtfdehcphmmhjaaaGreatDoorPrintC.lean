/- Print: numbers as words. -/
import Derived.Test.YtfdehcphmmhjaaaGreatDoorRingE
import Derived.Test.YtfdehcphmmhjaaaGreatDoorShelf
import Derived.Lib.LaidTab
import Derived.Lib.ItoaLen
import Derived.Deep.DeepAppendWide
namespace Go.Proofs.YtfdehcphmmhjaaaGreatDoor
open Go.RowKit

theorem below_grow_drew (w : World) (k : Nat) (os : Array Obj) : Below w.heap.size w (Go.Sort.grow (w.drewN k) os) :=
  ⟨rfl, rfl, rfl, by simp [Go.Sort.grow], fun i hi => by
    show ((w.drewN k).heap ++ os)[i]? = _
    rw [Array.getElem?_append_left (by show i < w.heap.size; omega)]
    rfl⟩

/-- the library's table of the powers of ten, as its initialiser lays it. -/
def Pows (w : World) : Prop := Lib.TabIs Tryz.prog w "internal/strconv.uint64pow10" .u64 Lib.pow10Tab
theorem Pows.below {w w' : World} (h : Pows w) (hb : Below w.heap.size w w') : Pows w' := by
  have hg : Tryz.prog.globalNamed "internal/strconv.uint64pow10" = some 1 := by kernel_rfl
  unfold Pows Lib.TabIs World.var? at h ⊢
  rw [hg] at h ⊢
  simp only [Option.bind_some] at h ⊢
  have hlt : 1 < w.heap.size := by
    rcases Nat.lt_or_ge 1 w.heap.size with h' | h'
    · exact h'
    · simp [h'] at h
  rw [hb.block _ hlt]
  exact h

/-- an integer's decimal numeral. -/
def word (n : Int) : ByteArray := ⟨(Lib.itoa n).toArray⟩
theorem Itoa_any (n : Int) (h0 : -9223372036854775808 ≤ n) (h1 : n ≤ 9223372036854775807) (w : World) (hp : Pows w) :
    Calls Tryz.prog 37 #[.int .i64 n] w fun e w' => e = .returned (.string (word n)) ∧ Below w.heap.size w w' :=
  (Tryz.strconv_Itoa n h0 h1 w hp).mono fun e w' h => by
    obtain ⟨h1, k, os, rfl⟩ := h
    exact ⟨h1, below_grow_drew w k os⟩

theorem Tryz.infoString : (Tryz.prog.info? 9).map (fun i => (i.zero, i.size, i.bytes)) = some (some (.string ⟨#[]⟩), 1, 16) := by kernel_rfl

/-- each number's numeral. -/
def wordsV (l : List Int) : List Value := l.map fun x => .string (word x)
theorem wordsV_length (l : List Int) : (wordsV l).length = l.length := by simp [wordsV]

set_option maxHeartbeats 400000 in
theorem words_any (v : Value) (l : List Int) (w : World) (hl : l.length ≤ 1000000) (hv : Ints w v l) (hp : Pows w) (hk : ∀ x ∈ l, -9223372036854775808 ≤ x ∧ x ≤ 9223372036854775807) :
    Calls Tryz.prog 36 #[v, .func (.func 37) #[] #[]] w fun r w' => (∃ u, r = .returned u ∧ Vals w' u (wordsV l)) ∧ Below w.heap.size w w' := by
  obtain ⟨a, cp, rfl, hc, hv⟩ := hv
  rcases Nat.eq_zero_or_pos l.length with h0 | h0
  · obtain rfl : l = [] := List.length_eq_zero_iff.1 h0
    go_enter Tryz.func36, Tryz.ntmps36
    go_wp2
    go_loop [5, 10] (fun v i => v = .slice none 0 0 ∧ i = .int .i64 0) (fun _ _ => 0)
    case atStart => exact ⟨rfl, rfl⟩
    case round =>
      obtain ⟨rfl, rfl⟩ := hrel
      go_wp2
      go_ret
      exact ⟨⟨_, rfl, Vals.nil _⟩, Below.refl _ _⟩
  · obtain ⟨b, off, rfl, hcs⟩ := hv h0
    clear hv
    obtain ⟨i0, hi, hz0, hz1, hz2⟩ := info_parts Tryz.infoString
    go_enter Tryz.func36, Tryz.ntmps36
    go_wp2
    go_loopw [5, 10] (fun v i wr => ∃ k : Nat, k ≤ l.length ∧ i = .int .i64 k ∧ wr.ownsRow w.heap.size 9 1 v k ((l.take k).map fun x => Value.string (word x)) ∧ Below w.heap.size w wr) (fun _ i _ => l.length - (intOf i).toNat)
    case atStart => exact ⟨0, by omega, rfl, World.ownsRow_nil _ _ _ _, Below.refl _ _⟩
    case round =>
      obtain ⟨k, hkl, rfl, hown, hbel⟩ := hrel
      by_cases hlt : k < l.length
      · have hcell := hcs k hlt
        have hcell2 : wr.cell? ⟨b, off + k, none⟩ = some (.int .i64 (l[k]?.getD 0)) := (hbel.cell (p := ⟨b, off + k, none⟩) (lt_of_cellSome hcell)).trans hcell
        clear hcs hcell
        generalize hx : l[k]?.getD 0 = x at hcell2
        have hm := hk x (by rw [← hx]; simp [hlt])
        have HX := Lib.hid hx
        have HI := Lib.hid (Itoa_any x hm.1 hm.2 wr (hp.below hbel))
        clear hx hm
        clear hk
        go_wp2_with fail
        refine HI.out.mono ?_
        rintro e w2 ⟨rfl, hb2⟩
        have hown2 := own_below hown hb2
        have hbel2 := bthen hbel hb2
        have hs2 := hbel2.size
        clear hown
        go_wp2_with (at_builtin; refine wpList_append_own _ rfl _ _ 43 rfl w.heap.size 9 i0 (.string ⟨#[]⟩) 1 16 Tryz.underlying43 hi hz0 hz1 hz2 rfl (by decide) _ _ _ rfl (hown2.alloc _) ⟨w2.heap.size, 0, none⟩ 1 1 [.string (word x)] rfl rfl (cell_one_new _ _ _) (by simp [Value.oneCell']) (by unfold maxLen; omega) (by omega) (by simp; omega) ?_; intro v' w1 hown' hgrow _)
        have hbel' := below_own hbel2 hown2 hgrow
        have hown3 : w1.ownsRow w.heap.size 9 1 v' (k + 1) ((l.take (k + 1)).map fun x => Value.string (word x)) := by
          rw [take_succ_map _ _ _ x (getElem?_of_getD hlt HX.out)]; exact hown'
        clear hown2 hbel hbel2 hown' hgrow
        go_wp2
        go_roundw
        case rel => exact ⟨k + 1, by omega, by go_num, hown3, hbel'⟩
        case measure => simp [intOf]; omega
      · obtain rfl : k = l.length := by omega
        have hout : Vals wr u5 (wordsV l) := by
          have h := Vals.of_own (us := wordsV l) (v := u5) (w := wr) (base := w.heap.size) (e := 9) (by rw [wordsV_length]; rw [List.take_length] at hown; exact hown)
          exact h
        clear hown
        go_wp2
        go_ret
        exact ⟨⟨_, rfl, hout⟩, hbel⟩

theorem field1 (B : Nat) (w : World) : Calls Tryz.prog 75 #[.pointer (some ⟨B, 0, none⟩)] w fun e w' => e = .returned (.pointer (some ⟨B, 0, none⟩)) ∧ w = w' := by
  go_enter Tryz.func75, Tryz.ntmps75
  go_wp2
  go_ret
  exact ⟨rfl, rfl⟩
theorem field2 (B : Nat) (w : World) : Calls Tryz.prog 76 #[.pointer (some ⟨B, 0, none⟩)] w fun e w' => e = .returned (.pointer (some ⟨B, 1, none⟩)) ∧ w = w' := by
  go_enter Tryz.func76, Tryz.ntmps76
  go_wp2
  go_ret
  exact ⟨rfl, rfl⟩
theorem field3 (B : Nat) (w : World) : Calls Tryz.prog 77 #[.pointer (some ⟨B, 0, none⟩)] w fun e w' => e = .returned (.pointer (some ⟨B, 2, none⟩)) ∧ w = w' := by
  go_enter Tryz.func77, Tryz.ntmps77
  go_wp2
  go_ret
  exact ⟨rfl, rfl⟩
theorem field4 (B : Nat) (w : World) : Calls Tryz.prog 78 #[.pointer (some ⟨B, 0, none⟩)] w fun e w' => e = .returned (.pointer (some ⟨B, 3, none⟩)) ∧ w = w' := by
  go_enter Tryz.func78, Tryz.ntmps78
  go_wp2
  go_ret
  exact ⟨rfl, rfl⟩

/-- the four fields' entries: a name and a function each. -/
def fld : Nat → Value
  | 0 => .agg #[.string ⟨#[112, 108, 97, 110, 116, 110, 117, 109]⟩, .func (.func 75) #[] #[]]
  | 1 => .agg #[.string ⟨#[112, 108, 97, 110, 116, 100, 101, 110]⟩, .func (.func 76) #[] #[]]
  | 2 => .agg #[.string ⟨#[99, 111, 110, 116, 114, 111, 108, 108, 101, 114, 110, 117, 109]⟩, .func (.func 77) #[] #[]]
  | _ => .agg #[.string ⟨#[99, 111, 110, 116, 114, 111, 108, 108, 101, 114, 100, 101, 110]⟩, .func (.func 78) #[] #[]]
open Classical in
/-- how an entry reads: as its number. -/
noncomputable def fldR (v : Value) : Option (DataW Unit × List MemPlace) :=
  if v = fld 0 then some (.lit (.int .i64 0), []) else if v = fld 1 then some (.lit (.int .i64 1), []) else if v = fld 2 then some (.lit (.int .i64 2), []) else if v = fld 3 then some (.lit (.int .i64 3), []) else some (.lit (.int .i64 (-1)), [])

theorem fldR0 : fldR (fld 0) = some (.lit (.int .i64 0), []) := by simp [fldR]
theorem fldR1 : fldR (fld 1) = some (.lit (.int .i64 1), []) := by simp [fldR, fld]
theorem fldR2 : fldR (fld 2) = some (.lit (.int .i64 2), []) := by simp [fldR, fld]
theorem fldR3 : fldR (fld 3) = some (.lit (.int .i64 3), []) := by simp [fldR, fld]
def fldD : DataW Unit := ((((DataW.map []).put (.int .i64 0) (.lit (.int .i64 0))).put (.int .i64 1) (.lit (.int .i64 1))).put (.int .i64 2) (.lit (.int .i64 2))).put (.int .i64 3) (.lit (.int .i64 3))

set_option maxRecDepth 100000 in
theorem fields_any (w : World) : Calls Tryz.prog 35 #[] w fun e w' => ∃ b, e = .returned (.map (some b)) ∧ w'.ownsMap Tryz.prog 3 fldR b 4 fldD ∧ Below w.heap.size w w' := by
  have hu : Tryz.prog.underlying 3 = some (.int .i64) := by kernel_rfl
  have hm : Tryz.prog.underlying 86 = some (.map 3 90) := by kernel_rfl
  obtain ⟨w1, r1, o1, g1⟩ := (World.ownsMap_made (H := Unit) w Tryz.prog 3 fldR).update (Maps.int_keyed hu) hm (by decide) (Maps.keyOf_int_mk hu (a := 0) (by decide)) fldR0
  obtain ⟨w2, r2, o2, g2⟩ := o1.update (Maps.int_keyed hu) hm (by decide) (Maps.keyOf_int_mk hu (a := 1) (by decide)) fldR1
  obtain ⟨w3, r3, o3, g3⟩ := o2.update (Maps.int_keyed hu) hm (by decide) (Maps.keyOf_int_mk hu (a := 2) (by decide)) fldR2
  obtain ⟨w4, r4, o4, g4⟩ := o3.update (Maps.int_keyed hu) hm (by decide) (Maps.keyOf_int_mk hu (a := 3) (by decide)) fldR3
  have b1 := (below_new w (.map #[] 0)).grown g1 (by simp) (fun k hk => by cases hk; exact Nat.le_refl _)
  have b2 := b1.grown g2 b1.size (fun k hk => by cases hk; exact Nat.le_refl _)
  have b3 := b2.grown g3 b2.size (fun k hk => by cases hk; exact Nat.le_refl _)
  have b4 := b3.grown g4 b3.size (fun k hk => by cases hk; exact Nat.le_refl _)
  simp only [fld] at r1 r2 r3 r4
  go_enter Tryz.func35, Tryz.ntmps35
  have hmk := fun (t : TypeId) (w : World) => run_makeMap (P := Tryz.prog) t w
  go_wp2
  go_ret
  exact ⟨_, rfl, o4, b4⟩

theorem fldR_inv {v : Value} {k : Nat} {ps : List MemPlace} (hk : k < 4) (h : fldR v = some (.lit (.int .i64 k), ps)) : v = fld k := by
  unfold fldR at h
  split at h
  · rename_i e
    simp at h
    obtain rfl : k = 0 := by omega
    exact e
  split at h
  · rename_i e
    simp at h
    obtain rfl : k = 1 := by omega
    exact e
  split at h
  · rename_i e
    simp at h
    obtain rfl : k = 2 := by omega
    exact e
  split at h
  · rename_i e
    simp at h
    obtain rfl : k = 3 := by omega
    exact e
  · simp at h
theorem fld_look {w : World} {b : Nat} (h : w.ownsMap Tryz.prog 3 fldR b 4 fldD) (k : Nat) (hk : k < 4) : (Instr.lookup 86 (.map (some b)) (.int .i64 k) false).run Tryz.prog w = .ok (fld k) w := by
  have hu : Tryz.prog.underlying 3 = some (.int .i64) := by kernel_rfl
  have hm : Tryz.prog.underlying 86 = some (.map 3 90) := by kernel_rfl
  have hz : (zeroValue 90).run Tryz.prog w = .ok (.agg #[.string ⟨#[]⟩, .nilFunc]) w := by kernel_rfl
  have hzd : fldR (.agg #[.string ⟨#[]⟩, .nilFunc]) = some (.lit (.int .i64 (-1)), []) := by simp [fldR, fld]
  have hw : (Lit.int .i64 (k : Int)).wf = true := by
    obtain rfl | rfl | rfl | rfl : k = 0 ∨ k = 1 ∨ k = 2 ∨ k = 3 := by omega
    all_goals decide
  obtain ⟨v, ps, hr, hv⟩ := h.lookup (Maps.int_keyed hu) hm hz hzd (Maps.keyOf_int_mk hu hw)
  have hD : fldD.atKey (.int .i64 (k : Int)) (.lit (.int .i64 (-1))) = (.lit (.int .i64 (k : Int)) : DataW Unit) := by
    obtain rfl | rfl | rfl | rfl : k = 0 ∨ k = 1 ∨ k = 2 ∨ k = 3 := by omega
    all_goals rfl
  rw [hD] at hv
  rw [hr, fldR_inv hk hv]

theorem fld_len {w : World} {b : Nat} (h : w.ownsMap Tryz.prog 3 fldR b 4 fldD) : ∃ es clock, w.heap[b]? = some (.map es clock) ∧ es.size = 4 := by
  obtain ⟨es, clock, hb, F, hs, hD⟩ := h
  refine ⟨es, clock, hb, ?_⟩
  have e : fldD = .map [(.int .i64 0, .lit (.int .i64 0)), (.int .i64 1, .lit (.int .i64 1)), (.int .i64 2, .lit (.int .i64 2)), (.int .i64 3, .lit (.int .i64 3))] := by rfl
  rw [e] at hD
  injection hD with hD
  have hl := congrArg List.length hD
  rw [show ∀ l : List (Lit × DataW Unit), (l.foldr DataW.insert []).length = l.length from fun l => by exact Go.length_sorted l] at hl
  simpa using hl.symm

/-- a slice of values of one cell each, as a source of an append. -/
theorem Vals.src {P : Program} {w : World} {v : Value} {us : List Value} (h : Vals w v us) {tx e : TypeId} (hk : P.underlying tx = some (.slice e)) (h0 : 0 < us.length) (h1 : ∀ u ∈ us, u.oneCell' = true) : Src P 1 tx v us.length us w := by
  obtain ⟨a, cap, rfl, _, hc⟩ := h
  obtain ⟨b, off, rfl, hcs⟩ := hc h0
  exact Src.ofSlice w hk _ _ _ _ (by simp) (fun j u hj => by rw [addr_add]; exact hcs j u hj) h1

theorem run_append_one {P : Program} (w : World) (t tx ty e e' : TypeId) (i : TypeInfo) (z : Value) (bytes : Nat) (ht : P.underlying t = some (.slice e)) (htx : P.underlying tx = some (.slice e')) (hi : P.info? e = some i) (hz : i.zero = some z) (hs1 : i.size = 1) (hby : i.bytes = bytes) (hb2 : bytes ≤ 64)
    (g : Nat) (x : Value) (hc0 : w.cell? ⟨g, 0, none⟩ = some x) (v : Value) (us : List Value) (hv : Vals w v us) (h0 : 0 < us.length) (h1 : ∀ u ∈ us, u.oneCell' = true) (hl : us.length ≤ 1000000) :
    ∃ u w', (Builtin.append_ #[t, tx] ty #[.slice (some ⟨g, 0, none⟩) 1 1, v]).run P w = .ok u w' ∧ Vals w' u (x :: us) ∧ Below w.heap.size w w' := by
  have hsrc := hv.src htx h0 h1
  rw [← hs1] at hsrc
  have hcap : Builtin.nextslicecap (1 + us.length) 1 * i.bytes ≤ 281474976710656 := by
    have h := nextslicecap_le_wide (need := 1 + us.length) (old := 1) (by omega)
    rw [hby]
    calc _ ≤ (1 + us.length + (1 + us.length) / 4 + 192) * 64 := Nat.mul_le_mul h hb2
      _ ≤ _ := by omega
  have hrun := run_append_grow_src (P := P) (w := w) t tx ty e i z ht hi hz (some ⟨g, 0, none⟩) 1 1 [x] (run_firstCells_some w.drew i.size 1 ⟨g, 0, none⟩ 1 1 [x] (by simp [hs1]) (fun j u hj => by
    match j, hj with
    | 0, hj => simp at hj; subst hj; rw [addr_add]; exact hc0)) v us.length us hsrc (by omega) (by omega) hcap
  refine ⟨_, _, hrun, ⟨some ⟨w.heap.size, 0, none⟩, grownCap w (1 + us.length) 1 e, by rw [List.length_cons, Nat.add_comm us.length 1], ?_, fun _ => ⟨_, _, rfl, fun j u hj => ?_⟩⟩, (Below.refl _ _).drew.alloc (Nat.le_refl _) _⟩
  · have := grownCap_ge w (1 + us.length) 1 e
    rw [List.length_cons]; omega
  · have := cell_new w.drew ((([x] : List Value) ++ us).toArray ++ Builtin.zeroCells z.cells (grownCap w (1 + us.length) 1 e - (1 + us.length))) e j
    rw [show w.drew.heap.size = w.heap.size from rfl] at this
    rw [Nat.zero_add]
    refine this.trans ?_
    have hjl : j < (x :: us).length := (List.getElem?_eq_some_iff.1 hj).1
    rw [Array.getElem?_append_left (by simpa using hjl)]
    simpa using hj

theorem wp_append_one {P : Program} {o : Oper} {a : Act} {w : World} {K : Act → World → Prop} {Q : Exit → Act → World → Prop} (s x : Operand) (t tx e e' : TypeId)
    (ho : o.op = .call { callee := .builtin .append, args := #[s, x], argTypes := #[t, tx] })
    (i : TypeInfo) (z : Value) (bytes : Nat) (ht : P.underlying t = some (.slice e)) (htx : P.underlying tx = some (.slice e')) (hi : P.info? e = some i) (hz : i.zero = some z) (hs1 : i.size = 1) (hby : i.bytes = bytes) (hb2 : bytes ≤ 64)
    (g : Nat) (y : Value) (hs : a.eval s = .slice (some ⟨g, 0, none⟩) 1 1) (hc0 : w.cell? ⟨g, 0, none⟩ = some y) (v : Value) (us : List Value) (hx : a.eval x = v) (hv : Vals w v us) (h0 : 0 < us.length) (h1 : ∀ u ∈ us, u.oneCell' = true) (hl : us.length ≤ 1000000)
    (h : ∀ u w', Vals w' u (y :: us) → Below w.heap.size w w' → K (a.put o.dst u) w') : o.wp P a w K Q := by
  obtain ⟨u, w', hr, h2, h3⟩ := run_append_one (P := P) w t tx o.type e e' i z bytes ht htx hi hz hs1 hby hb2 g y hc0 v us hv h0 h1 hl
  unfold Oper.wp execOp
  simp only [ho, resolve, invoke, builtin, Sem.run_bind, Sem.run_pure, Result.andThen_ok, List.map_toArray, List.map_cons, List.map_nil, hs, hx, hr]
  exact h u w' h2 h3

/-- a field's name, and its function. -/
def fldName : Nat → ByteArray
  | 0 => ⟨#[112, 108, 97, 110, 116, 110, 117, 109]⟩
  | 1 => ⟨#[112, 108, 97, 110, 116, 100, 101, 110]⟩
  | 2 => ⟨#[99, 111, 110, 116, 114, 111, 108, 108, 101, 114, 110, 117, 109]⟩
  | _ => ⟨#[99, 111, 110, 116, 114, 111, 108, 108, 101, 114, 100, 101, 110]⟩
def fldF : Nat → Nat
  | 0 => 75
  | 1 => 76
  | 2 => 77
  | _ => 78
theorem fld_eq (k : Nat) : fld k = .agg #[.string (fldName k), .func (.func (fldF k)) #[] #[]] := by
  match k with
  | 0 => rfl
  | 1 => rfl
  | 2 => rfl
  | _ + 3 => rfl
theorem field_any (k : Nat) (hk : k < 4) (B : Nat) (w : World) : Calls Tryz.prog (fldF k) #[.pointer (some ⟨B, 0, none⟩)] w fun e w' => e = .returned (.pointer (some ⟨B, k, none⟩)) ∧ w = w' := by
  obtain rfl | rfl | rfl | rfl : k = 0 ∨ k = 1 ∨ k = 2 ∨ k = 3 := by omega
  · exact field1 B w
  · exact field2 B w
  · exact field3 B w
  · exact field4 B w
theorem field1_enter (args : Array Value) (w : World) : Sem.run Tryz.prog (callFunc 75 args) w = .ok (.enter 75 args) w :=
  MuLone.run_callFunc_enter Tryz.func75 (by kernel_rfl) rfl args w
theorem field2_enter (args : Array Value) (w : World) : Sem.run Tryz.prog (callFunc 76 args) w = .ok (.enter 76 args) w :=
  MuLone.run_callFunc_enter Tryz.func76 (by kernel_rfl) rfl args w
theorem field3_enter (args : Array Value) (w : World) : Sem.run Tryz.prog (callFunc 77 args) w = .ok (.enter 77 args) w :=
  MuLone.run_callFunc_enter Tryz.func77 (by kernel_rfl) rfl args w
theorem field4_enter (args : Array Value) (w : World) : Sem.run Tryz.prog (callFunc 78 args) w = .ok (.enter 78 args) w :=
  MuLone.run_callFunc_enter Tryz.func78 (by kernel_rfl) rfl args w
theorem field_enter (k : Nat) (hk : k < 4) (args : Array Value) (w : World) : Sem.run Tryz.prog (callFunc (fldF k) args) w = .ok (.enter (fldF k) args) w := by
  obtain rfl | rfl | rfl | rfl : k = 0 ∨ k = 1 ∨ k = 2 ∨ k = 3 := by omega
  · exact field1_enter args w
  · exact field2_enter args w
  · exact field3_enter args w
  · exact field4_enter args w

theorem field_word (s : ByteArray) (F : Nat) (w : World) : (Instr.field 90 (.agg #[.string s, .func (.func F) #[] #[]]) 0).run Tryz.prog w = .ok (.string s) w := by kernel_rfl
theorem field_func (s : ByteArray) (F : Nat) (w : World) : (Instr.field 90 (.agg #[.string s, .func (.func F) #[] #[]]) 1).run Tryz.prog w = .ok (.func (.func F) #[] #[]) w := by kernel_rfl
theorem map_below {w w' : World} {b : Nat} {D : DataW Unit} {n : Nat} (h : w.ownsMap Tryz.prog 3 fldR b n D) (hb : Below w.heap.size w w') : w'.ownsMap Tryz.prog 3 fldR b n D := by
  obtain ⟨es, clock, hc, r⟩ := h
  exact ⟨es, clock, (hb.block b (Array.getElem?_eq_some_iff.1 hc).1).trans hc, r⟩
theorem fld_lenR {w : World} {b : Nat} (h : w.ownsMap Tryz.prog 3 fldR b 4 fldD) (ty : TypeId) : (Builtin.len_ #[86] ty #[.map (some b)]).run Tryz.prog w = .ok (.int .i64 4) w := by
  obtain ⟨es, clock, hb, hs⟩ := fld_len h
  have := run_len_map (P := Tryz.prog) (w := w) 86 ty b es clock (by kernel_rfl) hb
  rw [hs] at this
  exact this

theorem word_size (n : Int) (h : -100 ≤ n ∧ n ≤ 100) : (word n).data.toList.length ≤ 21 := by
  have := Lib.itoa_length_le n (by omega) (by omega)
  simpa [word] using this

/-- the words of a field's line, and the line. -/
def lineW (k : Nat) (l : List Int) : List ByteArray := fldName k :: l.map word
def joinB (xs : List ByteArray) : ByteArray := ⟨(Lib.join (xs.map (·.data.toList)) [32]).toArray⟩
def lineT (k : Nat) (l : List Int) : ByteArray := joinB (lineW k l) ++ ⟨#[10]⟩
def printT : Nat → (Nat → List Int) → ByteArray
  | 0, _ => ⟨#[]⟩
  | k + 1, f => printT k f ++ lineT k (f k)

/-- the k-th polynomial of a loop. -/
def four (a b c d : List Int) : Nat → List Int
  | 0 => a | 1 => b | 2 => c | _ => d
def printR (a b c d : List Int) : ByteArray := if checkLoopE a b c d ≠ 0 then ⟨#[]⟩ else printT 4 (four a b c d)

theorem four_poly {a b c d : List Int} (h : checkLoopE a b c d = 0) {k : Nat} (hk : k < 4) : checkPolyE (four a b c d k) = 0 := by
  obtain ⟨h1, h2, h3, h4⟩ := checkLoopE_ok h
  obtain rfl | rfl | rfl | rfl : k = 0 ∨ k = 1 ∨ k = 2 ∨ k = 3 := by omega
  all_goals assumption
theorem wordsV_one (l : List Int) : ∀ u ∈ wordsV l, u.oneCell' = true := by
  intro u hu
  obtain ⟨x, _, rfl⟩ := List.mem_map.1 hu
  rfl
theorem lens_words (l : List Int) (h : ∀ x ∈ l, -100 ≤ x ∧ x ≤ 100) : Lib.lens (l.map fun x => (word x).data.toList) ≤ 21 * l.length := by
  induction l with
  | nil => simp [Lib.lens]
  | cons x l ih =>
    have h1 := word_size x (h x (by simp))
    have h2 := ih fun y hy => h y (by simp [hy])
    simp only [Lib.lens, List.map_cons, List.sum_cons, List.length_cons] at h2 ⊢
    omega
theorem line_len (k : Nat) (l : List Int) (hl : l.length ≤ 5) (h : ∀ x ∈ l, -100 ≤ x ∧ x ≤ 100) : (Lib.join ((lineW k l).map (·.data.toList)) [32]).length ≤ 200 := by
  have h1 := lens_words l h
  have h2 : (fldName k).data.toList.length ≤ 13 := by
    match k with
    | 0 => decide
    | 1 => decide
    | 2 => decide
    | _ + 3 => simp [fldName]
  have h3 := Lib.join_length (fldName k).data.toList (l.map fun x => (word x).data.toList) [32]
  have e : (lineW k l).map (·.data.toList) = (fldName k).data.toList :: (l.map fun x => (word x).data.toList) := by simp [lineW]
  rw [e, h3]
  simp only [Lib.lens, List.map_cons, List.sum_cons, List.length_map, List.length_cons, List.length_nil] at h1 ⊢
  omega

set_option maxRecDepth 100000 in
set_option maxHeartbeats 4000000 in
theorem Print_any (va vb vc vd : Value) (a b c d : List Int) (w : World) (hp : Pows w) (ha : Ints w va a) (hb : Ints w vb b) (hc : Ints w vc c) (hd : Ints w vd d)
    (ha2 : a.length ≤ 100000) (hb2 : b.length ≤ 100000) (hc2 : c.length ≤ 100000) (hd2 : d.length ≤ 100000) :
    Calls Tryz.prog 7 #[.agg #[va, vb, vc, vd]] w fun r w' => r = .returned (.tuple #[.string (printR a b c d), .int .i64 (checkLoopE a b c d)]) ∧ Below w.heap.size w w' := by
  go_enter Tryz.func7, Tryz.ntmps7
  go_wp2_with fail
  obtain ⟨W1, hW1⟩ : ∃ v, v = World.alloc w (Obj.cells #[va, vb, vc, vd] 32) := ⟨_, rfl⟩
  have kW1 : Below w.heap.size w W1 := by rw [hW1]; exact below_new _ _
  have iW1 : Blk W1 (w.heap.size) 32 [va, vb, vc, vd] := by rw [hW1]; exact Blk.new _ _ _
  have sW1 : W1.heap.size = w.heap.size + 1 := by rw [hW1]; simp
  rw [← hW1]
  clear hW1
  clear sW1
  have TC := Lib.hid (CheckLoop_any va vb vc vd a b c d _ (ha.below kW1) (hb.below kW1) (hc.below kW1) (hd.below kW1) ha2 hb2 hc2 hd2)
  refine TC.out.mono ?_
  clear TC
  rintro e w2 ⟨rfl, h2⟩
  have hB2 := bthen kW1 h2
  have l2 := iW1.carry h2
  by_cases he : checkLoopE a b c d = 0
  · have HR := Lib.hid (show printR a b c d = printT 4 (four a b c d) by rw [printR, if_neg (by rw [he]; simp)])
    have HE := Lib.hid he
    rw [he]
    clear he
    go_wp2_with fail
    refine (fields_any w2).mono ?_
    rintro e w3 ⟨m, rfl, hm, h3⟩
    have hlen := fld_lenR hm 3
    have l3 := l2.carry h3
    have hB3 := bthen hB2 h3
    have HB := Lib.hid hB3
    clear hB2 h2 h3 l2 iW1 kW1
    go_wp2_with fail
    go_loopw [6, 17] (fun s i wr => ∃ k : Nat, k ≤ 4 ∧ i = .int .i64 k ∧ s = .string (printT k (four a b c d)) ∧ (printT k (four a b c d)).size ≤ 1000 * k ∧ Below w3.heap.size w3 wr) (fun _ i _ => 4 - (intOf i).toNat)
    case atStart => exact ⟨0, by omega, rfl, rfl, by simp [printT]; rfl, Below.refl _ _⟩
    case round =>
      obtain ⟨k, hk4, rfl, rfl, hsz, hbr⟩ := hrel
      clear hlen
      by_cases hlt : k < 4
      · have hmr := map_below hm hbr
        have lr := l3.carry hbr
        have hB := bthen HB.out hbr
        have hpr := hp.below hB
        have hP := checkPolyE_range (four_poly HE.out hlt)
        have hP2 := checkPolyE_ok (four_poly HE.out hlt)
        obtain ⟨v, hv, hints⟩ : ∃ v, ([va, vb, vc, vd] : List Value)[k]? = some v ∧ Ints wr v (four a b c d k) := by
          obtain rfl | rfl | rfl | rfl : k = 0 ∨ k = 1 ∨ k = 2 ∨ k = 3 := by omega
          · exact ⟨va, rfl, ha.below hB⟩
          · exact ⟨vb, rfl, hb.below hB⟩
          · exact ⟨vc, rfl, hc.below hB⟩
          · exact ⟨vd, rfl, hd.below hB⟩
        have hcv := lr.cell hv
        have HT : printT (k + 1) (four a b c d) = printT k (four a b c d) ++ lineT k (four a b c d k) := rfl
        generalize four a b c d k = l at hP hP2 hints HT
        have HT := Lib.hid HT
        generalize hB0 : w.heap.size = B0 at hcv lr
        have HW0 := Lib.hid hB0
        clear hB0
        obtain ⟨hP, _⟩ := hP
        obtain ⟨hP1, hP2⟩ := hP2
        have hent := field_enter k hlt
        obtain ⟨i0, hi, hz0, hz1, hz2⟩ := info_parts Tryz.infoString
        clear hm l3 hv hB ha hb hc hd
        go_upto_region 9 with fail
        go_cut [8] from 18 to 39 (fun u wn => Vals wn u ((lineW k l).map Value.string) ∧ Below wr.heap.size wr wn)
        case first =>
          refine wp_region_held_drew (S := (fun w' => w'.ownsMap Tryz.prog 3 fldR m 4 fldD ∧ w'.cell? ⟨B0, k, none⟩ = some v)) (by kernel_rfl) ⟨map_below hmr (Below.refl _ _).drew, cellb hcv (Below.refl _ _).drew⟩ (fun hHeld0 => ?_)
          obtain ⟨wzd, hwz⟩ : ∃ v, v = wr.drew := ⟨_, rfl⟩
          rw [← hwz] at hHeld0 ⊢
          have hbzd : Below wr.heap.size wr wzd := by rw [hwz]; exact (Below.refl _ _).drew
          have hlzd : Below wr.heap.size wr wzd := by rw [hwz]; exact (Below.refl _ _).drew
          clear hwz hlzd
          refine wpAnyH_take (i := 0) (oi := { dst := some 20, op := Op.move (Operand.tmp 5), type := 86, pos := "ring.go:166", after := #[], guard := none }) (v := ?_) rfl (by kernel_rfl) (by kernel_rfl) (by kernel_rfl) (fun _ _ _ h => h) (Or.inl ⟨by rfl, ?_⟩) (by assumption) ?_
          rotate_left
          · (intro w hSw; (try dsimp only at hSw); go_simp); (try with_reducible rfl)
          try simp only [Act.put, List.setIfInBounds_toArray, List.set_cons_zero, List.set_cons_succ]
          refine wpAnyH_take (i := 1) (oi := { dst := some 21, op := Op.move (Operand.tmp 7), type := 3, pos := "ring.go:166", after := #[], guard := none }) (v := ?_) rfl (by kernel_rfl) (by kernel_rfl) (by kernel_rfl) (fun _ _ _ h => h) (Or.inl ⟨by rfl, ?_⟩) (by assumption) ?_
          rotate_left
          · (intro w hSw; (try dsimp only at hSw); go_simp); (try with_reducible rfl)
          try simp only [Act.put, List.setIfInBounds_toArray, List.set_cons_zero, List.set_cons_succ]
          refine wpAnyH_take (i := 2) (oi := { dst := some 22, op := Op.lookup 86 (Operand.tmp 20) (Operand.tmp 21) false, type := 90, pos := "ring.go:166", after := #[{ on := 0, ground := Ground.data }, { on := 1, ground := Ground.data }], guard := none }) (v := ?_) rfl (by kernel_rfl) (by kernel_rfl) (by kernel_rfl) (fun _ _ _ h => h) (Or.inl ⟨by rfl, ?_⟩) (by assumption) ?_
          rotate_left
          · (intro w hSw; (try dsimp only at hSw); have hl2 := fld_look hSw.1 k hlt; rw [fld_eq] at hl2; go_simp); (try with_reducible rfl)
          try simp only [Act.put, List.setIfInBounds_toArray, List.set_cons_zero, List.set_cons_succ]
          refine wpAnyH_take (i := 3) (oi := { dst := some 23, op := Op.field 90 (Operand.tmp 22) 0, type := 9, pos := "ring.go:166", after := #[{ on := 2, ground := Ground.data }], guard := none }) (v := ?_) rfl (by kernel_rfl) (by kernel_rfl) (by kernel_rfl) (fun _ _ _ h => h) (Or.inl ⟨by rfl, ?_⟩) (by assumption) ?_
          rotate_left
          · (intro w hSw; (try dsimp only at hSw); have hl2 := field_word (fldName k) (fldF k) w; go_simp); (try with_reducible rfl)
          try simp only [Act.put, List.setIfInBounds_toArray, List.set_cons_zero, List.set_cons_succ]
          refine wpAnyH_take (i := 5) (oi := { dst := some 25, op := Op.move (Operand.tmp 5), type := 86, pos := "ring.go:166", after := #[], guard := none }) (v := ?_) rfl (by kernel_rfl) (by kernel_rfl) (by kernel_rfl) (fun _ _ _ h => h) (Or.inl ⟨by rfl, ?_⟩) (by assumption) ?_
          rotate_left
          · (intro w hSw; (try dsimp only at hSw); go_simp); (try with_reducible rfl)
          try simp only [Act.put, List.setIfInBounds_toArray, List.set_cons_zero, List.set_cons_succ]
          refine wpAnyH_take (i := 6) (oi := { dst := some 26, op := Op.move (Operand.tmp 7), type := 3, pos := "ring.go:166", after := #[], guard := none }) (v := ?_) rfl (by kernel_rfl) (by kernel_rfl) (by kernel_rfl) (fun _ _ _ h => h) (Or.inl ⟨by rfl, ?_⟩) (by assumption) ?_
          rotate_left
          · (intro w hSw; (try dsimp only at hSw); go_simp); (try with_reducible rfl)
          try simp only [Act.put, List.setIfInBounds_toArray, List.set_cons_zero, List.set_cons_succ]
          refine wpAnyH_take (i := 7) (oi := { dst := some 27, op := Op.lookup 86 (Operand.tmp 25) (Operand.tmp 26) false, type := 90, pos := "ring.go:166", after := #[{ on := 5, ground := Ground.data }, { on := 6, ground := Ground.data }], guard := none }) (v := ?_) rfl (by kernel_rfl) (by kernel_rfl) (by kernel_rfl) (fun _ _ _ h => h) (Or.inl ⟨by rfl, ?_⟩) (by assumption) ?_
          rotate_left
          · (intro w hSw; (try dsimp only at hSw); have hl2 := fld_look hSw.1 k hlt; rw [fld_eq] at hl2; go_simp); (try with_reducible rfl)
          try simp only [Act.put, List.setIfInBounds_toArray, List.set_cons_zero, List.set_cons_succ]
          refine wpAnyH_take (i := 8) (oi := { dst := some 28, op := Op.field 90 (Operand.tmp 27) 1, type := 88, pos := "ring.go:166", after := #[{ on := 7, ground := Ground.data }], guard := none }) (v := ?_) rfl (by kernel_rfl) (by kernel_rfl) (by kernel_rfl) (fun _ _ _ h => h) (Or.inl ⟨by rfl, ?_⟩) (by assumption) ?_
          rotate_left
          · (intro w hSw; (try dsimp only at hSw); have hl2 := field_func (fldName k) (fldF k) w; go_simp); (try with_reducible rfl)
          try simp only [Act.put, List.setIfInBounds_toArray, List.set_cons_zero, List.set_cons_succ]
          refine wpAnyH_ready (rs := [4, 9]) (by kernel_rfl) (by simp) ?_
          refine (AllReadyH.cons (o := { dst := some 24, op := Op.buildSlice 43 1 #[(0, Operand.tmp 23)], type := 43, pos := "ring.go:166", after := #[{ on := 3, ground := Ground.data }], guard := none }) rfl (fun K hK => ?_) (AllReadyH.cons (o := { dst := some 29, op := Op.call { callee := Callee.value (Operand.tmp 28), args := #[Operand.tmp 1], argTypes := #[93] }, type := 92, pos := "ring.go:166", after := #[{ on := 8, ground := Ground.data }], guard := none }) rfl (fun K hK => ?_) AllReadyH.nil))
          · go_simp
            obtain ⟨wz4, hwz⟩ : ∃ v, v = wzd.alloc (Obj.cells #[.string (fldName k)] 9) := ⟨_, rfl⟩
            rw [← hwz]
            have hl : Below wzd.heap.size wzd wz4 := by rw [hwz]; exact below_new _ _
            have hbz4 := bthen hbzd hl
            have bs : Blk wz4 wzd.heap.size 9 [.string (fldName k)] := by rw [hwz]; exact Blk.new _ _ _
            generalize wzd.heap.size = G at bs ⊢
            clear hwz
            clear hl
            refine hK.out _ _ ⟨map_below hmr hbz4, cellb hcv hbz4⟩ (fun hHeld1 => ?_)
            clear hK K hHeld0
            try simp only [Act.put, List.setIfInBounds_toArray, List.set_cons_zero, List.set_cons_succ]
            refine wpAnyH_ready (rs := [9]) (by kernel_rfl) (by simp) ?_
            refine (AllReadyH.cons (o := { dst := some 29, op := Op.call { callee := Callee.value (Operand.tmp 28), args := #[Operand.tmp 1], argTypes := #[93] }, type := 92, pos := "ring.go:166", after := #[{ on := 8, ground := Ground.data }], guard := none }) rfl (fun K hK => ?_) AllReadyH.nil)
            go_simp
            refine (field_any k hlt B0 wz4).mono ?_
            rintro e wz9 ⟨rfl, hww⟩
            have hl : Below wz4.heap.size wz4 wz9 := by rw [hww]; exact Below.refl _ _
            clear hww
            (try go_wp2_with fail)
            have hbz9 := bthen hbz4 hl
            have bs := bs.carry hl
            clear hl
            refine hK.out _ _ ⟨map_below hmr hbz9, cellb hcv hbz9⟩ (fun hHeld2 => ?_)
            clear hK K hHeld1
            try simp only [Act.put, List.setIfInBounds_toArray, List.set_cons_zero, List.set_cons_succ]
            refine wpAnyH_take (i := 10) (oi := { dst := some 30, op := Op.nilCheck (Operand.tmp 29), type := 0, pos := "ring.go:166", after := #[{ on := 9, ground := Ground.data }], guard := none }) (v := ?_) rfl (by kernel_rfl) (by kernel_rfl) (by kernel_rfl) (fun _ _ _ h => h) (Or.inl ⟨by rfl, ?_⟩) (by assumption) ?_
            rotate_left
            · (intro w hSw; (try dsimp only at hSw); go_simp); (try with_reducible rfl)
            try simp only [Act.put, List.setIfInBounds_toArray, List.set_cons_zero, List.set_cons_succ]
            refine wpAnyH_take (i := 11) (oi := { dst := some 31, op := Op.load 30 (Operand.tmp 30), type := 30, pos := "ring.go:166", after := #[{ on := 10, ground := Ground.data }], guard := none }) (v := ?_) rfl (by kernel_rfl) (by kernel_rfl) (by kernel_rfl) (fun _ _ _ h => h) (Or.inl ⟨by rfl, ?_⟩) (by assumption) ?_
            rotate_left
            · (intro w hSw; (try dsimp only at hSw); go_simp); (try with_reducible rfl)
            try simp only [Act.put, List.setIfInBounds_toArray, List.set_cons_zero, List.set_cons_succ]
            refine wpAnyH_ready (rs := [12]) (by kernel_rfl) (by simp) ?_
            refine (AllReadyH.cons (o := { dst := some 32, op := Op.call { callee := Callee.value (Operand.func 36), args := #[Operand.tmp 31, Operand.func 37], argTypes := #[22, 94] }, type := 43, pos := "ring.go:166", after := #[{ on := 11, ground := Ground.data }, { on := 9, ground := Ground.chain }], guard := none }) rfl (fun K hK => ?_) AllReadyH.nil)
            go_simp
            refine (words_any v l wz9 (by omega) (hints.below hbz9) (hpr.below hbz9) (fun x hx => by have := hP x hx; omega)).mono ?_
            rintro e wz12 ⟨⟨u, rfl, hu⟩, hl⟩
            (try go_wp2_with fail)
            have hbz12 := bthen hbz9 hl
            have bs := bs.carry hl
            clear hl
            refine hK.out _ _ ⟨map_below hmr hbz12, cellb hcv hbz12⟩ (fun hHeld3 => ?_)
            clear hK K hHeld2
            try simp only [Act.put, List.setIfInBounds_toArray, List.set_cons_zero, List.set_cons_succ]
            refine wpAnyH_ready (rs := [13]) (by kernel_rfl) (by simp) ?_
            refine (AllReadyH.cons (o := { dst := some 33, op := Op.call { callee := Callee.builtin Builtin.append, args := #[Operand.tmp 24, Operand.tmp 32], argTypes := #[43, 43] }, type := 43, pos := "ring.go:166", after := #[{ on := 4, ground := Ground.data }, { on := 12, ground := Ground.data }, { on := 12, ground := Ground.chain }], guard := none }) rfl (fun K hK => ?_) AllReadyH.nil)
            refine wp_append_one (.tmp 24) (.tmp 32) 43 43 9 9 rfl i0 (.string ⟨#[]⟩) 16 Tryz.underlying43 Tryz.underlying43 hi hz0 hz1 hz2 (by decide) G (.string (fldName k)) rfl (bs.cell rfl) u (wordsV l) rfl hu (by rw [wordsV_length]; omega) (wordsV_one l) (by rw [wordsV_length]; omega) ?_
            intro u2 wz13 hu2 hl
            have hbz13 := bthen hbz12 hl
            have bs := bs.carry hl
            have hu := hu.carry hl
            clear hl
            refine hK.out _ _ ⟨map_below hmr hbz13, cellb hcv hbz13⟩ (fun hHeld4 => ?_)
            clear hK K hHeld3
            try simp only [Act.put, List.setIfInBounds_toArray, List.set_cons_zero, List.set_cons_succ]
            refine wpAnyH_take (i := 14) (oi := { dst := some 8, op := Op.assign (Operand.tmp 33), type := 43, pos := "ring.go:166", after := #[{ on := 13, ground := Ground.data }, { on := 13, ground := Ground.chain }, { on := 0, ground := Ground.phase }, { on := 1, ground := Ground.phase }, { on := 2, ground := Ground.phase }, { on := 3, ground := Ground.phase }, { on := 4, ground := Ground.phase }, { on := 5, ground := Ground.phase }, { on := 6, ground := Ground.phase }, { on := 7, ground := Ground.phase }, { on := 8, ground := Ground.phase }, { on := 9, ground := Ground.phase }, { on := 10, ground := Ground.phase }, { on := 11, ground := Ground.phase }, { on := 12, ground := Ground.phase }, { on := 13, ground := Ground.phase }], guard := none }) (v := ?_) rfl (by kernel_rfl) (by kernel_rfl) (by kernel_rfl) (fun _ _ _ h => h) (Or.inl ⟨by rfl, ?_⟩) (by assumption) ?_
            rotate_left
            · (intro w hSw; (try dsimp only at hSw); go_simp); (try with_reducible rfl)
            try simp only [Act.put, List.setIfInBounds_toArray, List.set_cons_zero, List.set_cons_succ]
            refine wpAnyH_done (by kernel_rfl) ?_ _
            clear hHeld4
            go_wp2_with fail
            go_meet
            exact ⟨by rw [show (lineW k l).map Value.string = .string (fldName k) :: wordsV l by simp [lineW, wordsV]]; exact hu2, hbz13⟩
          · go_simp
            refine (field_any k hlt B0 wzd).mono ?_
            rintro e wz9 ⟨rfl, hww⟩
            have hl : Below wzd.heap.size wzd wz9 := by rw [hww]; exact Below.refl _ _
            clear hww
            (try go_wp2_with fail)
            have hbz9 := bthen hbzd hl
            clear hl
            refine hK.out _ _ ⟨map_below hmr hbz9, cellb hcv hbz9⟩ (fun hHeld1 => ?_)
            clear hK K hHeld0
            try simp only [Act.put, List.setIfInBounds_toArray, List.set_cons_zero, List.set_cons_succ]
            refine wpAnyH_take (i := 10) (oi := { dst := some 30, op := Op.nilCheck (Operand.tmp 29), type := 0, pos := "ring.go:166", after := #[{ on := 9, ground := Ground.data }], guard := none }) (v := ?_) rfl (by kernel_rfl) (by kernel_rfl) (by kernel_rfl) (fun _ _ _ h => h) (Or.inl ⟨by rfl, ?_⟩) (by assumption) ?_
            rotate_left
            · (intro w hSw; (try dsimp only at hSw); go_simp); (try with_reducible rfl)
            try simp only [Act.put, List.setIfInBounds_toArray, List.set_cons_zero, List.set_cons_succ]
            refine wpAnyH_take (i := 11) (oi := { dst := some 31, op := Op.load 30 (Operand.tmp 30), type := 30, pos := "ring.go:166", after := #[{ on := 10, ground := Ground.data }], guard := none }) (v := ?_) rfl (by kernel_rfl) (by kernel_rfl) (by kernel_rfl) (fun _ _ _ h => h) (Or.inl ⟨by rfl, ?_⟩) (by assumption) ?_
            rotate_left
            · (intro w hSw; (try dsimp only at hSw); go_simp); (try with_reducible rfl)
            try simp only [Act.put, List.setIfInBounds_toArray, List.set_cons_zero, List.set_cons_succ]
            refine wpAnyH_ready (rs := [4, 12]) (by kernel_rfl) (by simp) ?_
            refine (AllReadyH.cons (o := { dst := some 24, op := Op.buildSlice 43 1 #[(0, Operand.tmp 23)], type := 43, pos := "ring.go:166", after := #[{ on := 3, ground := Ground.data }], guard := none }) rfl (fun K hK => ?_) (AllReadyH.cons (o := { dst := some 32, op := Op.call { callee := Callee.value (Operand.func 36), args := #[Operand.tmp 31, Operand.func 37], argTypes := #[22, 94] }, type := 43, pos := "ring.go:166", after := #[{ on := 11, ground := Ground.data }, { on := 9, ground := Ground.chain }], guard := none }) rfl (fun K hK => ?_) AllReadyH.nil))
            · go_simp
              obtain ⟨wz4, hwz⟩ : ∃ v, v = wz9.alloc (Obj.cells #[.string (fldName k)] 9) := ⟨_, rfl⟩
              rw [← hwz]
              have hl : Below wz9.heap.size wz9 wz4 := by rw [hwz]; exact below_new _ _
              have hbz4 := bthen hbz9 hl
              have bs : Blk wz4 wz9.heap.size 9 [.string (fldName k)] := by rw [hwz]; exact Blk.new _ _ _
              generalize wz9.heap.size = G at bs ⊢
              clear hwz
              clear hl
              refine hK.out _ _ ⟨map_below hmr hbz4, cellb hcv hbz4⟩ (fun hHeld2 => ?_)
              clear hK K hHeld1
              try simp only [Act.put, List.setIfInBounds_toArray, List.set_cons_zero, List.set_cons_succ]
              refine wpAnyH_ready (rs := [12]) (by kernel_rfl) (by simp) ?_
              refine (AllReadyH.cons (o := { dst := some 32, op := Op.call { callee := Callee.value (Operand.func 36), args := #[Operand.tmp 31, Operand.func 37], argTypes := #[22, 94] }, type := 43, pos := "ring.go:166", after := #[{ on := 11, ground := Ground.data }, { on := 9, ground := Ground.chain }], guard := none }) rfl (fun K hK => ?_) AllReadyH.nil)
              go_simp
              refine (words_any v l wz4 (by omega) (hints.below hbz4) (hpr.below hbz4) (fun x hx => by have := hP x hx; omega)).mono ?_
              rintro e wz12 ⟨⟨u, rfl, hu⟩, hl⟩
              (try go_wp2_with fail)
              have hbz12 := bthen hbz4 hl
              have bs := bs.carry hl
              clear hl
              refine hK.out _ _ ⟨map_below hmr hbz12, cellb hcv hbz12⟩ (fun hHeld3 => ?_)
              clear hK K hHeld2
              try simp only [Act.put, List.setIfInBounds_toArray, List.set_cons_zero, List.set_cons_succ]
              refine wpAnyH_ready (rs := [13]) (by kernel_rfl) (by simp) ?_
              refine (AllReadyH.cons (o := { dst := some 33, op := Op.call { callee := Callee.builtin Builtin.append, args := #[Operand.tmp 24, Operand.tmp 32], argTypes := #[43, 43] }, type := 43, pos := "ring.go:166", after := #[{ on := 4, ground := Ground.data }, { on := 12, ground := Ground.data }, { on := 12, ground := Ground.chain }], guard := none }) rfl (fun K hK => ?_) AllReadyH.nil)
              refine wp_append_one (.tmp 24) (.tmp 32) 43 43 9 9 rfl i0 (.string ⟨#[]⟩) 16 Tryz.underlying43 Tryz.underlying43 hi hz0 hz1 hz2 (by decide) G (.string (fldName k)) rfl (bs.cell rfl) u (wordsV l) rfl hu (by rw [wordsV_length]; omega) (wordsV_one l) (by rw [wordsV_length]; omega) ?_
              intro u2 wz13 hu2 hl
              have hbz13 := bthen hbz12 hl
              have bs := bs.carry hl
              have hu := hu.carry hl
              clear hl
              refine hK.out _ _ ⟨map_below hmr hbz13, cellb hcv hbz13⟩ (fun hHeld4 => ?_)
              clear hK K hHeld3
              try simp only [Act.put, List.setIfInBounds_toArray, List.set_cons_zero, List.set_cons_succ]
              refine wpAnyH_take (i := 14) (oi := { dst := some 8, op := Op.assign (Operand.tmp 33), type := 43, pos := "ring.go:166", after := #[{ on := 13, ground := Ground.data }, { on := 13, ground := Ground.chain }, { on := 0, ground := Ground.phase }, { on := 1, ground := Ground.phase }, { on := 2, ground := Ground.phase }, { on := 3, ground := Ground.phase }, { on := 4, ground := Ground.phase }, { on := 5, ground := Ground.phase }, { on := 6, ground := Ground.phase }, { on := 7, ground := Ground.phase }, { on := 8, ground := Ground.phase }, { on := 9, ground := Ground.phase }, { on := 10, ground := Ground.phase }, { on := 11, ground := Ground.phase }, { on := 12, ground := Ground.phase }, { on := 13, ground := Ground.phase }], guard := none }) (v := ?_) rfl (by kernel_rfl) (by kernel_rfl) (by kernel_rfl) (fun _ _ _ h => h) (Or.inl ⟨by rfl, ?_⟩) (by assumption) ?_
              rotate_left
              · (intro w hSw; (try dsimp only at hSw); go_simp); (try with_reducible rfl)
              try simp only [Act.put, List.setIfInBounds_toArray, List.set_cons_zero, List.set_cons_succ]
              refine wpAnyH_done (by kernel_rfl) ?_ _
              clear hHeld4
              go_wp2_with fail
              go_meet
              exact ⟨by rw [show (lineW k l).map Value.string = .string (fldName k) :: wordsV l by simp [lineW, wordsV]]; exact hu2, hbz13⟩
            · go_simp
              refine (words_any v l wz9 (by omega) (hints.below hbz9) (hpr.below hbz9) (fun x hx => by have := hP x hx; omega)).mono ?_
              rintro e wz12 ⟨⟨u, rfl, hu⟩, hl⟩
              (try go_wp2_with fail)
              have hbz12 := bthen hbz9 hl
              clear hl
              refine hK.out _ _ ⟨map_below hmr hbz12, cellb hcv hbz12⟩ (fun hHeld2 => ?_)
              clear hK K hHeld1
              try simp only [Act.put, List.setIfInBounds_toArray, List.set_cons_zero, List.set_cons_succ]
              refine wpAnyH_ready (rs := [4]) (by kernel_rfl) (by simp) ?_
              refine (AllReadyH.cons (o := { dst := some 24, op := Op.buildSlice 43 1 #[(0, Operand.tmp 23)], type := 43, pos := "ring.go:166", after := #[{ on := 3, ground := Ground.data }], guard := none }) rfl (fun K hK => ?_) AllReadyH.nil)
              go_simp
              obtain ⟨wz4, hwz⟩ : ∃ v, v = wz12.alloc (Obj.cells #[.string (fldName k)] 9) := ⟨_, rfl⟩
              rw [← hwz]
              have hl : Below wz12.heap.size wz12 wz4 := by rw [hwz]; exact below_new _ _
              have hbz4 := bthen hbz12 hl
              have bs : Blk wz4 wz12.heap.size 9 [.string (fldName k)] := by rw [hwz]; exact Blk.new _ _ _
              generalize wz12.heap.size = G at bs ⊢
              clear hwz
              have hu := hu.carry hl
              clear hl
              refine hK.out _ _ ⟨map_below hmr hbz4, cellb hcv hbz4⟩ (fun hHeld3 => ?_)
              clear hK K hHeld2
              try simp only [Act.put, List.setIfInBounds_toArray, List.set_cons_zero, List.set_cons_succ]
              refine wpAnyH_ready (rs := [13]) (by kernel_rfl) (by simp) ?_
              refine (AllReadyH.cons (o := { dst := some 33, op := Op.call { callee := Callee.builtin Builtin.append, args := #[Operand.tmp 24, Operand.tmp 32], argTypes := #[43, 43] }, type := 43, pos := "ring.go:166", after := #[{ on := 4, ground := Ground.data }, { on := 12, ground := Ground.data }, { on := 12, ground := Ground.chain }], guard := none }) rfl (fun K hK => ?_) AllReadyH.nil)
              refine wp_append_one (.tmp 24) (.tmp 32) 43 43 9 9 rfl i0 (.string ⟨#[]⟩) 16 Tryz.underlying43 Tryz.underlying43 hi hz0 hz1 hz2 (by decide) G (.string (fldName k)) rfl (bs.cell rfl) u (wordsV l) rfl hu (by rw [wordsV_length]; omega) (wordsV_one l) (by rw [wordsV_length]; omega) ?_
              intro u2 wz13 hu2 hl
              have hbz13 := bthen hbz4 hl
              have hu := hu.carry hl
              have bs := bs.carry hl
              clear hl
              refine hK.out _ _ ⟨map_below hmr hbz13, cellb hcv hbz13⟩ (fun hHeld4 => ?_)
              clear hK K hHeld3
              try simp only [Act.put, List.setIfInBounds_toArray, List.set_cons_zero, List.set_cons_succ]
              refine wpAnyH_take (i := 14) (oi := { dst := some 8, op := Op.assign (Operand.tmp 33), type := 43, pos := "ring.go:166", after := #[{ on := 13, ground := Ground.data }, { on := 13, ground := Ground.chain }, { on := 0, ground := Ground.phase }, { on := 1, ground := Ground.phase }, { on := 2, ground := Ground.phase }, { on := 3, ground := Ground.phase }, { on := 4, ground := Ground.phase }, { on := 5, ground := Ground.phase }, { on := 6, ground := Ground.phase }, { on := 7, ground := Ground.phase }, { on := 8, ground := Ground.phase }, { on := 9, ground := Ground.phase }, { on := 10, ground := Ground.phase }, { on := 11, ground := Ground.phase }, { on := 12, ground := Ground.phase }, { on := 13, ground := Ground.phase }], guard := none }) (v := ?_) rfl (by kernel_rfl) (by kernel_rfl) (by kernel_rfl) (fun _ _ _ h => h) (Or.inl ⟨by rfl, ?_⟩) (by assumption) ?_
              rotate_left
              · (intro w hSw; (try dsimp only at hSw); go_simp); (try with_reducible rfl)
              try simp only [Act.put, List.setIfInBounds_toArray, List.set_cons_zero, List.set_cons_succ]
              refine wpAnyH_done (by kernel_rfl) ?_ _
              clear hHeld4
              go_wp2_with fail
              go_meet
              exact ⟨by rw [show (lineW k l).map Value.string = .string (fldName k) :: wordsV l by simp [lineW, wordsV]]; exact hu2, hbz13⟩
        case rest =>
          obtain ⟨hu, hl⟩ := hcut
          obtain ⟨bk, o, cp, rfl, hcs⟩ := hu.head (by simp [lineW])
          have hcp : (lineW k l).length ≤ cp := by
            obtain ⟨a', cap', e1, e2, _⟩ := hu
            cases e1
            simpa using e2
          rw [List.length_map]
          have hbk : bk < wc.heap.size := lt_of_cellSome (hcs 0 (.string (fldName k)) (by simp [lineW]))
          go_wp2_with fail
          refine (Tryz.strings_Join bk o cp (lineW k l) ⟨#[32]⟩ wc (fun j x hj => hcs j _ (by simp [hj])) hbk (by simp [lineW]; omega) hcp (Nat.le_trans (line_len k l (by omega) hP) (by decide))).mono ?_
          rintro e w5 ⟨rfl, hl5⟩
          have hl9 := bthen (bthen hbr hl) hl5
          have hJ : (⟨(Lib.join ((lineW k l).map (·.data.toList)) [32]).toArray⟩ : ByteArray).size ≤ 200 := by
            have := line_len k l (by omega) hP
            show (Lib.join ((lineW k l).map (·.data.toList)) [32]).toArray.size ≤ 200
            simpa using this
          have hJ' : joinB (lineW k l) = ⟨(Lib.join ((lineW k l).map (·.data.toList)) [32]).toArray⟩ := rfl
          have HT2 : printT (k + 1) (four a b c d) = printT k (four a b c d) ++ (joinB (lineW k l) ++ ⟨#[10]⟩) := HT.out
          rw [← hJ'] at hJ ⊢
          clear hJ'
          generalize joinB (lineW k l) = J at hJ HT2 ⊢
          generalize printT k (four a b c d) = T at hsz HT2 ⊢
          have hJ2 : (J ++ (⟨#[10]⟩ : ByteArray)).size ≤ 201 := by rw [ByteArray.size_append]; show J.size + 1 ≤ 201; omega
          have HT3 := Lib.hid HT2
          clear HT2
          go_wp2
          go_roundw
          case rel => exact ⟨k + 1, by omega, by go_num, by rw [HT3.out], by rw [HT3.out, ByteArray.size_append]; omega, hl9⟩
          case measure => simp [intOf]; omega
      · obtain rfl : k = 4 := by omega
        go_wp2
        go_ret2
        exact ⟨by rw [HR.out, HE.out]; rfl, bthen HB.out hbr⟩
  · have HR := Lib.hid (show printR a b c d = ⟨#[]⟩ by rw [printR, if_pos he])
    go_wp2
    go_ret2
    exact ⟨by rw [HR.out]; rfl, hB2⟩

end Go.Proofs.YtfdehcphmmhjaaaGreatDoor

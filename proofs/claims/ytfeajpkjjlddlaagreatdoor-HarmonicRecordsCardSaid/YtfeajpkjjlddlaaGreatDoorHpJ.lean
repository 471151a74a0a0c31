/- The package harmonic: Print. -/
import Derived.Test.YtfeajpkjjlddlaaGreatDoorHpI
namespace Go.Proofs.YtfeajpkjjlddlaaGreatDoor
set_option linter.unusedSimpArgs false
set_option linter.unusedVariables false
open Go.RowKit

theorem take_eq_succ {α : Type} {a b : List α} {k : Nat} {x : α} (h : a.take k = b.take k) (ha : a[k]? = some x) (hb : b[k]? = some x) : a.take (k + 1) = b.take (k + 1) := by
  rw [List.take_add_one, List.take_add_one, h, ha, hb]
theorem ne_of_get {α : Type} {a b : List α} {k : Nat} {x y : α} (ha : a[k]? = some x) (hb : b[k]? = some y) (h : x ≠ y) : a ≠ b := by
  rintro rfl; rw [ha] at hb; exact h (Option.some.inj hb)

set_option maxHeartbeats 1000000 in
theorem mappedBS_any (K : Nat) (cap : Array Value) (henter : ∀ args w, Sem.run Tryz.prog (callFunc K args) w = .ok (.enter K args) w) (g : Int × Int → ByteArray) (v : Value) (l : List (Int × Int)) (w : World) (hl : l.length ≤ 1000000000) (hv : Pairs w v l)
    (hf : ∀ x ∈ l, ∀ w1, Below w.heap.size w w1 → Calls Tryz.prog K (#[.agg #[.int .i64 x.1, .int .i64 x.2]] ++ cap) w1 fun r w2 => r = .returned (.string (g x)) ∧ Below w1.heap.size w1 w2) :
    Calls Tryz.prog 94 #[v, .func (.func K) #[] cap] w fun r w' => (∃ u, r = .returned u ∧ Vals w' u (l.map fun x => .string (g x))) ∧ Below w.heap.size w w' := by
  rcases Nat.eq_zero_or_pos l.length with h0 | h0
  · obtain rfl : l = [] := List.length_eq_zero_iff.1 h0
    obtain ⟨a, cp, rfl, _, _⟩ := hv
    go_enter Tryz.func94, Tryz.ntmps94
    go_wp2
    go_loop [5, 10] (fun v i => v = .slice none 0 0 ∧ i = .int .i64 0) (fun _ _ => 0)
    case atStart => exact ⟨rfl, rfl⟩
    case round =>
      obtain ⟨rfl, rfl⟩ := hrel
      go_wp2
      go_ret
      exact ⟨⟨_, rfl, Vals.nil _⟩, Below.refl _ _⟩
  · obtain ⟨b, off, cp, rfl, hcs⟩ := hv.head h0
    clear hv
    obtain ⟨i0, hi, hz0, hz1, hz2⟩ := info_parts Tryz.infoString
    go_enter Tryz.func94, Tryz.ntmps94
    go_wp2
    go_loopw [5, 10] (fun v i wr => ∃ k : Nat, k ≤ l.length ∧ i = .int .i64 k ∧ wr.ownsRow w.heap.size 9 1 v k ((l.take k).map fun x => Value.string (g x)) ∧ Below w.heap.size w wr) (fun _ i _ => l.length - (intOf i).toNat)
    case atStart => exact ⟨0, by omega, rfl, World.ownsRow_nil _ _ _ _, Below.refl _ _⟩
    case round =>
      obtain ⟨k, hk, rfl, hown, hbel⟩ := hrel
      by_cases hlt : k < l.length
      · obtain ⟨x, hx⟩ : ∃ x, l[k]? = some x := ⟨_, List.getElem?_eq_getElem hlt⟩
        obtain ⟨c0, c1⟩ := hcs k x hx
        have c0 := cellb c0 hbel
        have c1 := cellb c1 hbel
        have HX := Lib.hid hx
        clear hcs hx
        go_wp2_with fail
        have hbx := bthen hbel (below_new wr (Obj.cells #[Value.int IntKind.i64 x.1, Value.int IntKind.i64 x.2] 129))
        refine (hf x (List.mem_of_getElem? HX.out) _ hbx).mono ?_
        rintro e w2 ⟨rfl, hb2⟩
        have hbx2 := bthen hbx hb2
        have hown := own_below hown (bthen (below_new wr (Obj.cells #[Value.int IntKind.i64 x.1, Value.int IntKind.i64 x.2] 129)) hb2)
        clear hbx hb2 hbel c0 c1
        go_wp2_with (at_builtin; refine wpList_append_own _ rfl _ _ 154 rfl w.heap.size 9 i0 (.string ⟨#[]⟩) 1 16 Tryz.underlying154 hi hz0 hz1 hz2 rfl (by decide) _ _ _ rfl (hown.alloc _) ⟨w2.heap.size, 0, none⟩ 1 1 [.string (g x)] rfl rfl (cell_one_new _ _ _) (by simp [Value.oneCell']) (by unfold maxLen; omega) (by omega) (by have := hbx2.size; simp; omega) ?_; intro v' w1 hown' hgrow _)
        have hbel' := below_own hbx2 hown hgrow
        have hown2 : w1.ownsRow w.heap.size 9 1 v' (k + 1) ((l.take (k + 1)).map fun x => Value.string (g x)) := by
          rw [takeX_succ_map _ _ _ x HX.out]; exact hown'
        clear hown hbx2 hown' hgrow
        go_wp2
        go_roundw
        case rel => exact ⟨k + 1, by omega, by go_num, hown2, hbel'⟩
        case measure => simp [intOf]; omega
      · obtain rfl : k = l.length := by omega
        have hout : Vals wr u5 (l.map fun x => .string (g x)) := Vals.of_own (us := l.map fun x => .string (g x)) (v := u5) (w := wr) (base := w.heap.size) (e := 9) (by rw [List.length_map]; rw [List.take_length] at hown; exact hown)
        clear hown
        go_wp2
        go_ret
        exact ⟨⟨_, rfl, hout⟩, hbel⟩



theorem word_size (n : Int) (h : 0 ≤ n ∧ n ≤ 2000) : (word n).size ≤ 21 := by
  have h := Lib.itoa_length_le n (by omega) (by omega)
  show (Lib.itoa n).toArray.size ≤ 21
  simpa using h
theorem lineB_size (x : Int × Int) (h : brE x = 0) : (lineB x).size ≤ 60 := by
  obtain ⟨h1, h2⟩ := brE_zero h
  have a := word_size x.1 (by omega)
  have b := word_size x.2 (by omega)
  unfold lineB
  simp only [ByteArray.size_append]
  have := size7; have := size1a; have := size1b
  omega
def joinE (xs : List ByteArray) : ByteArray := ⟨(Lib.join (xs.map (·.data.toList)) []).toArray⟩
/-- the text of a filter. -/
def printB (ls : List (Int × Int)) : ByteArray := joinE (ls.map lineB)
def sOr (e : Int) (s : ByteArray) : ByteArray := if e = 0 then s else ⟨#[]⟩
theorem join_len (xs : List (List UInt8)) : (Lib.join xs []).length = (xs.map List.length).sum := by
  cases xs with
  | nil => rfl
  | cons x xs => rw [Lib.join_length]; simp [Lib.lens]
theorem print_len (ls : List (Int × Int)) (hl : ls.length ≤ 3) (h : ∀ x ∈ ls, brE x = 0) : (Lib.join ((ls.map lineB).map (·.data.toList)) (⟨#[]⟩ : ByteArray).data.toList).length ≤ 140737488355328 := by
  show (Lib.join ((ls.map lineB).map (·.data.toList)) []).length ≤ _
  rw [join_len]
  have : ∀ ls : List (Int × Int), (∀ x ∈ ls, brE x = 0) → ((((ls.map lineB).map (·.data.toList)).map List.length).sum) ≤ 60 * ls.length := by
    intro ls
    induction ls with
    | nil => intro _; simp
    | cons x ls ih =>
      intro h
      have h1 := lineB_size x (h x (by simp))
      have h2 := ih (fun y hy => h y (by simp [hy]))
      have h3 : (lineB x).data.toList.length = (lineB x).size := Array.length_toList
      simp only [List.map_cons, List.sum_cons, List.length_cons] at h2 ⊢
      omega
  have := this ls h
  omega
set_option maxRecDepth 100000 in
set_option maxHeartbeats 2000000 in
theorem Print_any (v : Value) (ls : List (Int × Int)) (w : World) (hv : Pairs w v ls) (hl : ls.length ≤ 1000000) (hp : Pows w) :
    Calls Tryz.prog 36 #[.agg #[v]] w fun e w' => e = .returned (.tuple #[.string (sOr (fltE ls) (printB ls)), .int .i64 (fltE ls)]) ∧ Below w.heap.size w w' := by
  have HV := Lib.hid hv
  have TC := Lib.hid (fun W hP => CheckFilter_any v ls W hP hl)
  obtain ⟨r, hr⟩ : ∃ r, r = sOr (fltE ls) (printB ls) := ⟨_, rfl⟩
  rw [← hr]
  rw [printB, joinE] at hr
  have hz := fun h : fltE ls = 0 => fltE_zero h
  have TM := Lib.hid (fun (W : World) (hP : Pairs W v ls) (hQ : Pows W) (he : fltE ls = 0) => mappedBS_any 95 #[] Tryz.enterPrint1 lineB v ls W (by omega) hP (fun x hx w1 hb => by
    have h1 := brE_zero ((hz he).2 x hx)
    have s1 := word_size x.1 (by omega)
    have s2 := word_size x.2 (by omega)
    exact print1_any x w1 (hQ.carry hb) (by omega) (by omega) (by omega) (by omega)))
  have HZ := Lib.hid hz
  generalize fltE ls = E at TC TM hr HZ ⊢
  have HR := Lib.hid hr
  obtain ⟨a, cp, rfl, _, _⟩ := id hv
  clear hv hr hz
  go_enter Tryz.func36, Tryz.ntmps36
  go_upto_region 1 with fail
  obtain ⟨W1, hW1⟩ : ∃ v, v = World.alloc w (Obj.cells #[.slice a ls.length cp] 75) := ⟨_, rfl⟩
  have kW1 : Below w.heap.size w W1 := by rw [hW1]; exact below_new _ _
  have iW1 : Blk W1 (w.heap.size) 75 [.slice a ls.length cp] := by rw [hW1]; exact Blk.new _ _ _
  have sW1 : W1.heap.size = w.heap.size + 1 := by rw [hW1]; simp
  rw [← hW1]
  clear hW1
  have a0 := iW1.cell (j := 0) (v := .slice a ls.length cp) rfl
  have hB := kW1
  clear iW1 kW1 sW1
  go_wp2_with fail
  refine (TC.out W1 (HV.out.carry hB)).mono ?_
  rintro e w3 ⟨rfl, hb⟩
  have a0 := cellb a0 hb
  replace hB := bthen hB hb
  clear hb
  by_cases he : E = 0
  · subst he
    have HZ2 := HZ.out (by trivial)
    obtain ⟨⟨hz1, hz2⟩, hz3⟩ := HZ2
    have HZ3 := Lib.hid hz3
    have TM2 := Lib.hid (TM.out w3 (HV.out.carry hB) (hp.carry hB) (by trivial))
    clear TM TC HZ hz3
    go_wp2_with fail
    refine TM2.out.mono ?_
    rintro e w4 ⟨⟨u, rfl, hu⟩, hb⟩
    replace hB := bthen hB hb
    clear hb a0 TM2
    obtain ⟨bk, o, c, rfl, hcs⟩ := hu.head (by simp; omega)
    have hcp : ls.length ≤ c := by
      obtain ⟨a', cap', e1, e2, _⟩ := hu
      cases e1
      simpa using e2
    have hbk : bk < w4.heap.size := lt_of_cellSome (hcs 0 (.string (lineB (ls[0]'hz1))) (by simp [hz1]))
    have TJ := Tryz.strings_Join bk o c (ls.map lineB) ⟨#[]⟩ w4 (fun j x hj => hcs j _ (by rw [List.getElem?_map] at hj ⊢; cases h9 : ls[j]? with | none => simp [h9] at hj | some y => simp [h9] at hj ⊢; exact hj)) hbk (by simp; omega) (by simpa using hcp) (print_len ls hz2 HZ3.out)
    rw [List.length_map] at TJ ⊢
    have hre : r = ⟨(Lib.join ((ls.map lineB).map (·.data.toList)) (⟨#[]⟩ : ByteArray).data.toList).toArray⟩ := by rw [HR.out, sOr, if_pos rfl]
    rw [← hre] at TJ
    have TJ2 := Lib.hid TJ
    clear hre TJ hcs hu
    go_wp2_with fail
    refine TJ2.out.mono ?_
    rintro e w5 ⟨rfl, hb⟩
    go_wp2
    go_ret2
    exact ⟨rfl, bthen hB hb⟩
  · have z : (E == 0) = false := by rw [beq_eq_false_iff_ne]; exact he
    have hr2 : r = ⟨#[]⟩ := by rw [HR.out, sOr, if_neg he]
    have HR2 := Lib.hid hr2
    clear hr2
    go_wp2_with fail
    go_ret2
    exact ⟨by rw [HR2.out]; rfl, hB⟩
end Go.Proofs.YtfeajpkjjlddlaaGreatDoor

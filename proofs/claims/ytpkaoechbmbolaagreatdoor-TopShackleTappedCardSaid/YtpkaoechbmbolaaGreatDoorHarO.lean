/- Slices of structs of integers: mapped, IndexFunc, ContainsFunc. (printed by gen/harO.py) -/
import Derived.Test.YtpkaoechbmbolaaGreatDoorHarM
namespace Go.Proofs.YtpkaoechbmbolaaGreatDoor
set_option linter.unusedSimpArgs false
set_option linter.unusedVariables false
open Go.RowKit

/-- the slice v holds the pairs l. -/
def Pairs (w : World) (v : Value) (l : List (Int × Int)) : Prop :=
  ∃ a cap, v = .slice a l.length cap ∧ l.length ≤ cap ∧ (0 < l.length → ∃ b off, a = some ⟨b, off, none⟩ ∧ ∀ (j : Nat) (x : Int × Int), l[j]? = some x → w.cell? ⟨b, off + j * 2, none⟩ = some (.int .i64 x.1) ∧ w.cell? ⟨b, off + j * 2 + 1, none⟩ = some (.int .i64 x.2))
theorem Pairs.carry {w w' : World} {v : Value} {l : List (Int × Int)} (h : Pairs w v l) (hb : Below w.heap.size w w') : Pairs w' v l := by
  obtain ⟨a, cap, hv, hc, h⟩ := h
  refine ⟨a, cap, hv, hc, fun hl => ?_⟩
  obtain ⟨b, off, ha, h⟩ := h hl
  exact ⟨b, off, ha, fun j x hj => ⟨cellb (h j x hj).1 hb, cellb (h j x hj).2 hb⟩⟩
theorem Pairs.head {w : World} {v : Value} {l : List (Int × Int)} (h : Pairs w v l) (h0 : 0 < l.length) : ∃ b off cap, v = .slice (some ⟨b, off, none⟩) l.length cap ∧ ∀ (j : Nat) (x : Int × Int), l[j]? = some x → w.cell? ⟨b, off + j * 2, none⟩ = some (.int .i64 x.1) ∧ w.cell? ⟨b, off + j * 2 + 1, none⟩ = some (.int .i64 x.2) := by
  obtain ⟨a, cap, rfl, _, hc⟩ := h
  obtain ⟨b, off, rfl, hd⟩ := hc h0
  exact ⟨b, off, cap, rfl, hd⟩
abbrev I4 : Type := Int × Int × Int × Int
/-- the slice v holds the quadruples l. -/
def Quads (w : World) (v : Value) (l : List I4) : Prop :=
  ∃ a cap, v = .slice a l.length cap ∧ l.length ≤ cap ∧ (0 < l.length → ∃ b off, a = some ⟨b, off, none⟩ ∧ ∀ (j : Nat) (x : I4), l[j]? = some x → w.cell? ⟨b, off + j * 4, none⟩ = some (.int .i64 x.1) ∧ w.cell? ⟨b, off + j * 4 + 1, none⟩ = some (.int .i64 x.2.1) ∧ w.cell? ⟨b, off + j * 4 + 2, none⟩ = some (.int .i64 x.2.2.1) ∧ w.cell? ⟨b, off + j * 4 + 3, none⟩ = some (.int .i64 x.2.2.2))
theorem Quads.carry {w w' : World} {v : Value} {l : List I4} (h : Quads w v l) (hb : Below w.heap.size w w') : Quads w' v l := by
  obtain ⟨a, cap, hv, hc, h⟩ := h
  refine ⟨a, cap, hv, hc, fun hl => ?_⟩
  obtain ⟨b, off, ha, h⟩ := h hl
  exact ⟨b, off, ha, fun j x hj => ⟨cellb (h j x hj).1 hb, cellb (h j x hj).2.1 hb, cellb (h j x hj).2.2.1 hb, cellb (h j x hj).2.2.2 hb⟩⟩
theorem Quads.head {w : World} {v : Value} {l : List I4} (h : Quads w v l) (h0 : 0 < l.length) : ∃ b off cap, v = .slice (some ⟨b, off, none⟩) l.length cap ∧ ∀ (j : Nat) (x : I4), l[j]? = some x → w.cell? ⟨b, off + j * 4, none⟩ = some (.int .i64 x.1) ∧ w.cell? ⟨b, off + j * 4 + 1, none⟩ = some (.int .i64 x.2.1) ∧ w.cell? ⟨b, off + j * 4 + 2, none⟩ = some (.int .i64 x.2.2.1) ∧ w.cell? ⟨b, off + j * 4 + 3, none⟩ = some (.int .i64 x.2.2.2) := by
  obtain ⟨a, cap, rfl, _, hc⟩ := h
  obtain ⟨b, off, rfl, hd⟩ := hc h0
  exact ⟨b, off, cap, rfl, hd⟩
/-- the first member for which g holds, or -1. -/
def findX {α : Type} (g : α → Bool) (l : List α) : Int := match l.findIdx? g with | some i => (i : Int) | none => -1
theorem findX_none {α : Type} {g : α → Bool} {l : List α} (h : l.any g = false) : findX g l = -1 := by
  have : l.findIdx? g = none := by
    rw [List.findIdx?_eq_none_iff]; intro x hx; rw [List.any_eq_false] at h; simpa using h x hx
  simp [findX, this]
theorem findX_some {α : Type} {g : α → Bool} {l : List α} {k : Nat} {x : α} (hk : l[k]? = some x) (h : (l.take k).any g = false) (hx : g x = true) : findX g l = (k : Int) := by
  have hlt : k < l.length := (List.getElem?_eq_some_iff.1 hk).1
  have : l.findIdx? g = some k := by
    rw [List.findIdx?_eq_some_iff_getElem]
    refine ⟨hlt, by rw [(List.getElem?_eq_some_iff.1 hk).2]; exact hx, fun j hj => ?_⟩
    rw [List.any_eq_false] at h
    have hm : l[j] ∈ l.take k := by
      rw [List.mem_take_iff_getElem]; exact ⟨j, by omega, rfl⟩
    simpa using h _ hm
  simp [findX, this]
theorem findX_ge {α : Type} (g : α → Bool) (l : List α) : decide (0 ≤ findX g l) = l.any g := by
  unfold findX
  cases h : l.findIdx? g with
  | none =>
    have : l.any g = false := by
      rw [List.findIdx?_eq_none_iff] at h
      rw [List.any_eq_false]; intro x hx; rw [h x hx]; simp
    simp [this]
  | some i =>
    rw [List.findIdx?_eq_some_iff_getElem] at h
    obtain ⟨hlt, hg, _⟩ := h
    have : l.any g = true := List.any_eq_true.2 ⟨_, List.getElem_mem hlt, hg⟩
    simp [this]
theorem anyX_take_succ {α : Type} {g : α → Bool} {l : List α} {k : Nat} {x : α} (hk : l[k]? = some x) (h : (l.take k).any g = false) (hx : g x = false) : (l.take (k + 1)).any g = false := by
  rw [List.take_add_one, hk, List.any_append, h]; simp [hx]
theorem takeX_succ_map {α : Type} (l : List α) (k : Nat) (f : α → Value) (x : α) (hk : l[k]? = some x) : (l.take (k + 1)).map f = (l.take k).map f ++ [f x] := by
  rw [List.take_add_one, hk]; simp


set_option maxHeartbeats 1000000 in
theorem mappedBE_any (K : Nat) (cap : Array Value) (henter : ∀ args w, Sem.run Tryz.prog (callFunc K args) w = .ok (.enter K args) w) (g : (Int × Int) → Int) (v : Value) (l : List (Int × Int)) (w : World) (hl : l.length ≤ 1000000000) (hv : Pairs w v l)
    (hf : ∀ x ∈ l, ∀ w1, Below w.heap.size w w1 → Calls Tryz.prog K (#[.agg #[.int .i64 x.1, .int .i64 x.2]] ++ cap) w1 fun r w2 => r = .returned (.int .i64 (g x)) ∧ Below w1.heap.size w1 w2) :
    Calls Tryz.prog 67 #[v, .func (.func K) #[] cap] w fun r w' => (∃ u, r = .returned u ∧ Ints w' u (l.map g)) ∧ Below w.heap.size w w' := by
  rcases Nat.eq_zero_or_pos l.length with h0 | h0
  · obtain rfl : l = [] := List.length_eq_zero_iff.1 h0
    obtain ⟨a, cp, rfl, _, _⟩ := hv
    go_enter Tryz.func67, Tryz.ntmps67
    go_wp2
    go_loop [5, 10] (fun v i => v = .slice none 0 0 ∧ i = .int .i64 0) (fun _ _ => 0)
    case atStart => exact ⟨rfl, rfl⟩
    case round =>
      obtain ⟨rfl, rfl⟩ := hrel
      go_wp2
      go_ret
      exact ⟨⟨_, rfl, Ints.nil _⟩, Below.refl _ _⟩
  · obtain ⟨b, off, cp, rfl, hcs⟩ := hv.head h0
    clear hv
    obtain ⟨i0, hi, hz0, hz1, hz2⟩ := info_parts Tryz.infoErrno
    go_enter Tryz.func67, Tryz.ntmps67
    go_wp2
    go_loopw [5, 10] (fun v i wr => ∃ k : Nat, k ≤ l.length ∧ i = .int .i64 k ∧ wr.ownsRow w.heap.size 39 1 v k ((l.take k).map fun x => Value.int .i64 (g x)) ∧ Below w.heap.size w wr) (fun _ i _ => l.length - (intOf i).toNat)
    case atStart => exact ⟨0, by omega, rfl, World.ownsRow_nil _ _ _ _, Below.refl _ _⟩
    case round =>
      obtain ⟨k, hk, rfl, hown, hbel⟩ := hrel
      by_cases hlt : k < l.length
      · obtain ⟨x, hx⟩ : ∃ x, l[k]? = some x := ⟨_, List.getElem?_eq_getElem hlt⟩
        obtain ⟨c0, c1⟩ := hcs k x hx
        have c0 := cellb c0 hbel
        have c1 := cellb c1 hbel
        have HX := Lib.hid hx
        clear hcs hx
        go_wp2_with fail
        have hbx := bthen hbel (below_new wr (Obj.cells #[Value.int IntKind.i64 x.1, Value.int IntKind.i64 x.2] 37))
        refine (hf x (List.mem_of_getElem? HX.out) _ hbx).mono ?_
        rintro e w2 ⟨rfl, hb2⟩
        have hbx2 := bthen hbx hb2
        have hown := own_below hown (bthen (below_new wr (Obj.cells #[Value.int IntKind.i64 x.1, Value.int IntKind.i64 x.2] 37)) hb2)
        clear hbx hb2 hbel c0 c1
        go_wp2_with (at_builtin; refine wpList_append_own _ rfl _ _ 101 rfl w.heap.size 39 i0 (.int .i64 0) 1 8 Tryz.underlying101 hi hz0 hz1 hz2 rfl (by decide) _ _ _ rfl (hown.alloc _) ⟨w2.heap.size, 0, none⟩ 1 1 [.int .i64 (g x)] rfl rfl (cell_one_new _ _ _) (by simp [Value.oneCell']) (by unfold maxLen; omega) (by omega) (by have := hbx2.size; simp; omega) ?_; intro v' w1 hown' hgrow _)
        have hbel' := below_own hbx2 hown hgrow
        have hown2 : w1.ownsRow w.heap.size 39 1 v' (k + 1) ((l.take (k + 1)).map fun x => Value.int .i64 (g x)) := by
          rw [takeX_succ_map _ _ _ x HX.out]; exact hown'
        clear hown hbx2 hown' hgrow
        go_wp2
        go_roundw
        case rel => exact ⟨k + 1, by omega, by go_num, hown2, hbel'⟩
        case measure => simp [intOf]; omega
      · obtain rfl : k = l.length := by omega
        have hout : Ints wr u5 (l.map g) := Ints.of_own (n := l.length) (by rw [List.take_length] at hown; rw [List.map_map]; exact hown) (by simp)
        clear hown
        go_wp2
        go_ret
        exact ⟨⟨_, rfl, hout⟩, hbel⟩


set_option maxHeartbeats 1000000 in
theorem mappedGE_any (K : Nat) (cap : Array Value) (henter : ∀ args w, Sem.run Tryz.prog (callFunc K args) w = .ok (.enter K args) w) (g : (Int × Int) → Int) (v : Value) (l : List (Int × Int)) (w : World) (hl : l.length ≤ 1000000000) (hv : Pairs w v l)
    (hf : ∀ x ∈ l, ∀ w1, Below w.heap.size w w1 → Calls Tryz.prog K (#[.agg #[.int .i64 x.1, .int .i64 x.2]] ++ cap) w1 fun r w2 => r = .returned (.int .i64 (g x)) ∧ Below w1.heap.size w1 w2) :
    Calls Tryz.prog 56 #[v, .func (.func K) #[] cap] w fun r w' => (∃ u, r = .returned u ∧ Ints w' u (l.map g)) ∧ Below w.heap.size w w' := by
  rcases Nat.eq_zero_or_pos l.length with h0 | h0
  · obtain rfl : l = [] := List.length_eq_zero_iff.1 h0
    obtain ⟨a, cp, rfl, _, _⟩ := hv
    go_enter Tryz.func56, Tryz.ntmps56
    go_wp2
    go_loop [5, 10] (fun v i => v = .slice none 0 0 ∧ i = .int .i64 0) (fun _ _ => 0)
    case atStart => exact ⟨rfl, rfl⟩
    case round =>
      obtain ⟨rfl, rfl⟩ := hrel
      go_wp2
      go_ret
      exact ⟨⟨_, rfl, Ints.nil _⟩, Below.refl _ _⟩
  · obtain ⟨b, off, cp, rfl, hcs⟩ := hv.head h0
    clear hv
    obtain ⟨i0, hi, hz0, hz1, hz2⟩ := info_parts Tryz.infoErrno
    go_enter Tryz.func56, Tryz.ntmps56
    go_wp2
    go_loopw [5, 10] (fun v i wr => ∃ k : Nat, k ≤ l.length ∧ i = .int .i64 k ∧ wr.ownsRow w.heap.size 39 1 v k ((l.take k).map fun x => Value.int .i64 (g x)) ∧ Below w.heap.size w wr) (fun _ i _ => l.length - (intOf i).toNat)
    case atStart => exact ⟨0, by omega, rfl, World.ownsRow_nil _ _ _ _, Below.refl _ _⟩
    case round =>
      obtain ⟨k, hk, rfl, hown, hbel⟩ := hrel
      by_cases hlt : k < l.length
      · obtain ⟨x, hx⟩ : ∃ x, l[k]? = some x := ⟨_, List.getElem?_eq_getElem hlt⟩
        obtain ⟨c0, c1⟩ := hcs k x hx
        have c0 := cellb c0 hbel
        have c1 := cellb c1 hbel
        have HX := Lib.hid hx
        clear hcs hx
        go_wp2_with fail
        have hbx := bthen hbel (below_new wr (Obj.cells #[Value.int IntKind.i64 x.1, Value.int IntKind.i64 x.2] 63))
        refine (hf x (List.mem_of_getElem? HX.out) _ hbx).mono ?_
        rintro e w2 ⟨rfl, hb2⟩
        have hbx2 := bthen hbx hb2
        have hown := own_below hown (bthen (below_new wr (Obj.cells #[Value.int IntKind.i64 x.1, Value.int IntKind.i64 x.2] 63)) hb2)
        clear hbx hb2 hbel c0 c1
        go_wp2_with (at_builtin; refine wpList_append_own _ rfl _ _ 101 rfl w.heap.size 39 i0 (.int .i64 0) 1 8 Tryz.underlying101 hi hz0 hz1 hz2 rfl (by decide) _ _ _ rfl (hown.alloc _) ⟨w2.heap.size, 0, none⟩ 1 1 [.int .i64 (g x)] rfl rfl (cell_one_new _ _ _) (by simp [Value.oneCell']) (by unfold maxLen; omega) (by omega) (by have := hbx2.size; simp; omega) ?_; intro v' w1 hown' hgrow _)
        have hbel' := below_own hbx2 hown hgrow
        have hown2 : w1.ownsRow w.heap.size 39 1 v' (k + 1) ((l.take (k + 1)).map fun x => Value.int .i64 (g x)) := by
          rw [takeX_succ_map _ _ _ x HX.out]; exact hown'
        clear hown hbx2 hown' hgrow
        go_wp2
        go_roundw
        case rel => exact ⟨k + 1, by omega, by go_num, hown2, hbel'⟩
        case measure => simp [intOf]; omega
      · obtain rfl : k = l.length := by omega
        have hout : Ints wr u5 (l.map g) := Ints.of_own (n := l.length) (by rw [List.take_length] at hown; rw [List.map_map]; exact hown) (by simp)
        clear hown
        go_wp2
        go_ret
        exact ⟨⟨_, rfl, hout⟩, hbel⟩


set_option maxHeartbeats 1000000 in
theorem IndexFuncB_any (K : Nat) (cap : Array Value) (henter : ∀ args w, Sem.run Tryz.prog (callFunc K args) w = .ok (.enter K args) w) (g : (Int × Int) → Bool) (v : Value) (l : List (Int × Int)) (w : World) (hl : l.length ≤ 1000000000) (hv : Pairs w v l)
    (hf : ∀ x ∈ l, ∀ w1, Below w.heap.size w w1 → Calls Tryz.prog K (#[.agg #[.int .i64 x.1, .int .i64 x.2]] ++ cap) w1 fun r w2 => r = .returned (.bool (g x)) ∧ Below w1.heap.size w1 w2) :
    Calls Tryz.prog 110 #[v, .func (.func K) #[] cap] w fun r w' => r = .returned (.int .i64 (findX g l)) ∧ Below w.heap.size w w' := by
  rcases Nat.eq_zero_or_pos l.length with h0 | h0
  · obtain rfl : l = [] := List.length_eq_zero_iff.1 h0
    obtain ⟨a, cp, rfl, _, _⟩ := hv
    go_enter Tryz.func110, Tryz.ntmps110
    go_wp2
    go_loop [8] (fun i => i = .int .i64 0) (fun _ => 0)
    case atStart => rfl
    case round =>
      obtain rfl := hrel
      go_wp2
      go_ret
      exact ⟨rfl, Below.refl _ _⟩
  · obtain ⟨b, off, cp, rfl, hcs⟩ := hv.head h0
    clear hv
    go_enter Tryz.func110, Tryz.ntmps110
    go_wp2
    go_loopw [8] (fun i wr => ∃ k : Nat, k ≤ l.length ∧ i = .int .i64 k ∧ (l.take k).any g = false ∧ Below w.heap.size w wr) (fun i _ => l.length - (intOf i).toNat)
    case atStart => exact ⟨0, by omega, rfl, rfl, Below.refl _ _⟩
    case round =>
      obtain ⟨k, hk, rfl, hf0, hbel⟩ := hrel
      have HF := Lib.hid hf0
      clear hf0
      by_cases hlt : k < l.length
      · obtain ⟨x, hx⟩ : ∃ x, l[k]? = some x := ⟨_, List.getElem?_eq_getElem hlt⟩
        obtain ⟨c0, c1⟩ := hcs k x hx
        have c0 := cellb c0 hbel
        have c1 := cellb c1 hbel
        have HX := Lib.hid hx
        clear hcs hx
        have TG := Lib.hid (hf x (List.mem_of_getElem? HX.out) wr hbel)
        by_cases hg : g x = true
        · go_wp2_with fail
          refine TG.out.mono ?_
          rintro e w2 ⟨rfl, hb2⟩
          go_wp2
          go_ret
          exact ⟨ret_int (findX_some HX.out HF.out hg).symm, bthen hbel hb2⟩
        · have hg' : g x = false := by simpa using hg
          clear hg
          go_wp2_with fail
          refine TG.out.mono ?_
          rintro e w2 ⟨rfl, hb2⟩
          go_wp2
          go_roundw
          case rel => exact ⟨k + 1, by omega, by go_num, anyX_take_succ HX.out HF.out hg', bthen hbel hb2⟩
          case measure => simp [intOf]; omega
      · obtain rfl : k = l.length := by omega
        go_wp2
        go_ret
        exact ⟨ret_int (findX_none (by have := HF.out; rwa [List.take_length] at this)).symm, hbel⟩


set_option maxHeartbeats 400000 in
theorem ContainsFuncB_any (K : Nat) (cap : Array Value) (henter : ∀ args w, Sem.run Tryz.prog (callFunc K args) w = .ok (.enter K args) w) (g : (Int × Int) → Bool) (v : Value) (l : List (Int × Int)) (w : World) (hl : l.length ≤ 1000000000) (hv : Pairs w v l)
    (hf : ∀ x ∈ l, ∀ w1, Below w.heap.size w w1 → Calls Tryz.prog K (#[.agg #[.int .i64 x.1, .int .i64 x.2]] ++ cap) w1 fun r w2 => r = .returned (.bool (g x)) ∧ Below w1.heap.size w1 w2) :
    Calls Tryz.prog 94 #[v, .func (.func K) #[] cap] w fun r w' => r = .returned (.bool (l.any g)) ∧ Below w.heap.size w w' := by
  have HG := Lib.hid (findX_ge g l)
  have TI := Lib.hid (IndexFuncB_any K cap henter g v l w hl hv hf)
  go_enter Tryz.func94, Tryz.ntmps94
  go_wp2_with fail
  refine TI.out.mono ?_
  rintro e w2 ⟨rfl, hb2⟩
  go_wp2
  go_ret
  exact ⟨ret_bool HG.out, hb2⟩


set_option maxHeartbeats 1000000 in
theorem IndexFuncG_any (K : Nat) (cap : Array Value) (henter : ∀ args w, Sem.run Tryz.prog (callFunc K args) w = .ok (.enter K args) w) (g : (Int × Int) → Bool) (v : Value) (l : List (Int × Int)) (w : World) (hl : l.length ≤ 1000000000) (hv : Pairs w v l)
    (hf : ∀ x ∈ l, ∀ w1, Below w.heap.size w w1 → Calls Tryz.prog K (#[.agg #[.int .i64 x.1, .int .i64 x.2]] ++ cap) w1 fun r w2 => r = .returned (.bool (g x)) ∧ Below w1.heap.size w1 w2) :
    Calls Tryz.prog 82 #[v, .func (.func K) #[] cap] w fun r w' => r = .returned (.int .i64 (findX g l)) ∧ Below w.heap.size w w' := by
  rcases Nat.eq_zero_or_pos l.length with h0 | h0
  · obtain rfl : l = [] := List.length_eq_zero_iff.1 h0
    obtain ⟨a, cp, rfl, _, _⟩ := hv
    go_enter Tryz.func82, Tryz.ntmps82
    go_wp2
    go_loop [8] (fun i => i = .int .i64 0) (fun _ => 0)
    case atStart => rfl
    case round =>
      obtain rfl := hrel
      go_wp2
      go_ret
      exact ⟨rfl, Below.refl _ _⟩
  · obtain ⟨b, off, cp, rfl, hcs⟩ := hv.head h0
    clear hv
    go_enter Tryz.func82, Tryz.ntmps82
    go_wp2
    go_loopw [8] (fun i wr => ∃ k : Nat, k ≤ l.length ∧ i = .int .i64 k ∧ (l.take k).any g = false ∧ Below w.heap.size w wr) (fun i _ => l.length - (intOf i).toNat)
    case atStart => exact ⟨0, by omega, rfl, rfl, Below.refl _ _⟩
    case round =>
      obtain ⟨k, hk, rfl, hf0, hbel⟩ := hrel
      have HF := Lib.hid hf0
      clear hf0
      by_cases hlt : k < l.length
      · obtain ⟨x, hx⟩ : ∃ x, l[k]? = some x := ⟨_, List.getElem?_eq_getElem hlt⟩
        obtain ⟨c0, c1⟩ := hcs k x hx
        have c0 := cellb c0 hbel
        have c1 := cellb c1 hbel
        have HX := Lib.hid hx
        clear hcs hx
        have TG := Lib.hid (hf x (List.mem_of_getElem? HX.out) wr hbel)
        by_cases hg : g x = true
        · go_wp2_with fail
          refine TG.out.mono ?_
          rintro e w2 ⟨rfl, hb2⟩
          go_wp2
          go_ret
          exact ⟨ret_int (findX_some HX.out HF.out hg).symm, bthen hbel hb2⟩
        · have hg' : g x = false := by simpa using hg
          clear hg
          go_wp2_with fail
          refine TG.out.mono ?_
          rintro e w2 ⟨rfl, hb2⟩
          go_wp2
          go_roundw
          case rel => exact ⟨k + 1, by omega, by go_num, anyX_take_succ HX.out HF.out hg', bthen hbel hb2⟩
          case measure => simp [intOf]; omega
      · obtain rfl : k = l.length := by omega
        go_wp2
        go_ret
        exact ⟨ret_int (findX_none (by have := HF.out; rwa [List.take_length] at this)).symm, hbel⟩


set_option maxHeartbeats 400000 in
theorem ContainsFuncG_any (K : Nat) (cap : Array Value) (henter : ∀ args w, Sem.run Tryz.prog (callFunc K args) w = .ok (.enter K args) w) (g : (Int × Int) → Bool) (v : Value) (l : List (Int × Int)) (w : World) (hl : l.length ≤ 1000000000) (hv : Pairs w v l)
    (hf : ∀ x ∈ l, ∀ w1, Below w.heap.size w w1 → Calls Tryz.prog K (#[.agg #[.int .i64 x.1, .int .i64 x.2]] ++ cap) w1 fun r w2 => r = .returned (.bool (g x)) ∧ Below w1.heap.size w1 w2) :
    Calls Tryz.prog 60 #[v, .func (.func K) #[] cap] w fun r w' => r = .returned (.bool (l.any g)) ∧ Below w.heap.size w w' := by
  have HG := Lib.hid (findX_ge g l)
  have TI := Lib.hid (IndexFuncG_any K cap henter g v l w hl hv hf)
  go_enter Tryz.func60, Tryz.ntmps60
  go_wp2_with fail
  refine TI.out.mono ?_
  rintro e w2 ⟨rfl, hb2⟩
  go_wp2
  go_ret
  exact ⟨ret_bool HG.out, hb2⟩


set_option maxHeartbeats 1000000 in
theorem IndexFuncE_any (K : Nat) (cap : Array Value) (henter : ∀ args w, Sem.run Tryz.prog (callFunc K args) w = .ok (.enter K args) w) (g : I4 → Bool) (v : Value) (l : List I4) (w : World) (hl : l.length ≤ 1000000000) (hv : Quads w v l)
    (hf : ∀ x ∈ l, ∀ w1, Below w.heap.size w w1 → Calls Tryz.prog K (#[.agg #[.int .i64 x.1, .int .i64 x.2.1, .int .i64 x.2.2.1, .int .i64 x.2.2.2]] ++ cap) w1 fun r w2 => r = .returned (.bool (g x)) ∧ Below w1.heap.size w1 w2) :
    Calls Tryz.prog 98 #[v, .func (.func K) #[] cap] w fun r w' => r = .returned (.int .i64 (findX g l)) ∧ Below w.heap.size w w' := by
  rcases Nat.eq_zero_or_pos l.length with h0 | h0
  · obtain rfl : l = [] := List.length_eq_zero_iff.1 h0
    obtain ⟨a, cp, rfl, _, _⟩ := hv
    go_enter Tryz.func98, Tryz.ntmps98
    go_wp2
    go_loop [8] (fun i => i = .int .i64 0) (fun _ => 0)
    case atStart => rfl
    case round =>
      obtain rfl := hrel
      go_wp2
      go_ret
      exact ⟨rfl, Below.refl _ _⟩
  · obtain ⟨b, off, cp, rfl, hcs⟩ := hv.head h0
    clear hv
    go_enter Tryz.func98, Tryz.ntmps98
    go_wp2
    go_loopw [8] (fun i wr => ∃ k : Nat, k ≤ l.length ∧ i = .int .i64 k ∧ (l.take k).any g = false ∧ Below w.heap.size w wr) (fun i _ => l.length - (intOf i).toNat)
    case atStart => exact ⟨0, by omega, rfl, rfl, Below.refl _ _⟩
    case round =>
      obtain ⟨k, hk, rfl, hf0, hbel⟩ := hrel
      have HF := Lib.hid hf0
      clear hf0
      by_cases hlt : k < l.length
      · obtain ⟨x, hx⟩ : ∃ x, l[k]? = some x := ⟨_, List.getElem?_eq_getElem hlt⟩
        obtain ⟨c0, c1, c2, c3⟩ := hcs k x hx
        have c0 := cellb c0 hbel
        have c1 := cellb c1 hbel
        have c2 := cellb c2 hbel
        have c3 := cellb c3 hbel
        have HX := Lib.hid hx
        clear hcs hx
        have TG := Lib.hid (hf x (List.mem_of_getElem? HX.out) wr hbel)
        by_cases hg : g x = true
        · go_wp2_with fail
          refine TG.out.mono ?_
          rintro e w2 ⟨rfl, hb2⟩
          go_wp2
          go_ret
          exact ⟨ret_int (findX_some HX.out HF.out hg).symm, bthen hbel hb2⟩
        · have hg' : g x = false := by simpa using hg
          clear hg
          go_wp2_with fail
          refine TG.out.mono ?_
          rintro e w2 ⟨rfl, hb2⟩
          go_wp2
          go_roundw
          case rel => exact ⟨k + 1, by omega, by go_num, anyX_take_succ HX.out HF.out hg', bthen hbel hb2⟩
          case measure => simp [intOf]; omega
      · obtain rfl : k = l.length := by omega
        go_wp2
        go_ret
        exact ⟨ret_int (findX_none (by have := HF.out; rwa [List.take_length] at this)).symm, hbel⟩


set_option maxHeartbeats 1000000 in
theorem IndexFuncI_any (K : Nat) (cap : Array Value) (henter : ∀ args w, Sem.run Tryz.prog (callFunc K args) w = .ok (.enter K args) w) (g : Int → Bool) (v : Value) (l : List Int) (w : World) (hl : l.length ≤ 1000000000) (hv : Ints w v l)
    (hf : ∀ x ∈ l, ∀ w1, Below w.heap.size w w1 → Calls Tryz.prog K (#[.int .i64 x] ++ cap) w1 fun r w2 => r = .returned (.bool (g x)) ∧ Below w1.heap.size w1 w2) :
    Calls Tryz.prog 69 #[v, .func (.func K) #[] cap] w fun r w' => r = .returned (.int .i64 (findX g l)) ∧ Below w.heap.size w w' := by
  rcases Nat.eq_zero_or_pos l.length with h0 | h0
  · obtain rfl : l = [] := List.length_eq_zero_iff.1 h0
    obtain ⟨a, cp, rfl, _, _⟩ := hv
    go_enter Tryz.func69, Tryz.ntmps69
    go_wp2
    go_loop [8] (fun i => i = .int .i64 0) (fun _ => 0)
    case atStart => rfl
    case round =>
      obtain rfl := hrel
      go_wp2
      go_ret
      exact ⟨rfl, Below.refl _ _⟩
  · obtain ⟨b, off, cp, rfl, hcs⟩ := hv.head h0
    clear hv
    go_enter Tryz.func69, Tryz.ntmps69
    go_wp2
    go_loopw [8] (fun i wr => ∃ k : Nat, k ≤ l.length ∧ i = .int .i64 k ∧ (l.take k).any g = false ∧ Below w.heap.size w wr) (fun i _ => l.length - (intOf i).toNat)
    case atStart => exact ⟨0, by omega, rfl, rfl, Below.refl _ _⟩
    case round =>
      obtain ⟨k, hk, rfl, hf0, hbel⟩ := hrel
      have HF := Lib.hid hf0
      clear hf0
      by_cases hlt : k < l.length
      · obtain ⟨x, hx⟩ : ∃ x, l[k]? = some x := ⟨_, List.getElem?_eq_getElem hlt⟩
        have c0 := hcs k hlt
        rw [hx, Option.getD_some] at c0
        have c0 := cellb c0 hbel
        have HX := Lib.hid hx
        clear hcs hx
        have TG := Lib.hid (hf x (List.mem_of_getElem? HX.out) wr hbel)
        by_cases hg : g x = true
        · go_wp2_with fail
          refine TG.out.mono ?_
          rintro e w2 ⟨rfl, hb2⟩
          go_wp2
          go_ret
          exact ⟨ret_int (findX_some HX.out HF.out hg).symm, bthen hbel hb2⟩
        · have hg' : g x = false := by simpa using hg
          clear hg
          go_wp2_with fail
          refine TG.out.mono ?_
          rintro e w2 ⟨rfl, hb2⟩
          go_wp2
          go_roundw
          case rel => exact ⟨k + 1, by omega, by go_num, anyX_take_succ HX.out HF.out hg', bthen hbel hb2⟩
          case measure => simp [intOf]; omega
      · obtain rfl : k = l.length := by omega
        go_wp2
        go_ret
        exact ⟨ret_int (findX_none (by have := HF.out; rwa [List.take_length] at this)).symm, hbel⟩


set_option maxHeartbeats 400000 in
theorem ContainsFuncI_any (K : Nat) (cap : Array Value) (henter : ∀ args w, Sem.run Tryz.prog (callFunc K args) w = .ok (.enter K args) w) (g : Int → Bool) (v : Value) (l : List Int) (w : World) (hl : l.length ≤ 1000000000) (hv : Ints w v l)
    (hf : ∀ x ∈ l, ∀ w1, Below w.heap.size w w1 → Calls Tryz.prog K (#[.int .i64 x] ++ cap) w1 fun r w2 => r = .returned (.bool (g x)) ∧ Below w1.heap.size w1 w2) :
    Calls Tryz.prog 32 #[v, .func (.func K) #[] cap] w fun r w' => r = .returned (.bool (l.any g)) ∧ Below w.heap.size w w' := by
  have HG := Lib.hid (findX_ge g l)
  have TI := Lib.hid (IndexFuncI_any K cap henter g v l w hl hv hf)
  go_enter Tryz.func32, Tryz.ntmps32
  go_wp2_with fail
  refine TI.out.mono ?_
  rintro e w2 ⟨rfl, hb2⟩
  go_wp2
  go_ret
  exact ⟨ret_bool HG.out, hb2⟩

end Go.Proofs.YtpkaoechbmbolaaGreatDoor

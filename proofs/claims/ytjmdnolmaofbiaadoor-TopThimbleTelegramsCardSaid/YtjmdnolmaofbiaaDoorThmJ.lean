/- The package phasor: lists of numbers, Components, Restored. (printed by gen/thmJ.py) -/
import Derived.Test.YtjmdnolmaofbiaaDoorThmI
namespace Go.Proofs.YtjmdnolmaofbiaaDoor
set_option linter.unusedSimpArgs false
set_option linter.unusedVariables false
open Go.RowKit

/-- the slice v holds the pairs l. -/
def Pairs (w : World) (v : Value) (l : List (Int × Int)) : Prop :=
  ∃ a cap, v = .slice a l.length cap ∧ l.length ≤ cap ∧ (0 < l.length → ∃ b off, a = some ⟨b, off, none⟩ ∧ ∀ (j : Nat) (x : Int × Int), l[j]? = some x → w.cell? ⟨b, off + j * 2, none⟩ = some (.int .i64 x.1) ∧ w.cell? ⟨b, off + j * 2 + 1, none⟩ = some (.int .i64 x.2))
theorem Pairs.carry {w w' : World} {v : Value} {l : List (Int × Int)} (h : Pairs w v l) (hb : Below w.heap.size w w') : Pairs w' v l := by
  obtain ⟨a, cap, hv, hc, h⟩ := h
  refine ⟨a, cap, hv, hc, fun hl => ?_⟩
  obtain ⟨b, off, ha, h⟩ := h hl
  exact ⟨b, off, ha, fun j x hj => ⟨cellb (h j x hj).1 hb, cellb (h j x hj).2 hb⟩⟩
theorem Pairs.head {w : World} {v : Value} {l : List (Int × Int)} (h : Pairs w v l) (h0 : 0 < l.length) : ∃ b off cap, v = .slice (some ⟨b, off, none⟩) l.length cap ∧ ∀ (j : Nat) (x : Int × Int), l[j]? = some x → w.cell? ⟨b, off + j * 2, none⟩ = some (.int .i64 x.1) ∧ w.cell? ⟨b, off + j * 2 + 1, none⟩ = some (.int .i64 x.2) := by
  obtain ⟨a, cap, rfl, _, hc⟩ := h
  obtain ⟨b, off, rfl, hd⟩ := hc h0
  exact ⟨b, off, cap, rfl, hd⟩

/-- the first member for which g holds, or -1. -/
def findX {α : Type} (g : α → Bool) (l : List α) : Int := match l.findIdx? g with | some i => (i : Int) | none => -1
theorem findX_none {α : Type} {g : α → Bool} {l : List α} (h : l.any g = false) : findX g l = -1 := by
  have : l.findIdx? g = none := by
    rw [List.findIdx?_eq_none_iff]; intro x hx; rw [List.any_eq_false] at h; simpa using h x hx
  simp [findX, this]
theorem findX_some {α : Type} {g : α → Bool} {l : List α} {k : Nat} {x : α} (hk : l[k]? = some x) (h : (l.take k).any g = false) (hx : g x = true) : findX g l = (k : Int) := by
  have hlt : k < l.length := (List.getElem?_eq_some_iff.1 hk).1
  have : l.findIdx? g = some k := by
    rw [List.findIdx?_eq_some_iff_getElem]
    refine ⟨hlt, by rw [(List.getElem?_eq_some_iff.1 hk).2]; exact hx, fun j hj => ?_⟩
    rw [List.any_eq_false] at h
    have hm : l[j] ∈ l.take k := by
      rw [List.mem_take_iff_getElem]; exact ⟨j, by omega, rfl⟩
    simpa using h _ hm
  simp [findX, this]
theorem findX_ge {α : Type} (g : α → Bool) (l : List α) : decide (0 ≤ findX g l) = l.any g := by
  unfold findX
  cases h : l.findIdx? g with
  | none =>
    have : l.any g = false := by
      rw [List.findIdx?_eq_none_iff] at h
      rw [List.any_eq_false]; intro x hx; rw [h x hx]; simp
    simp [this]
  | some i =>
    rw [List.findIdx?_eq_some_iff_getElem] at h
    obtain ⟨hlt, hg, _⟩ := h
    have : l.any g = true := List.any_eq_true.2 ⟨_, List.getElem_mem hlt, hg⟩
    simp [this]
theorem anyX_take_succ {α : Type} {g : α → Bool} {l : List α} {k : Nat} {x : α} (hk : l[k]? = some x) (h : (l.take k).any g = false) (hx : g x = false) : (l.take (k + 1)).any g = false := by
  rw [List.take_add_one, hk, List.any_append, h]; simp [hx]

def flat2 (ls : List (Int × Int)) : List Int := (ls.map fun x => [x.1, x.2]).flatten
theorem flat2_cons (x : Int × Int) (ls : List (Int × Int)) : flat2 (x :: ls) = x.1 :: x.2 :: flat2 ls := by simp [flat2]
theorem flat2_length (ls : List (Int × Int)) : (flat2 ls).length = ls.length * 2 := by
  induction ls with
  | nil => rfl
  | cons x ls ih => rw [flat2_cons, List.length_cons, List.length_cons, List.length_cons, ih]; omega
theorem flat2_get (ls : List (Int × Int)) (j : Nat) (x : Int × Int) (h : ls[j]? = some x) : (flat2 ls)[j * 2]? = some x.1 ∧ (flat2 ls)[j * 2 + 1]? = some x.2 := by
  induction ls generalizing j with
  | nil => simp at h
  | cons y ls ih =>
    rw [flat2_cons]
    cases j with
    | zero => simp at h; subst h; simp
    | succ j =>
      obtain ⟨h0, h1⟩ := ih j (by simpa using h)
      rw [show (j + 1) * 2 = j * 2 + 2 by omega]
      simpa using ⟨h0, h1⟩

theorem Pairs.of_own {w : World} {base : Nat} {e : TypeId} {v : Value} {l : List (Int × Int)} (h : w.ownsRow base e 2 v l.length ((flat2 l).map (Value.int .i64))) : Pairs w v l := by
  rcases h.2 with ⟨hv, hn⟩ | ⟨g, cap, cur, hv, _, hg, hc, _, hcs, ht⟩
  · exact ⟨none, 0, by rw [hv, hn], by omega, fun h0 => by omega⟩
  · refine ⟨some ⟨g, 0, none⟩, cap, hv, hc, fun _ => ⟨g, 0, rfl, fun j x hj => ?_⟩⟩
    have hcell : ∀ (k : Nat) (u : Int), (flat2 l)[k]? = some u → w.cell? ⟨g, k, none⟩ = some (.int .i64 u) := fun k u hk => by
      have hlt : k < l.length * 2 := by
        have h1 := (List.getElem?_eq_some_iff.1 hk).1
        rw [flat2_length] at h1; exact h1
      have e := congrArg (fun x : List Value => x[k]?) ht
      simp only [List.getElem?_take] at e
      rw [if_pos hlt, List.getElem?_map, hk] at e
      have : cur[k]? = some (.int .i64 u) := by rw [← Array.getElem?_toList]; exact e
      simp [World.cell?, hg, this]
    obtain ⟨h0, h1⟩ := flat2_get l j x hj
    rw [Nat.zero_add]
    exact ⟨hcell _ _ h0, hcell _ _ h1⟩

theorem flat2_take_succ (ls : List (Int × Int)) (k : Nat) (x : Int × Int) (hk : ls[k]? = some x) : (flat2 (ls.take (k + 1))).map (Value.int .i64) = (flat2 (ls.take k)).map (Value.int .i64) ++ [.int .i64 x.1, .int .i64 x.2] := by
  rw [List.take_add_one, hk, flat2, flat2, List.map_append, List.flatten_append, List.map_append]; simp

set_option maxHeartbeats 1000000 in
theorem IndexFuncX_any (K : Nat) (cap : Array Value) (henter : ∀ args w, Sem.run Tryd.prog (callFunc K args) w = .ok (.enter K args) w) (g : (Int × Int) → Bool) (v : Value) (l : List (Int × Int)) (w : World) (hl : l.length ≤ 1000000000) (hv : Pairs w v l)
    (hf : ∀ x ∈ l, ∀ w1, Below w.heap.size w w1 → Calls Tryd.prog K (#[.agg #[.int .i64 x.1, .int .i64 x.2]] ++ cap) w1 fun r w2 => r = .returned (.bool (g x)) ∧ Below w1.heap.size w1 w2) :
    Calls Tryd.prog 45 #[v, .func (.func K) #[] cap] w fun r w' => r = .returned (.int .i64 (findX g l)) ∧ Below w.heap.size w w' := by
  rcases Nat.eq_zero_or_pos l.length with h0 | h0
  · obtain rfl : l = [] := List.length_eq_zero_iff.1 h0
    obtain ⟨a, cp, rfl, _, _⟩ := hv
    go_enter Tryd.func45, Tryd.ntmps45
    go_wp2
    go_loop [8] (fun i => i = .int .i64 0) (fun _ => 0)
    case atStart => rfl
    case round =>
      obtain rfl := hrel
      go_wp2
      go_ret
      exact ⟨rfl, Below.refl _ _⟩
  · obtain ⟨b, off, cp, rfl, hcs⟩ := hv.head h0
    clear hv
    go_enter Tryd.func45, Tryd.ntmps45
    go_wp2
    go_loopw [8] (fun i wr => ∃ k : Nat, k ≤ l.length ∧ i = .int .i64 k ∧ (l.take k).any g = false ∧ Below w.heap.size w wr) (fun i _ => l.length - (intOf i).toNat)
    case atStart => exact ⟨0, by omega, rfl, rfl, Below.refl _ _⟩
    case round =>
      obtain ⟨k, hk, rfl, hf0, hbel⟩ := hrel
      have HF := Lib.hid hf0
      clear hf0
      by_cases hlt : k < l.length
      · obtain ⟨x, hx⟩ : ∃ x, l[k]? = some x := ⟨_, List.getElem?_eq_getElem hlt⟩
        obtain ⟨c0, c1⟩ := hcs k x hx
        have c0 := cellb c0 hbel
        have c1 := cellb c1 hbel
        have HX := Lib.hid hx
        clear hcs hx
        have TG := Lib.hid (hf x (List.mem_of_getElem? HX.out) wr hbel)
        by_cases hg : g x = true
        · go_wp2_with fail
          refine TG.out.mono ?_
          rintro e w2 ⟨rfl, hb2⟩
          go_wp2
          go_ret
          exact ⟨ret_int (findX_some HX.out HF.out hg).symm, bthen hbel hb2⟩
        · have hg' : g x = false := by simpa using hg
          clear hg
          go_wp2_with fail
          refine TG.out.mono ?_
          rintro e w2 ⟨rfl, hb2⟩
          go_wp2
          go_roundw
          case rel => exact ⟨k + 1, by omega, by go_num, anyX_take_succ HX.out HF.out hg', bthen hbel hb2⟩
          case measure => simp [intOf]; omega
      · obtain rfl : k = l.length := by omega
        go_wp2
        go_ret
        exact ⟨ret_int (findX_none (by have := HF.out; rwa [List.take_length] at this)).symm, hbel⟩


set_option maxHeartbeats 400000 in
theorem ContainsFuncX_any (K : Nat) (cap : Array Value) (henter : ∀ args w, Sem.run Tryd.prog (callFunc K args) w = .ok (.enter K args) w) (g : (Int × Int) → Bool) (v : Value) (l : List (Int × Int)) (w : World) (hl : l.length ≤ 1000000000) (hv : Pairs w v l)
    (hf : ∀ x ∈ l, ∀ w1, Below w.heap.size w w1 → Calls Tryd.prog K (#[.agg #[.int .i64 x.1, .int .i64 x.2]] ++ cap) w1 fun r w2 => r = .returned (.bool (g x)) ∧ Below w1.heap.size w1 w2) :
    Calls Tryd.prog 39 #[v, .func (.func K) #[] cap] w fun r w' => r = .returned (.bool (l.any g)) ∧ Below w.heap.size w w' := by
  have HG := Lib.hid (findX_ge g l)
  have TI := Lib.hid (IndexFuncX_any K cap henter g v l w hl hv hf)
  go_enter Tryd.func39, Tryd.ntmps39
  go_wp2_with fail
  refine TI.out.mono ?_
  rintro e w2 ⟨rfl, hb2⟩
  go_wp2
  go_ret
  exact ⟨ret_bool HG.out, hb2⟩



theorem Blk.news {w : World} {G : Nat} {T : TypeId} {vs : List Value} (h : Blk w G T vs) (j : Nat) (u : Value) (hj : vs[j]? = some u) : w.cell? ((⟨G, 0, none⟩ : Addr).add j) = some u := by
  rw [addr_add, Nat.zero_add]; exact h.cell hj
theorem Tryd.infoApiE : (Tryd.prog.info? 33).map (fun i => (i.zero, i.size, i.bytes)) = some (some (.agg #[.int .i64 0, .int .i64 0]), 2, 16) := by kernel_rfl
theorem Tryd.undEisens : Tryd.prog.underlying 78 = some (.slice 33) := by kernel_rfl
set_option maxRecDepth 100000 in
set_option maxHeartbeats 2000000 in
theorem mappedXX_any (K : Nat) (cap : Array Value) (henter : ∀ args w, Sem.run Tryd.prog (callFunc K args) w = .ok (.enter K args) w) (g : (Int × Int) → (Int × Int)) (v : Value) (l : List (Int × Int)) (w : World) (hl : l.length ≤ 1000000) (h0 : 0 < l.length) (hv : Pairs w v l)
    (hf : ∀ x ∈ l, ∀ w1, Below w.heap.size w w1 → Calls Tryd.prog K (#[.agg #[.int .i64 x.1, .int .i64 x.2]] ++ cap) w1 fun r w2 => r = .returned (.agg #[.int .i64 (g x).1, .int .i64 (g x).2]) ∧ Below w1.heap.size w1 w2) :
    Calls Tryd.prog 43 #[v, .func (.func K) #[] cap] w fun r w' => (∃ u, r = .returned u ∧ Pairs w' u (l.map g)) ∧ Below w.heap.size w w' := by
  obtain ⟨b, off, cp, rfl, hcs⟩ := hv.head h0
  clear hv
  obtain ⟨i0, hi, hz0, hz1, hz2⟩ := info_parts Tryd.infoApiE
  go_enter Tryd.func43, Tryd.ntmps43
  go_wp2
  go_loopw [5, 10] (fun v i wr => ∃ k : Nat, k ≤ l.length ∧ i = .int .i64 k ∧ wr.ownsRow w.heap.size 33 2 v k ((flat2 ((l.take k).map g)).map (Value.int .i64)) ∧ Below w.heap.size w wr) (fun _ i _ => l.length - (intOf i).toNat)
  case atStart => exact ⟨0, by omega, rfl, World.ownsRow_nil _ _ _ _, Below.refl _ _⟩
  case round =>
    obtain ⟨k, hk, rfl, hown, hbel⟩ := hrel
    by_cases hlt : k < l.length
    · obtain ⟨x, hx⟩ : ∃ x, l[k]? = some x := ⟨_, List.getElem?_eq_getElem hlt⟩
      obtain ⟨c0, c1⟩ := hcs k x hx
      have c0 := cellb c0 hbel
      have c1 := cellb c1 hbel
      have hts : (flat2 ((l.take (k + 1)).map g)).map (Value.int .i64) = (flat2 ((l.take k).map g)).map (Value.int .i64) ++ [.int .i64 (g x).1, .int .i64 (g x).2] := by
        rw [List.map_take, List.map_take]
        exact flat2_take_succ (l.map g) k (g x) (by rw [List.getElem?_map, hx]; rfl)
      have HTS := Lib.hid hts
      have HX := Lib.hid hx
      have TF := Lib.hid (fun W hE => hf x (List.mem_of_getElem? hx) W hE)
      obtain ⟨y0, hy0⟩ : ∃ y, y = (g x).1 := ⟨_, rfl⟩
      obtain ⟨y1, hy1⟩ : ∃ y, y = (g x).2 := ⟨_, rfl⟩
      rw [← hy0, ← hy1] at TF HTS
      clear hcs hx hts hy0 hy1
      go_wp2_with fail
      have hbx := bthen hbel (below_new wr (Obj.cells #[Value.int IntKind.i64 x.1, Value.int IntKind.i64 x.2] 33))
      refine (TF.out _ hbx).mono ?_
      rintro e w2 ⟨rfl, hb2⟩
      have hbx2 := bthen hbx hb2
      have hown := own_below hown (bthen (below_new wr (Obj.cells #[Value.int IntKind.i64 x.1, Value.int IntKind.i64 x.2] 33)) hb2)
      clear hbx hb2 hbel c0 c1
      go_wp2_with (at_builtin; refine wpList_append_own _ rfl _ _ 78 rfl w.heap.size 33 i0 (.agg #[.int .i64 0, .int .i64 0]) 2 16 Tryd.undEisens hi hz0 hz1 hz2 rfl (by decide) _ _ _ rfl (hown.alloc _) ⟨w2.heap.size, 0, none⟩ 1 1 [.int .i64 y0, .int .i64 y1] rfl rfl (fun j u hj => (Blk.new w2 33 [.int .i64 y0, .int .i64 y1]).news j u hj) (by simp [Value.oneCell']) (by unfold maxLen; omega) (by omega) (by have := hbx2.size; simp; omega) ?_; intro v' w1 hown' hgrow _)
      have hbel' := below_own hbx2 hown hgrow
      have hown2 : w1.ownsRow w.heap.size 33 2 v' (k + 1) ((flat2 ((l.take (k + 1)).map g)).map (Value.int .i64)) := by
        rw [HTS.out]; exact hown'
      clear hown hbx2 hown' hgrow
      go_wp2
      go_roundw
      case rel => exact ⟨k + 1, by omega, by go_num, hown2, hbel'⟩
      case measure => simp [intOf]; omega
    · obtain rfl : k = l.length := by omega
      have hout : Pairs wr u5 (l.map g) := Pairs.of_own (base := w.heap.size) (e := 33) (by rw [List.take_length] at hown; rw [List.length_map]; exact hown)
      clear hown
      go_wp2
      go_ret
      exact ⟨⟨_, rfl, hout⟩, hbel⟩

theorem Tryd.enterAW1 (args : Array Value) (w : World) : Sem.run Tryd.prog (callFunc 40 args) w = .ok (.enter 40 args) w :=
  MuLone.run_callFunc_enter Tryd.func40 (by kernel_rfl) rfl args w
theorem allWithin1_ok (a b m : Int) (B : Nat) (w : World) (hB : w.cell? ⟨B, 0, none⟩ = some (.int .i64 m)) (hm : 1000 ≤ m ∧ m ≤ 2000000) (ha : Sml a) (hb : Sml b) :
    Calls Tryd.prog 40 #[.agg #[.int .i64 a, .int .i64 b], .pointer (some ⟨B, 0, none⟩)] w fun r w' => r = .returned (.bool false) ∧ Below w.heap.size w w' := by
  have TW := Lib.hid (fun W => withinE2_any a b m W hm ha hb)
  clear hm ha hb
  have k1 := below_new w (.cells #[.int .i64 a, .int .i64 b] 33)
  have hB2 := cellb hB k1
  go_enter Tryd.func40, Tryd.ntmps40
  go_wp2_with fail
  refine (TW.out _).mono ?_
  rintro e w2 ⟨rfl, hb2⟩
  go_wp2
  go_ret
  exact ⟨rfl, bthen k1 hb2⟩
theorem any_false {α : Type} (l : List α) : l.any (fun _ => false) = false := by simp
set_option maxRecDepth 100000 in
set_option maxHeartbeats 1000000 in
theorem allWithin_ok (v : Value) (l : List (Int × Int)) (m : Int) (w : World) (hl : l.length ≤ 1000) (hv : Pairs w v l) (hm : 1000 ≤ m ∧ m ≤ 2000000) (hs : ∀ x ∈ l, Sml x.1 ∧ Sml x.2) :
    Calls Tryd.prog 29 #[v, .int .i64 m] w fun r w' => r = .returned (.int .i64 0) ∧ Below w.heap.size w w' := by
  have TC := Lib.hid (fun (B : Nat) (W : World) (hb : W.cell? ⟨B, 0, none⟩ = some (.int .i64 m)) (hv : Pairs W v l) => ContainsFuncX_any 40 #[.pointer (some ⟨B, 0, none⟩)] Tryd.enterAW1 (fun _ => false) v l W (by omega) hv (fun x hx w1 hE => allWithin1_ok x.1 x.2 m B w1 (cellb hb hE) hm (hs x hx).1 (hs x hx).2))
  rw [any_false] at TC
  have TW := Lib.hid (fun W => whenP_any false 3 W)
  clear hm hs
  go_enter Tryd.func29, Tryd.ntmps29
  go_upto_region 1 with fail
  obtain ⟨W1, hW1⟩ : ∃ v, v = World.alloc w (Obj.cells #[.int .i64 m] 3) := ⟨_, rfl⟩
  have kW1 : Below w.heap.size w W1 := by rw [hW1]; exact below_new _ _
  have iW1 : Blk W1 (w.heap.size) 3 [.int .i64 m] := by rw [hW1]; exact Blk.new _ _ _
  have sW1 : W1.heap.size = w.heap.size + 1 := by rw [hW1]; simp
  rw [← hW1]
  clear hW1
  have c0 := iW1.cell (j := 0) (v := .int .i64 m) rfl
  replace hv := hv.carry kW1
  clear iW1 sW1
  go_wp2_with fail
  refine (TC.out w.heap.size W1 c0 hv).mono ?_
  rintro e w2 ⟨rfl, hb2⟩
  go_wp2_with fail
  refine (TW.out _).mono ?_
  rintro e w3 ⟨rfl, rfl⟩
  go_wp2
  go_ret
  exact ⟨rfl, bthen kW1 hb2⟩
/-- three numbers, as a list. -/
def e3P (x : E3) : List (Int × Int) := [(x.1, x.2.1), (x.2.2.1, x.2.2.2.1), (x.2.2.2.2.1, x.2.2.2.2.2)]
theorem e3P_sml {x : E3} (h : SmlE 1000 x) : ∀ y ∈ e3P x, Sml y.1 ∧ Sml y.2 := by
  obtain ⟨h0, h1, h2, h3, h4, h5⟩ := h
  intro y hy
  simp [e3P] at hy
  rcases hy with rfl | rfl | rfl
  · exact ⟨h0, h1⟩
  · exact ⟨h2, h3⟩
  · exact ⟨h4, h5⟩
theorem Pairs.e3 {w : World} {B : Nat} {T : TypeId} {x : E3} (h : BlkI w B T (e3L x)) : Pairs w (.slice (some ⟨B, 0, none⟩) 3 3) (e3P x) := by
  refine ⟨_, 3, rfl, Nat.le_refl _, fun _ => ⟨B, 0, rfl, fun j y hj => ?_⟩⟩
  have c : ∀ i, i < 6 → w.cell? ⟨B, i, none⟩ = some (.int .i64 ((e3L x)[i]?.getD 0)) := fun i hi => BlkI.cell h (by simpa [e3L] using hi)
  match j, hj with
  | 0, hj => simp [e3P] at hj; subst hj; exact ⟨c 0 (by omega), c 1 (by omega)⟩
  | 1, hj => simp [e3P] at hj; subst hj; exact ⟨c 2 (by omega), c 3 (by omega)⟩
  | 2, hj => simp [e3P] at hj; subst hj; exact ⟨c 4 (by omega), c 5 (by omega)⟩
  | j + 3, hj => simp [e3P] at hj
set_option maxRecDepth 100000 in
set_option maxHeartbeats 1000000 in
theorem CheckPhases_ok (x : E3) (w : World) (hs : SmlE 1000 x) :
    Calls Tryd.prog 27 #[.agg (ia (e3L x))] w fun r w' => r = .returned (.int .i64 0) ∧ Below w.heap.size w w' := by
  have TA := Lib.hid (fun (B : Nat) (W : World) (h : BlkI W B 37 (e3L x)) => allWithin_ok _ (e3P x) 65536 W (by simp [e3P]) (Pairs.e3 h) (by omega) (e3P_sml hs))
  obtain ⟨a0, a1, b0, b1, c0, c1⟩ := x
  clear hs
  show Calls _ _ #[.agg #[.int .i64 a0, .int .i64 a1, .int .i64 b0, .int .i64 b1, .int .i64 c0, .int .i64 c1]] _ _
  go_enter Tryd.func27, Tryd.ntmps27
  go_upto_region 1 with fail
  obtain ⟨W1, hW1⟩ : ∃ v, v = World.alloc w (Obj.cells #[.int .i64 a0, .int .i64 a1, .int .i64 b0, .int .i64 b1, .int .i64 c0, .int .i64 c1] 37) := ⟨_, rfl⟩
  have kW1 : Below w.heap.size w W1 := by rw [hW1]; exact below_new _ _
  have iW1 : Blk W1 (w.heap.size) 37 [.int .i64 a0, .int .i64 a1, .int .i64 b0, .int .i64 b1, .int .i64 c0, .int .i64 c1] := by rw [hW1]; exact Blk.new _ _ _
  have sW1 : W1.heap.size = w.heap.size + 1 := by rw [hW1]; simp
  rw [← hW1]
  clear hW1
  have i1 : BlkI W1 w.heap.size 37 (e3L (a0, a1, b0, b1, c0, c1)) := iW1
  clear iW1 sW1
  go_wp2_with fail
  refine (TA.out w.heap.size W1 i1).mono ?_
  rintro e w2 ⟨rfl, hb2⟩
  go_wp2
  go_ret
  exact ⟨rfl, bthen kW1 hb2⟩

theorem Tryd.enterDv1 (args : Array Value) (w : World) : Sem.run Tryd.prog (callFunc 42 args) w = .ok (.enter 42 args) w :=
  MuLone.run_callFunc_enter Tryd.func42 (by kernel_rfl) rfl args w
theorem divided1_ok (a b : Int) (B : Nat) (w : World) (hB : w.cell? ⟨B, 0, none⟩ = some (.int .i64 3)) (ha : Sml a) (hb : Sml b) (h0 : a.tmod 3 = 0) (h1 : b.tmod 3 = 0) :
    Calls Tryd.prog 42 #[.agg #[.int .i64 a, .int .i64 b], .pointer (some ⟨B, 0, none⟩)] w fun r w' => r = .returned (.bool false) ∧ Below w.heap.size w w' := by
  have k1 := below_new w (.cells #[.int .i64 a, .int .i64 b] 33)
  have hB2 := cellb hB k1
  unfold Sml at ha hb
  go_enter Tryd.func42, Tryd.ntmps42
  go_wp2
  go_ret
  exact ⟨rfl, k1⟩
theorem Tryd.enterDv2 (args : Array Value) (w : World) : Sem.run Tryd.prog (callFunc 44 args) w = .ok (.enter 44 args) w :=
  MuLone.run_callFunc_enter Tryd.func44 (by kernel_rfl) rfl args w
theorem arrPh (a : Option Addr) (n cap : Nat) (w : World) (h : 3 ≤ n) : Sem.run Tryd.prog (Instr.arrayAt 37 (.slice a n cap)) w = .ok (.pointer a) w := by
  have hu : Tryd.prog.underlying 37 = some (.array 3 33) := by kernel_rfl
  unfold Instr.arrayAt
  rw [Sem.run_bind, run_underlying hu w]
  simp [Nat.not_lt.2 h]
theorem Tryd.sizePh : (Tryd.prog.info? 37).map (fun x => x.size) = some 6 := by kernel_rfl
theorem Tryd.sizeApiE : (Tryd.prog.info? 33).map (fun x => x.size) = some 2 := by kernel_rfl
set_option maxRecDepth 100000 in
set_option maxHeartbeats 1000000 in
theorem divided2_ok (a b x y : Int) (B : Nat) (w : World) (hB : w.cell? ⟨B, 0, none⟩ = some (.int .i64 3)) (hx : Sml x) (hy : Sml y) (h0 : a.tdiv 3 = x) (h1 : b.tdiv 3 = y) :
    Calls Tryd.prog 44 #[.agg #[.int .i64 a, .int .i64 b], .pointer (some ⟨B, 0, none⟩)] w fun r w' => r = .returned (.agg #[.int .i64 x, .int .i64 y]) ∧ Below w.heap.size w w' := by
  have q0 : IntKind.i64.wrap (a.tdiv 3) = x := by rw [h0]; exact IntWalk.i64_in _ (by unfold Sml at hx; omega)
  have q1 : IntKind.i64.wrap (b.tdiv 3) = y := by rw [h1]; exact IntWalk.i64_in _ (by unfold Sml at hy; omega)
  clear h0 h1 hx hy
  go_enter Tryd.func44, Tryd.ntmps44
  go_upto_region 1 with fail
  obtain ⟨W1, hW1⟩ : ∃ v, v = World.alloc w (Obj.cells #[.int .i64 a, .int .i64 b] 33) := ⟨_, rfl⟩
  have kW1 : Below w.heap.size w W1 := by rw [hW1]; exact below_new _ _
  have iW1 : Blk W1 (w.heap.size) 33 [.int .i64 a, .int .i64 b] := by rw [hW1]; exact Blk.new _ _ _
  have sW1 : W1.heap.size = w.heap.size + 1 := by rw [hW1]; simp
  rw [← hW1]
  clear hW1
  obtain ⟨W2, hW2⟩ : ∃ v, v = World.alloc W1 (Obj.cells #[.int .i64 0, .int .i64 0] 33) := ⟨_, rfl⟩
  have kW2 : Below W1.heap.size W1 W2 := by rw [hW2]; exact below_new _ _
  have iW2 : Blk W2 (w.heap.size + 1) 33 [.int .i64 0, .int .i64 0] := by rw [hW2, ← sW1]; exact Blk.new _ _ _
  have sW2 : W2.heap.size = w.heap.size + 1 + 1 := by rw [hW2]; simp [sW1]
  rw [← hW2]
  clear hW2
  have i1 := iW1.carry kW2
  have i2 : BlkI W2 (w.heap.size + 1) 33 [0, 0] := iW2
  have hB9 : Below w.heap.size w W2 := bthen kW1 kW2
  have hc := cellb hB hB9
  have a0 := i1.cell (j := 0) (v := .int .i64 a) rfl
  have a1 := i1.cell (j := 1) (v := .int .i64 b) rfl
  clear iW1 kW1 sW1 iW2 kW2 sW2 i1
  refine wp_region_E 9 (by kernel_rfl) ?_
  obtain ⟨wz, hwz⟩ : ∃ v, v = W2.drew := ⟨_, rfl⟩
  rw [← hwz]
  have hlz : Below W2.heap.size W2 wz := by rw [hwz]; exact (Below.refl _ _).drew
  have hbz := bthen hB9 hlz
  have hc := cellb hc hlz
  have a0 := cellb a0 hlz
  have a1 := cellb a1 hlz
  have i2 := i2.carry hlz
  clear hwz hlz
  refine wpAnyE_take (i := 0) (oi := { dst := some 4, op := Op.fieldAddr 33 (Operand.tmp 2) 0, type := 0, pos := "phasor.go:225", after := #[], guard := none }) (v := ?_) rfl (by kernel_rfl) (by kernel_rfl) (by kernel_rfl) (by kernel_rfl) (fun _ _ _ h => h) (Or.inl ⟨by rfl, ?_⟩) ?_
  rotate_left
  · (intro w hE; have hc := cellb hc hE; have a0 := cellb a0 hE; have a1 := cellb a1 hE; (try dsimp only); go_simp); (try with_reducible rfl)
  try simp only [Act.put, List.setIfInBounds_toArray, List.set_cons_zero, List.set_cons_succ]
  refine wpAnyE_take (i := 1) (oi := { dst := some 5, op := Op.load 3 (Operand.tmp 4), type := 3, pos := "phasor.go:225", after := #[{ on := 0, ground := Ground.data }], guard := none }) (v := ?_) rfl (by kernel_rfl) (by kernel_rfl) (by kernel_rfl) (by kernel_rfl) (fun _ _ _ h => h) (Or.inl ⟨by rfl, ?_⟩) ?_
  rotate_left
  · (intro w hE; have hc := cellb hc hE; have a0 := cellb a0 hE; have a1 := cellb a1 hE; (try dsimp only); go_simp); (try with_reducible rfl)
  try simp only [Act.put, List.setIfInBounds_toArray, List.set_cons_zero, List.set_cons_succ]
  refine wpAnyE_take (i := 2) (oi := { dst := some 6, op := Op.load 3 (Operand.tmp 1), type := 3, pos := "phasor.go:225", after := #[], guard := none }) (v := ?_) rfl (by kernel_rfl) (by kernel_rfl) (by kernel_rfl) (by kernel_rfl) (fun _ _ _ h => h) (Or.inl ⟨by rfl, ?_⟩) ?_
  rotate_left
  · (intro w hE; have hc := cellb hc hE; have a0 := cellb a0 hE; have a1 := cellb a1 hE; (try dsimp only); go_simp); (try with_reducible rfl)
  try simp only [Act.put, List.setIfInBounds_toArray, List.set_cons_zero, List.set_cons_succ]
  refine wpAnyE_take (i := 3) (oi := { dst := some 7, op := Op.binOp BinOp.quo 3 (Operand.tmp 5) (Operand.tmp 6) 3, type := 3, pos := "phasor.go:225", after := #[{ on := 1, ground := Ground.data }, { on := 2, ground := Ground.data }], guard := none }) (v := ?_) rfl (by kernel_rfl) (by kernel_rfl) (by kernel_rfl) (by kernel_rfl) (fun _ _ _ h => h) (Or.inl ⟨by rfl, ?_⟩) ?_
  rotate_left
  · (intro w hE; have hc := cellb hc hE; have a0 := cellb a0 hE; have a1 := cellb a1 hE; (try dsimp only); go_simp); (try with_reducible rfl)
  try simp only [Act.put, List.setIfInBounds_toArray, List.set_cons_zero, List.set_cons_succ]
  refine wpAnyE_take (i := 4) (oi := { dst := some 8, op := Op.fieldAddr 33 (Operand.tmp 2) 1, type := 0, pos := "phasor.go:225", after := #[], guard := none }) (v := ?_) rfl (by kernel_rfl) (by kernel_rfl) (by kernel_rfl) (by kernel_rfl) (fun _ _ _ h => h) (Or.inl ⟨by rfl, ?_⟩) ?_
  rotate_left
  · (intro w hE; have hc := cellb hc hE; have a0 := cellb a0 hE; have a1 := cellb a1 hE; (try dsimp only); go_simp); (try with_reducible rfl)
  try simp only [Act.put, List.setIfInBounds_toArray, List.set_cons_zero, List.set_cons_succ]
  refine wpAnyE_take (i := 5) (oi := { dst := some 9, op := Op.load 3 (Operand.tmp 8), type := 3, pos := "phasor.go:225", after := #[{ on := 4, ground := Ground.data }], guard := none }) (v := ?_) rfl (by kernel_rfl) (by kernel_rfl) (by kernel_rfl) (by kernel_rfl) (fun _ _ _ h => h) (Or.inl ⟨by rfl, ?_⟩) ?_
  rotate_left
  · (intro w hE; have hc := cellb hc hE; have a0 := cellb a0 hE; have a1 := cellb a1 hE; (try dsimp only); go_simp); (try with_reducible rfl)
  try simp only [Act.put, List.setIfInBounds_toArray, List.set_cons_zero, List.set_cons_succ]
  refine wpAnyE_take (i := 6) (oi := { dst := some 10, op := Op.load 3 (Operand.tmp 1), type := 3, pos := "phasor.go:225", after := #[], guard := none }) (v := ?_) rfl (by kernel_rfl) (by kernel_rfl) (by kernel_rfl) (by kernel_rfl) (fun _ _ _ h => h) (Or.inl ⟨by rfl, ?_⟩) ?_
  rotate_left
  · (intro w hE; have hc := cellb hc hE; have a0 := cellb a0 hE; have a1 := cellb a1 hE; (try dsimp only); go_simp); (try with_reducible rfl)
  try simp only [Act.put, List.setIfInBounds_toArray, List.set_cons_zero, List.set_cons_succ]
  refine wpAnyE_take (i := 7) (oi := { dst := some 11, op := Op.binOp BinOp.quo 3 (Operand.tmp 9) (Operand.tmp 10) 3, type := 3, pos := "phasor.go:225", after := #[{ on := 5, ground := Ground.data }, { on := 6, ground := Ground.data }], guard := none }) (v := ?_) rfl (by kernel_rfl) (by kernel_rfl) (by kernel_rfl) (by kernel_rfl) (fun _ _ _ h => h) (Or.inl ⟨by rfl, ?_⟩) ?_
  rotate_left
  · (intro w hE; have hc := cellb hc hE; have a0 := cellb a0 hE; have a1 := cellb a1 hE; (try dsimp only); go_simp); (try with_reducible rfl)
  try simp only [Act.put, List.setIfInBounds_toArray, List.set_cons_zero, List.set_cons_succ]
  refine wpAnyE_take (i := 8) (oi := { dst := some 12, op := Op.build 33 #[(0, Operand.tmp 7), (1, Operand.tmp 11)], type := 33, pos := "phasor.go:225", after := #[{ on := 3, ground := Ground.data }, { on := 7, ground := Ground.data }], guard := none }) (v := ?_) rfl (by kernel_rfl) (by kernel_rfl) (by kernel_rfl) (by kernel_rfl) (fun _ _ _ h => h) (Or.inl ⟨by rfl, ?_⟩) ?_
  rotate_left
  · (intro w hE; have hc := cellb hc hE; have a0 := cellb a0 hE; have a1 := cellb a1 hE; (try dsimp only); go_simp); (try with_reducible rfl)
  try simp only [Act.put, List.setIfInBounds_toArray, List.set_cons_zero, List.set_cons_succ]
  refine wpAnyE_one (i := 9) (o := { dst := none, op := Op.store 33 (Operand.tmp 3) (Operand.tmp 12), type := 0, pos := "phasor.go:225", after := #[{ on := 8, ground := Ground.data }, { on := 0, ground := Ground.phase }, { on := 1, ground := Ground.phase }, { on := 2, ground := Ground.phase }, { on := 3, ground := Ground.phase }, { on := 4, ground := Ground.phase }, { on := 5, ground := Ground.phase }, { on := 6, ground := Ground.phase }, { on := 7, ground := Ground.phase }, { on := 8, ground := Ground.phase }], guard := none }) (by kernel_rfl) rfl (fun wy1 hE K hK => ?_)
  have hc := cellb hc hE
  have a0 := cellb a0 hE
  have a1 := cellb a1 hE
  have i2 := i2.carry hE
  have hbz1 := bthen hbz hE
  clear hE
  rw [if_pos (by rfl)]
  refine wp_storeA _ _ _ rfl (w.heap.size + 1) [x, y] [0, 0] rfl rfl i2 rfl Tryd.sizeApiE ?_
  obtain ⟨wx1, hwz⟩ : ∃ v, v = World.setRow wy1 (w.heap.size + 1) (ia [x, y]) := ⟨_, rfl⟩
  rw [← hwz]
  have hcz1 : Below w.heap.size w wx1 := by rw [hwz]; exact below_rowA hbz1 (by omega) _
  replace i2 := BlkI.setRowA i2 [x, y]
  rw [← hwz] at i2
  clear hwz
  refine hK _ _ (fun h => absurd rfl h) ?_
  clear hK K
  try simp only [Act.put, List.setIfInBounds_toArray, List.set_cons_zero, List.set_cons_succ]
  refine wpAnyE_done (by kernel_rfl) (fun wy2 hE => ?_) _
  have hbz2 := bthen hcz1 hE
  have i2 := i2.carry hE
  clear hE
  have hB := hbz2
  obtain ⟨W9, hW9⟩ : ∃ v, v = wy2 := ⟨_, rfl⟩
  rw [← hW9] at hB i2 ⊢
  clear hW9
  go_wp2
  have x0 : W9.cell? ⟨w.heap.size + 1, 0, none⟩ = some (.int .i64 x) := BlkI.cell i2 (j := 0) (by simp)
  have x1 : W9.cell? ⟨w.heap.size + 1, 1, none⟩ = some (.int .i64 y) := BlkI.cell i2 (j := 1) (by simp)
  exact bodyPost_ret (v := .agg #[.int .i64 x, .int .i64 y]) (by simp [results, Tryd.f44, go_sem, x0, x1]) rfl ⟨rfl, hB⟩
def thrE (y : E3) : E3 := (3 * y.1, 3 * y.2.1, 3 * y.2.2.1, 3 * y.2.2.2.1, 3 * y.2.2.2.2.1, 3 * y.2.2.2.2.2)
set_option maxRecDepth 100000 in
set_option maxHeartbeats 1000000 in
theorem divided_ok (B : Nat) (y : E3) (w : World) (hs : SmlE 200 y) (hi : BlkI w B 36 (e3L (thrE y))) :
    Calls Tryd.prog 30 #[.slice (some ⟨B, 0, none⟩) 3 3, .int .i64 3] w fun r w' => (∃ u, r = .returned (.tuple #[u, .bool true]) ∧ Pairs w' u (e3P y)) ∧ Below w.heap.size w w' := by
  have hv := Pairs.e3 hi
  obtain ⟨g, hg⟩ : ∃ g : (Int × Int) → (Int × Int), g = fun p => (p.1.tdiv 3, p.2.tdiv 3) := ⟨_, rfl⟩
  have hmap : (e3P (thrE y)).map g = e3P y := by
    subst hg
    obtain ⟨a0, a1, b0, b1, c0, c1⟩ := y
    simp [e3P, thrE]
  have hthr : ∀ x ∈ e3P (thrE y), (Sml x.1 ∧ Sml x.2 ∧ x.1.tmod 3 = 0 ∧ x.2.tmod 3 = 0) ∧ Sml (g x).1 ∧ Sml (g x).2 := by
    subst hg
    obtain ⟨a0, a1, b0, b1, c0, c1⟩ := y
    obtain ⟨h0, h1, h2, h3, h4, h5⟩ := hs
    simp only at h0 h1 h2 h3 h4 h5
    intro x hx
    simp [e3P, thrE] at hx
    unfold Sml
    rcases hx with rfl | rfl | rfl <;> simp only <;> refine ⟨⟨by omega, by omega, Int.mul_tmod_right _ _, Int.mul_tmod_right _ _⟩, ?_, ?_⟩ <;> rw [Int.mul_tdiv_cancel_left _ (by decide)] <;> omega
  have hy : ∀ x ∈ e3P y, Sml x.1 ∧ Sml x.2 := e3P_sml (by obtain ⟨h0, h1, h2, h3, h4, h5⟩ := hs; unfold SmlE; omega)
  have hlen : (e3P (thrE y)).length = 3 := rfl
  have TC := Lib.hid (fun (A : Nat) (W : World) (hb : W.cell? ⟨A, 0, none⟩ = some (.int .i64 3)) (hv : Pairs W (.slice (some ⟨B, 0, none⟩) 3 3) (e3P (thrE y))) => ContainsFuncX_any 42 #[.pointer (some ⟨A, 0, none⟩)] Tryd.enterDv1 (fun _ => false) _ _ W (by rw [hlen]; omega) hv (fun x hx w1 hE => divided1_ok x.1 x.2 A w1 (cellb hb hE) (hthr x hx).1.1 (hthr x hx).1.2.1 (hthr x hx).1.2.2.1 (hthr x hx).1.2.2.2))
  rw [any_false] at TC
  have TM := Lib.hid (fun (A : Nat) (W : World) (hb : W.cell? ⟨A, 0, none⟩ = some (.int .i64 3)) (hv : Pairs W (.slice (some ⟨B, 0, none⟩) 3 3) (e3P (thrE y))) => mappedXX_any 44 #[.pointer (some ⟨A, 0, none⟩)] Tryd.enterDv2 g _ _ W (by rw [hlen]; omega) (by rw [hlen]; omega) hv (fun x hx w1 hE => divided2_ok x.1 x.2 (g x).1 (g x).2 A w1 (cellb hb hE) (hthr x hx).2.1 (hthr x hx).2.2 (by rw [hg]) (by rw [hg])))
  rw [hmap] at TM
  have TA := Lib.hid (fun (u : Value) (W : World) (hv : Pairs W u (e3P y)) => allWithin_ok u (e3P y) 65536 W (by simp [e3P]) hv (by omega) hy)
  clear hg hmap hthr hy hlen hs hi
  go_enter Tryd.func30, Tryd.ntmps30
  go_upto_region 1 with fail
  obtain ⟨W1, hW1⟩ : ∃ v, v = World.alloc w (Obj.cells #[.int .i64 3] 3) := ⟨_, rfl⟩
  have kW1 : Below w.heap.size w W1 := by rw [hW1]; exact below_new _ _
  have iW1 : Blk W1 (w.heap.size) 3 [.int .i64 3] := by rw [hW1]; exact Blk.new _ _ _
  have sW1 : W1.heap.size = w.heap.size + 1 := by rw [hW1]; simp
  rw [← hW1]
  clear hW1
  have c0 := iW1.cell (j := 0) (v := .int .i64 3) rfl
  replace hv := hv.carry kW1
  clear iW1 sW1
  have hB := kW1
  go_wp2_with fail
  refine (TC.out w.heap.size W1 c0 hv).mono ?_
  rintro e w2 ⟨rfl, hb2⟩
  replace hv := hv.carry hb2
  replace c0 := cellb c0 hb2
  replace hB := bthen hB hb2
  clear hb2 kW1
  go_wp2_with fail
  refine (TM.out w.heap.size w2 c0 hv).mono ?_
  rintro e w3 ⟨⟨u, rfl, hu⟩, hb3⟩
  replace hB := bthen hB hb3
  clear hb3 c0 hv
  go_wp2_with fail
  refine (TA.out u w3 hu).mono ?_
  rintro e w4 ⟨rfl, hb4⟩
  replace hu := hu.carry hb4
  go_wp2
  go_ret2
  exact ⟨⟨_, rfl, hu⟩, bthen hB hb4⟩

set_option maxRecDepth 100000 in
set_option maxHeartbeats 1000000 in
theorem Components_ok (x : E3) (w : World) (hT : Thirds w) (hs : SmlE 1000 x) :
    Calls Tryd.prog 12 #[.agg (ia (e3L x))] w fun e w' => e = .returned (.tuple #[.agg (ia (e3L (cmp x))), .int .i64 0]) ∧ Below w.heap.size w w' := by
  have TC := Lib.hid (fun W => CheckPhases_ok x W hs)
  have TK := Lib.hid (fun W hT => components_any x W hT (by obtain ⟨h0, h1, h2, h3, h4, h5⟩ := hs; unfold SmlE; omega))
  obtain ⟨X, hX⟩ : ∃ X, X = cmp x := ⟨_, rfl⟩
  rw [← hX] at TK ⊢
  clear hX hs
  obtain ⟨z0, z1, p0, p1, n0, n1⟩ := X
  obtain ⟨a0, a1, b0, b1, c0, c1⟩ := x
  show Calls _ _ #[.agg #[.int .i64 a0, .int .i64 a1, .int .i64 b0, .int .i64 b1, .int .i64 c0, .int .i64 c1]] _ _
  go_enter Tryd.func12, Tryd.ntmps12
  go_upto_region 1 with fail
  obtain ⟨W1, hW1⟩ : ∃ v, v = World.alloc w (Obj.cells #[.int .i64 a0, .int .i64 a1, .int .i64 b0, .int .i64 b1, .int .i64 c0, .int .i64 c1] 37) := ⟨_, rfl⟩
  have kW1 : Below w.heap.size w W1 := by rw [hW1]; exact below_new _ _
  have iW1 : Blk W1 (w.heap.size) 37 [.int .i64 a0, .int .i64 a1, .int .i64 b0, .int .i64 b1, .int .i64 c0, .int .i64 c1] := by rw [hW1]; exact Blk.new _ _ _
  have sW1 : W1.heap.size = w.heap.size + 1 := by rw [hW1]; simp
  rw [← hW1]
  clear hW1
  obtain ⟨W2, hW2⟩ : ∃ v, v = World.alloc W1 (Obj.cells #[.int .i64 0, .int .i64 0, .int .i64 0, .int .i64 0, .int .i64 0, .int .i64 0] 36) := ⟨_, rfl⟩
  have kW2 : Below W1.heap.size W1 W2 := by rw [hW2]; exact below_new _ _
  have iW2 : Blk W2 (w.heap.size + 1) 36 [.int .i64 0, .int .i64 0, .int .i64 0, .int .i64 0, .int .i64 0, .int .i64 0] := by rw [hW2, ← sW1]; exact Blk.new _ _ _
  have sW2 : W2.heap.size = w.heap.size + 1 + 1 := by rw [hW2]; simp [sW1]
  rw [← hW2]
  clear hW2
  have i1 := iW1.carry kW2
  have i2 : BlkI W2 (w.heap.size + 1) 36 [0, 0, 0, 0, 0, 0] := iW2
  have hB : Below w.heap.size w W2 := bthen kW1 kW2
  have a0' := i1.cell (j := 0) (v := .int .i64 a0) rfl
  have a1' := i1.cell (j := 1) (v := .int .i64 a1) rfl
  have a2' := i1.cell (j := 2) (v := .int .i64 b0) rfl
  have a3' := i1.cell (j := 3) (v := .int .i64 b1) rfl
  have a4' := i1.cell (j := 4) (v := .int .i64 c0) rfl
  have a5' := i1.cell (j := 5) (v := .int .i64 c1) rfl
  replace hT := hT.carry hB
  clear iW1 kW1 sW1 iW2 kW2 sW2 i1
  go_wp2_with fail
  refine (TC.out W2).mono ?_
  rintro e w3 ⟨rfl, hb3⟩
  replace i2 : BlkI w3 (w.heap.size + 1) 36 [0, 0, 0, 0, 0, 0] := Blk.carry i2 hb3
  replace hT := hT.carry hb3
  replace hB := bthen hB hb3
  have b0' := cellb a0' hb3
  have b1' := cellb a1' hb3
  have b2' := cellb a2' hb3
  have b3' := cellb a3' hb3
  have b4' := cellb a4' hb3
  have b5' := cellb a5' hb3
  clear a0' a1' a2' a3' a4' a5' hb3
  go_wp2_with fail
  refine (TK.out w3 hT).mono ?_
  rintro e w4 ⟨rfl, hb4⟩
  replace i2 : BlkI w4 (w.heap.size + 1) 36 [0, 0, 0, 0, 0, 0] := Blk.carry i2 hb4
  replace hB := bthen hB hb4
  clear b0' b1' b2' b3' b4' b5' hb4 hT
  go_wp2_with (refine wpList_storeA rfl _ _ _ rfl (w.heap.size + 1) [z0, z1, p0, p1, n0, n1] [0, 0, 0, 0, 0, 0] rfl rfl i2 rfl Tryd.sizeE3 ?_)
  have i9 := BlkI.setRowA i2 [z0, z1, p0, p1, n0, n1]
  have x0 := BlkI.cell i9 (j := 0) (by simp)
  have x1 := BlkI.cell i9 (j := 1) (by simp)
  have x2 := BlkI.cell i9 (j := 2) (by simp)
  have x3 := BlkI.cell i9 (j := 3) (by simp)
  have x4 := BlkI.cell i9 (j := 4) (by simp)
  have x5 := BlkI.cell i9 (j := 5) (by simp)
  simp at x0 x1 x2 x3 x4 x5
  exact bodyPost_ret (v := .tuple #[.agg #[.int .i64 z0, .int .i64 z1, .int .i64 p0, .int .i64 p1, .int .i64 n0, .int .i64 n1], .int .i64 0]) (by simp [results, Tryd.f12, go_sem, x0, x1, x2, x3, x4, x5]) rfl ⟨rfl, below_rowA hB (by omega) _⟩
theorem e3_of (y : E3) : (flat2 (e3P y)).map (Value.int .i64) = [.int .i64 y.1, .int .i64 y.2.1, .int .i64 y.2.2.1, .int .i64 y.2.2.2.1, .int .i64 y.2.2.2.2.1, .int .i64 y.2.2.2.2.2] := rfl
/-- the components, taken in another order, are thrice the numbers. -/
theorem cmp_back (x : E3) : cmp ((cmp x).1, (cmp x).2.1, (cmp x).2.2.2.2.1, (cmp x).2.2.2.2.2, (cmp x).2.2.1, (cmp x).2.2.2.1) = thrE x := by
  obtain ⟨a0, a1, b0, b1, c0, c1⟩ := x
  simp only [cmp, thrE]
  refine Prod.ext ?_ (Prod.ext ?_ (Prod.ext ?_ (Prod.ext ?_ (Prod.ext ?_ ?_)))) <;> simp only <;> omega
set_option maxRecDepth 100000 in
set_option maxHeartbeats 4000000 in
theorem Restored_ok (y : E3) (w : World) (hT : Thirds w) (hs : SmlE 200 y) :
    Calls Tryd.prog 13 #[.agg (ia (e3L (cmp y)))] w fun e w' => e = .returned (.tuple #[.agg (ia (e3L y)), .int .i64 0]) ∧ Below w.heap.size w w' := by
  have hcs : SmlE 1000 (cmp y) := by
    obtain ⟨a0, a1, b0, b1, c0, c1⟩ := y
    obtain ⟨h0, h1, h2, h3, h4, h5⟩ := hs
    simp only at h0 h1 h2 h3 h4 h5
    simp only [SmlE, cmp]
    omega
  have TA := Lib.hid (fun (B : Nat) (W : World) (h : BlkI W B 36 (e3L (cmp y))) => allWithin_ok _ (e3P (cmp y)) 1048576 W (by simp [e3P]) (Pairs.e3 h) (by omega) (e3P_sml hcs))
  have TK := Lib.hid (fun W hT => components_any ((cmp y).1, (cmp y).2.1, (cmp y).2.2.2.2.1, (cmp y).2.2.2.2.2, (cmp y).2.2.1, (cmp y).2.2.2.1) W hT (by obtain ⟨h0, h1, h2, h3, h4, h5⟩ := hcs; unfold SmlE; simp only; omega))
  rw [cmp_back y] at TK
  have TD := Lib.hid (fun (B : Nat) (W : World) hi => divided_ok B y W hs hi)
  obtain ⟨X, hX⟩ : ∃ X, X = cmp y := ⟨_, rfl⟩
  rw [← hX] at TK TA ⊢
  clear hX hs hcs
  obtain ⟨z0, z1, p0, p1, n0, n1⟩ := X
  simp only at TK
  obtain ⟨Y, hY⟩ : ∃ Y, Y = thrE y := ⟨_, rfl⟩
  rw [← hY] at TK TD
  clear hY
  obtain ⟨y0, y1, y2, y3, y4, y5⟩ := y
  obtain ⟨x0, x1, x2, x3, x4, x5⟩ := Y
  show Calls _ _ #[.agg #[.int .i64 z0, .int .i64 z1, .int .i64 p0, .int .i64 p1, .int .i64 n0, .int .i64 n1]] _ _
  go_enter Tryd.func13, Tryd.ntmps13
  go_upto_region 1 with fail
  obtain ⟨W1, hW1⟩ : ∃ v, v = World.alloc w (Obj.cells #[.int .i64 z0, .int .i64 z1, .int .i64 p0, .int .i64 p1, .int .i64 n0, .int .i64 n1] 36) := ⟨_, rfl⟩
  have kW1 : Below w.heap.size w W1 := by rw [hW1]; exact below_new _ _
  have iW1 : Blk W1 (w.heap.size) 36 [.int .i64 z0, .int .i64 z1, .int .i64 p0, .int .i64 p1, .int .i64 n0, .int .i64 n1] := by rw [hW1]; exact Blk.new _ _ _
  have sW1 : W1.heap.size = w.heap.size + 1 := by rw [hW1]; simp
  rw [← hW1]
  clear hW1
  obtain ⟨W2, hW2⟩ : ∃ v, v = World.alloc W1 (Obj.cells #[.int .i64 0, .int .i64 0, .int .i64 0, .int .i64 0, .int .i64 0, .int .i64 0] 37) := ⟨_, rfl⟩
  have kW2 : Below W1.heap.size W1 W2 := by rw [hW2]; exact below_new _ _
  have iW2 : Blk W2 (w.heap.size + 1) 37 [.int .i64 0, .int .i64 0, .int .i64 0, .int .i64 0, .int .i64 0, .int .i64 0] := by rw [hW2, ← sW1]; exact Blk.new _ _ _
  have sW2 : W2.heap.size = w.heap.size + 1 + 1 := by rw [hW2]; simp [sW1]
  rw [← hW2]
  clear hW2
  have i1 : BlkI W2 w.heap.size 36 (e3L (z0, z1, p0, p1, n0, n1)) := iW1.carry kW2
  have i2 : BlkI W2 (w.heap.size + 1) 37 [0, 0, 0, 0, 0, 0] := iW2
  have hB : Below w.heap.size w W2 := bthen kW1 kW2
  replace hT := hT.carry hB
  clear iW1 kW1 sW1 iW2 kW2 sW2
  go_wp2_with fail
  refine (TA.out w.heap.size W2 i1).mono ?_
  rintro e w3 ⟨rfl, hb3⟩
  replace i1 := Blk.carry i1 hb3
  replace i2 := Blk.carry i2 hb3
  replace hT := hT.carry hb3
  replace hB := bthen hB hb3
  have d0 : w3.cell? ⟨w.heap.size, 0, none⟩ = some (.int .i64 z0) := Blk.cell i1 (j := 0) rfl
  have d1 : w3.cell? ⟨w.heap.size, 1, none⟩ = some (.int .i64 z1) := Blk.cell i1 (j := 1) rfl
  have d2 : w3.cell? ⟨w.heap.size, 2, none⟩ = some (.int .i64 p0) := Blk.cell i1 (j := 2) rfl
  have d3 : w3.cell? ⟨w.heap.size, 3, none⟩ = some (.int .i64 p1) := Blk.cell i1 (j := 3) rfl
  have d4 : w3.cell? ⟨w.heap.size, 4, none⟩ = some (.int .i64 n0) := Blk.cell i1 (j := 4) rfl
  have d5 : w3.cell? ⟨w.heap.size, 5, none⟩ = some (.int .i64 n1) := Blk.cell i1 (j := 5) rfl
  have hG : w.heap.size + 1 < w3.heap.size := Blk.lt i2
  obtain ⟨G, hGe⟩ : ∃ G, G = w.heap.size := ⟨_, rfl⟩
  have HGE := Lib.hid hGe
  clear i1 hb3 hGe
  go_upto_region 4 with fail
  go_cut [5, 6, 7] from 14 to 23 (fun u5 u6 u7 wn => ∃ b5 b6 b7 : Nat, u5 = .pointer (some ⟨b5, 0, none⟩) ∧ u6 = .pointer (some ⟨b6, 0, none⟩) ∧ u7 = .pointer (some ⟨b7, 0, none⟩) ∧ BlkI wn b5 33 [z0, z1] ∧ BlkI wn b6 33 [p0, p1] ∧ BlkI wn b7 33 [n0, n1] ∧ Below w3.heap.size w3 wn)
  case first =>
    refine wp_region_held_drew (S := (fun W => W.cell? ⟨w.heap.size, 0, none⟩ = some (.int .i64 z0) ∧ W.cell? ⟨w.heap.size, 1, none⟩ = some (.int .i64 z1) ∧ W.cell? ⟨w.heap.size, 2, none⟩ = some (.int .i64 p0) ∧ W.cell? ⟨w.heap.size, 3, none⟩ = some (.int .i64 p1) ∧ W.cell? ⟨w.heap.size, 4, none⟩ = some (.int .i64 n0) ∧ W.cell? ⟨w.heap.size, 5, none⟩ = some (.int .i64 n1))) (by kernel_rfl) ⟨cellb d0 (Below.refl _ _).drew, cellb d1 (Below.refl _ _).drew, cellb d2 (Below.refl _ _).drew, cellb d3 (Below.refl _ _).drew, cellb d4 (Below.refl _ _).drew, cellb d5 (Below.refl _ _).drew⟩ (fun hHeld0 => ?_)
    obtain ⟨wzd, hwz⟩ : ∃ v, v = w3.drew := ⟨_, rfl⟩
    rw [← hwz] at hHeld0 ⊢
    have hbzd : Below w3.heap.size w3 wzd := by rw [hwz]; exact (Below.refl _ _).drew
    have hlzd : Below w3.heap.size w3 wzd := by rw [hwz]; exact (Below.refl _ _).drew
    clear hwz hlzd
    refine wpAnyH_take (i := 0) (oi := { dst := some 17, op := Op.indexAddr 36 (Operand.tmp 1) (Operand.const (Value.int IntKind.i64 0)), type := 0, pos := "phasor.go:234", after := #[], guard := none }) (v := ?_) rfl (by kernel_rfl) (by kernel_rfl) (by kernel_rfl) (fun _ _ _ h => h) (Or.inl ⟨by rfl, ?_⟩) (by assumption) ?_
    rotate_left
    · (intro w hSw; (try dsimp only at hSw); go_simp); (try with_reducible rfl)
    try simp only [Act.put, List.setIfInBounds_toArray, List.set_cons_zero, List.set_cons_succ]
    refine wpAnyH_take (i := 1) (oi := { dst := some 18, op := Op.load 33 (Operand.tmp 17), type := 33, pos := "phasor.go:234", after := #[{ on := 0, ground := Ground.data }], guard := none }) (v := ?_) rfl (by kernel_rfl) (by kernel_rfl) (by kernel_rfl) (fun _ _ _ h => h) (Or.inl ⟨by rfl, ?_⟩) (by assumption) ?_
    rotate_left
    · (intro w hSw; (try dsimp only at hSw); go_simp); (try with_reducible rfl)
    try simp only [Act.put, List.setIfInBounds_toArray, List.set_cons_zero, List.set_cons_succ]
    refine wpAnyH_take (i := 2) (oi := { dst := some 19, op := Op.indexAddr 36 (Operand.tmp 1) (Operand.const (Value.int IntKind.i64 1)), type := 0, pos := "phasor.go:234", after := #[{ on := 9, ground := Ground.gcOnly Departure.lateStores }], guard := none }) (v := ?_) rfl (by kernel_rfl) (by kernel_rfl) (by kernel_rfl) (fun _ _ _ h => h) (Or.inl ⟨by rfl, ?_⟩) (by assumption) ?_
    rotate_left
    · (intro w hSw; (try dsimp only at hSw); go_simp); (try with_reducible rfl)
    try simp only [Act.put, List.setIfInBounds_toArray, List.set_cons_zero, List.set_cons_succ]
    refine wpAnyH_take (i := 3) (oi := { dst := some 20, op := Op.load 33 (Operand.tmp 19), type := 33, pos := "phasor.go:234", after := #[{ on := 2, ground := Ground.data }, { on := 9, ground := Ground.gcOnly Departure.lateStores }], guard := none }) (v := ?_) rfl (by kernel_rfl) (by kernel_rfl) (by kernel_rfl) (fun _ _ _ h => h) (Or.inl ⟨by rfl, ?_⟩) (by assumption) ?_
    rotate_left
    · (intro w hSw; (try dsimp only at hSw); go_simp); (try with_reducible rfl)
    try simp only [Act.put, List.setIfInBounds_toArray, List.set_cons_zero, List.set_cons_succ]
    refine wpAnyH_take (i := 4) (oi := { dst := some 21, op := Op.indexAddr 36 (Operand.tmp 1) (Operand.const (Value.int IntKind.i64 2)), type := 0, pos := "phasor.go:234", after := #[{ on := 10, ground := Ground.gcOnly Departure.lateStores }], guard := none }) (v := ?_) rfl (by kernel_rfl) (by kernel_rfl) (by kernel_rfl) (fun _ _ _ h => h) (Or.inl ⟨by rfl, ?_⟩) (by assumption) ?_
    rotate_left
    · (intro w hSw; (try dsimp only at hSw); go_simp); (try with_reducible rfl)
    try simp only [Act.put, List.setIfInBounds_toArray, List.set_cons_zero, List.set_cons_succ]
    refine wpAnyH_take (i := 5) (oi := { dst := some 22, op := Op.load 33 (Operand.tmp 21), type := 33, pos := "phasor.go:234", after := #[{ on := 4, ground := Ground.data }, { on := 10, ground := Ground.gcOnly Departure.lateStores }], guard := none }) (v := ?_) rfl (by kernel_rfl) (by kernel_rfl) (by kernel_rfl) (fun _ _ _ h => h) (Or.inl ⟨by rfl, ?_⟩) (by assumption) ?_
    rotate_left
    · (intro w hSw; (try dsimp only at hSw); go_simp); (try with_reducible rfl)
    try simp only [Act.put, List.setIfInBounds_toArray, List.set_cons_zero, List.set_cons_succ]
    refine wpAnyH_ready (rs := [6, 7, 8]) (by kernel_rfl) (by simp) ?_
    refine (AllReadyH.cons (o := { dst := some 5, op := Op.alloc 33, type := 0, pos := "phasor.go:234", after := #[], guard := none }) rfl (fun K hK => ?_) (AllReadyH.cons (o := { dst := some 6, op := Op.alloc 33, type := 0, pos := "phasor.go:234", after := #[], guard := none }) rfl (fun K hK => ?_) (AllReadyH.cons (o := { dst := some 7, op := Op.alloc 33, type := 0, pos := "phasor.go:234", after := #[], guard := none }) rfl (fun K hK => ?_) AllReadyH.nil)))
    · go_simp
      obtain ⟨wz6, hwz⟩ : ∃ v, v = wzd.alloc (Obj.cells #[.int .i64 0, .int .i64 0] 33) := ⟨_, rfl⟩
      rw [← hwz]
      have hl : Below wzd.heap.size wzd wz6 := by rw [hwz]; exact below_new _ _
      have hbz6 := bthen hbzd hl
      obtain ⟨G6, hG⟩ : ∃ G, G = wzd.heap.size := ⟨_, rfl⟩
      have i6_ : BlkI wz6 G6 33 [0, 0] := by rw [hwz, hG]; exact Blk.new _ _ _
      have g6 : w3.heap.size ≤ G6 := by rw [hG]; exact (hbzd).size
      try (have q76 : G7 < G6 := by rw [hG]; exact Blk.lt i7_)
      try (have q86 : G8 < G6 := by rw [hG]; exact Blk.lt i8_)
      rw [← hG]
      clear hG
      clear hwz
      clear hl
      refine hK.out _ _ ⟨cellb d0 hbz6, cellb d1 hbz6, cellb d2 hbz6, cellb d3 hbz6, cellb d4 hbz6, cellb d5 hbz6⟩ (fun hHeld1 => ?_)
      clear hK K hHeld0
      try simp only [Act.put, List.setIfInBounds_toArray, List.set_cons_zero, List.set_cons_succ]
      refine wpAnyH_ready (rs := [7, 8]) (by kernel_rfl) (by simp) ?_
      refine (AllReadyH.cons (o := { dst := some 6, op := Op.alloc 33, type := 0, pos := "phasor.go:234", after := #[], guard := none }) rfl (fun K hK => ?_) (AllReadyH.cons (o := { dst := some 7, op := Op.alloc 33, type := 0, pos := "phasor.go:234", after := #[], guard := none }) rfl (fun K hK => ?_) AllReadyH.nil))
      · go_simp
        obtain ⟨wz7, hwz⟩ : ∃ v, v = wz6.alloc (Obj.cells #[.int .i64 0, .int .i64 0] 33) := ⟨_, rfl⟩
        rw [← hwz]
        have hl : Below wz6.heap.size wz6 wz7 := by rw [hwz]; exact below_new _ _
        have hbz7 := bthen hbz6 hl
        obtain ⟨G7, hG⟩ : ∃ G, G = wz6.heap.size := ⟨_, rfl⟩
        have i7_ : BlkI wz7 G7 33 [0, 0] := by rw [hwz, hG]; exact Blk.new _ _ _
        have g7 : w3.heap.size ≤ G7 := by rw [hG]; exact (hbz6).size
        try (have q67 : G6 < G7 := by rw [hG]; exact Blk.lt i6_)
        try (have q87 : G8 < G7 := by rw [hG]; exact Blk.lt i8_)
        rw [← hG]
        clear hG
        clear hwz
        have i6_ := i6_.carry hl
        clear hl
        refine hK.out _ _ ⟨cellb d0 hbz7, cellb d1 hbz7, cellb d2 hbz7, cellb d3 hbz7, cellb d4 hbz7, cellb d5 hbz7⟩ (fun hHeld2 => ?_)
        clear hK K hHeld1
        try simp only [Act.put, List.setIfInBounds_toArray, List.set_cons_zero, List.set_cons_succ]
        refine wpAnyH_ready (rs := [8]) (by kernel_rfl) (by simp) ?_
        refine (AllReadyH.cons (o := { dst := some 7, op := Op.alloc 33, type := 0, pos := "phasor.go:234", after := #[], guard := none }) rfl (fun K hK => ?_) AllReadyH.nil)
        go_simp
        obtain ⟨wz8, hwz⟩ : ∃ v, v = wz7.alloc (Obj.cells #[.int .i64 0, .int .i64 0] 33) := ⟨_, rfl⟩
        rw [← hwz]
        have hl : Below wz7.heap.size wz7 wz8 := by rw [hwz]; exact below_new _ _
        have hbz8 := bthen hbz7 hl
        obtain ⟨G8, hG⟩ : ∃ G, G = wz7.heap.size := ⟨_, rfl⟩
        have i8_ : BlkI wz8 G8 33 [0, 0] := by rw [hwz, hG]; exact Blk.new _ _ _
        have g8 : w3.heap.size ≤ G8 := by rw [hG]; exact (hbz7).size
        try (have q68 : G6 < G8 := by rw [hG]; exact Blk.lt i6_)
        try (have q78 : G7 < G8 := by rw [hG]; exact Blk.lt i7_)
        rw [← hG]
        clear hG
        clear hwz
        have i6_ := i6_.carry hl
        have i7_ := i7_.carry hl
        clear hl
        refine hK.out _ _ ⟨cellb d0 hbz8, cellb d1 hbz8, cellb d2 hbz8, cellb d3 hbz8, cellb d4 hbz8, cellb d5 hbz8⟩ (fun hHeld3 => ?_)
        clear hK K hHeld2
        try simp only [Act.put, List.setIfInBounds_toArray, List.set_cons_zero, List.set_cons_succ]
        refine wpAnyH_ready (rs := [9]) (by kernel_rfl) (by simp) ?_
        refine (AllReadyH.cons (o := { dst := none, op := Op.store 33 (Operand.tmp 5) (Operand.tmp 18), type := 0, pos := "phasor.go:234", after := #[{ on := 6, ground := Ground.data }, { on := 1, ground := Ground.data }, { on := 0, ground := Ground.phase }, { on := 1, ground := Ground.phase }, { on := 2, ground := Ground.textOnly Departure.lateStores }, { on := 3, ground := Ground.textOnly Departure.lateStores }, { on := 4, ground := Ground.textOnly Departure.lateStores }, { on := 5, ground := Ground.textOnly Departure.lateStores }, { on := 6, ground := Ground.phase }, { on := 7, ground := Ground.phase }, { on := 8, ground := Ground.phase }], guard := none }) rfl (fun K hK => ?_) AllReadyH.nil)
        refine wp_storeA _ _ _ rfl G6 [z0, z1] [0, 0] rfl rfl i6_ rfl Tryd.sizeApiE ?_
        obtain ⟨wz9, hwz⟩ : ∃ v, v = World.setRow wz8 G6 (ia [z0, z1]) := ⟨_, rfl⟩
        rw [← hwz]
        have hbz9 : Below w3.heap.size w3 wz9 := by rw [hwz]; exact below_rowA hbz8 g6 _
        replace i6_ := BlkI.setRowA i6_ [z0, z1]
        rw [← hwz] at i6_
        replace i7_ := BlkI.setRowO i7_ (B' := G6) (by omega) (ia [z0, z1])
        rw [← hwz] at i7_
        replace i8_ := BlkI.setRowO i8_ (B' := G6) (by omega) (ia [z0, z1])
        rw [← hwz] at i8_
        clear hwz
        refine hK.out _ _ ⟨cellb d0 hbz9, cellb d1 hbz9, cellb d2 hbz9, cellb d3 hbz9, cellb d4 hbz9, cellb d5 hbz9⟩ (fun hHeld4 => ?_)
        clear hK K hHeld3
        try simp only [Act.put, List.setIfInBounds_toArray, List.set_cons_zero, List.set_cons_succ]
        refine wpAnyH_ready (rs := [10]) (by kernel_rfl) (by simp) ?_
        refine (AllReadyH.cons (o := { dst := none, op := Op.store 33 (Operand.tmp 6) (Operand.tmp 20), type := 0, pos := "phasor.go:234", after := #[{ on := 7, ground := Ground.data }, { on := 3, ground := Ground.data }, { on := 9, ground := Ground.chain }, { on := 0, ground := Ground.phase }, { on := 1, ground := Ground.phase }, { on := 2, ground := Ground.phase }, { on := 3, ground := Ground.phase }, { on := 4, ground := Ground.textOnly Departure.lateStores }, { on := 5, ground := Ground.textOnly Departure.lateStores }, { on := 6, ground := Ground.phase }, { on := 7, ground := Ground.phase }, { on := 8, ground := Ground.phase }, { on := 9, ground := Ground.phase }], guard := none }) rfl (fun K hK => ?_) AllReadyH.nil)
        refine wp_storeA _ _ _ rfl G7 [p0, p1] [0, 0] rfl rfl i7_ rfl Tryd.sizeApiE ?_
        obtain ⟨wz10, hwz⟩ : ∃ v, v = World.setRow wz9 G7 (ia [p0, p1]) := ⟨_, rfl⟩
        rw [← hwz]
        have hbz10 : Below w3.heap.size w3 wz10 := by rw [hwz]; exact below_rowA hbz9 g7 _
        replace i7_ := BlkI.setRowA i7_ [p0, p1]
        rw [← hwz] at i7_
        replace i6_ := BlkI.setRowO i6_ (B' := G7) (by omega) (ia [p0, p1])
        rw [← hwz] at i6_
        replace i8_ := BlkI.setRowO i8_ (B' := G7) (by omega) (ia [p0, p1])
        rw [← hwz] at i8_
        clear hwz
        refine hK.out _ _ ⟨cellb d0 hbz10, cellb d1 hbz10, cellb d2 hbz10, cellb d3 hbz10, cellb d4 hbz10, cellb d5 hbz10⟩ (fun hHeld5 => ?_)
        clear hK K hHeld4
        try simp only [Act.put, List.setIfInBounds_toArray, List.set_cons_zero, List.set_cons_succ]
        refine wpAnyH_ready (rs := [11]) (by kernel_rfl) (by simp) ?_
        refine (AllReadyH.cons (o := { dst := none, op := Op.store 33 (Operand.tmp 7) (Operand.tmp 22), type := 0, pos := "phasor.go:234", after := #[{ on := 8, ground := Ground.data }, { on := 5, ground := Ground.data }, { on := 10, ground := Ground.chain }, { on := 0, ground := Ground.phase }, { on := 1, ground := Ground.phase }, { on := 2, ground := Ground.phase }, { on := 3, ground := Ground.phase }, { on := 4, ground := Ground.phase }, { on := 5, ground := Ground.phase }, { on := 6, ground := Ground.phase }, { on := 7, ground := Ground.phase }, { on := 8, ground := Ground.phase }, { on := 9, ground := Ground.phase }, { on := 10, ground := Ground.phase }], guard := none }) rfl (fun K hK => ?_) AllReadyH.nil)
        refine wp_storeA _ _ _ rfl G8 [n0, n1] [0, 0] rfl rfl i8_ rfl Tryd.sizeApiE ?_
        obtain ⟨wz11, hwz⟩ : ∃ v, v = World.setRow wz10 G8 (ia [n0, n1]) := ⟨_, rfl⟩
        rw [← hwz]
        have hbz11 : Below w3.heap.size w3 wz11 := by rw [hwz]; exact below_rowA hbz10 g8 _
        replace i8_ := BlkI.setRowA i8_ [n0, n1]
        rw [← hwz] at i8_
        replace i6_ := BlkI.setRowO i6_ (B' := G8) (by omega) (ia [n0, n1])
        rw [← hwz] at i6_
        replace i7_ := BlkI.setRowO i7_ (B' := G8) (by omega) (ia [n0, n1])
        rw [← hwz] at i7_
        clear hwz
        refine hK.out _ _ ⟨cellb d0 hbz11, cellb d1 hbz11, cellb d2 hbz11, cellb d3 hbz11, cellb d4 hbz11, cellb d5 hbz11⟩ (fun hHeld6 => ?_)
        clear hK K hHeld5
        try simp only [Act.put, List.setIfInBounds_toArray, List.set_cons_zero, List.set_cons_succ]
        refine wpAnyH_done (by kernel_rfl) ?_ _
        clear hHeld6
        go_wp2_with fail
        go_meet
        exact ⟨G6, G7, G8, rfl, rfl, rfl, i6_, i7_, i8_, hbz11⟩
      · go_simp
        obtain ⟨wz8, hwz⟩ : ∃ v, v = wz6.alloc (Obj.cells #[.int .i64 0, .int .i64 0] 33) := ⟨_, rfl⟩
        rw [← hwz]
        have hl : Below wz6.heap.size wz6 wz8 := by rw [hwz]; exact below_new _ _
        have hbz8 := bthen hbz6 hl
        obtain ⟨G8, hG⟩ : ∃ G, G = wz6.heap.size := ⟨_, rfl⟩
        have i8_ : BlkI wz8 G8 33 [0, 0] := by rw [hwz, hG]; exact Blk.new _ _ _
        have g8 : w3.heap.size ≤ G8 := by rw [hG]; exact (hbz6).size
        try (have q68 : G6 < G8 := by rw [hG]; exact Blk.lt i6_)
        try (have q78 : G7 < G8 := by rw [hG]; exact Blk.lt i7_)
        rw [← hG]
        clear hG
        clear hwz
        have i6_ := i6_.carry hl
        clear hl
        refine hK.out _ _ ⟨cellb d0 hbz8, cellb d1 hbz8, cellb d2 hbz8, cellb d3 hbz8, cellb d4 hbz8, cellb d5 hbz8⟩ (fun hHeld2 => ?_)
        clear hK K hHeld1
        try simp only [Act.put, List.setIfInBounds_toArray, List.set_cons_zero, List.set_cons_succ]
        refine wpAnyH_ready (rs := [7]) (by kernel_rfl) (by simp) ?_
        refine (AllReadyH.cons (o := { dst := some 6, op := Op.alloc 33, type := 0, pos := "phasor.go:234", after := #[], guard := none }) rfl (fun K hK => ?_) AllReadyH.nil)
        go_simp
        obtain ⟨wz7, hwz⟩ : ∃ v, v = wz8.alloc (Obj.cells #[.int .i64 0, .int .i64 0] 33) := ⟨_, rfl⟩
        rw [← hwz]
        have hl : Below wz8.heap.size wz8 wz7 := by rw [hwz]; exact below_new _ _
        have hbz7 := bthen hbz8 hl
        obtain ⟨G7, hG⟩ : ∃ G, G = wz8.heap.size := ⟨_, rfl⟩
        have i7_ : BlkI wz7 G7 33 [0, 0] := by rw [hwz, hG]; exact Blk.new _ _ _
        have g7 : w3.heap.size ≤ G7 := by rw [hG]; exact (hbz8).size
        try (have q67 : G6 < G7 := by rw [hG]; exact Blk.lt i6_)
        try (have q87 : G8 < G7 := by rw [hG]; exact Blk.lt i8_)
        rw [← hG]
        clear hG
        clear hwz
        have i6_ := i6_.carry hl
        have i8_ := i8_.carry hl
        clear hl
        refine hK.out _ _ ⟨cellb d0 hbz7, cellb d1 hbz7, cellb d2 hbz7, cellb d3 hbz7, cellb d4 hbz7, cellb d5 hbz7⟩ (fun hHeld3 => ?_)
        clear hK K hHeld2
        try simp only [Act.put, List.setIfInBounds_toArray, List.set_cons_zero, List.set_cons_succ]
        refine wpAnyH_ready (rs := [9]) (by kernel_rfl) (by simp) ?_
        refine (AllReadyH.cons (o := { dst := none, op := Op.store 33 (Operand.tmp 5) (Operand.tmp 18), type := 0, pos := "phasor.go:234", after := #[{ on := 6, ground := Ground.data }, { on := 1, ground := Ground.data }, { on := 0, ground := Ground.phase }, { on := 1, ground := Ground.phase }, { on := 2, ground := Ground.textOnly Departure.lateStores }, { on := 3, ground := Ground.textOnly Departure.lateStores }, { on := 4, ground := Ground.textOnly Departure.lateStores }, { on := 5, ground := Ground.textOnly Departure.lateStores }, { on := 6, ground := Ground.phase }, { on := 7, ground := Ground.phase }, { on := 8, ground := Ground.phase }], guard := none }) rfl (fun K hK => ?_) AllReadyH.nil)
        refine wp_storeA _ _ _ rfl G6 [z0, z1] [0, 0] rfl rfl i6_ rfl Tryd.sizeApiE ?_
        obtain ⟨wz9, hwz⟩ : ∃ v, v = World.setRow wz7 G6 (ia [z0, z1]) := ⟨_, rfl⟩
        rw [← hwz]
        have hbz9 : Below w3.heap.size w3 wz9 := by rw [hwz]; exact below_rowA hbz7 g6 _
        replace i6_ := BlkI.setRowA i6_ [z0, z1]
        rw [← hwz] at i6_
        replace i7_ := BlkI.setRowO i7_ (B' := G6) (by omega) (ia [z0, z1])
        rw [← hwz] at i7_
        replace i8_ := BlkI.setRowO i8_ (B' := G6) (by omega) (ia [z0, z1])
        rw [← hwz] at i8_
        clear hwz
        refine hK.out _ _ ⟨cellb d0 hbz9, cellb d1 hbz9, cellb d2 hbz9, cellb d3 hbz9, cellb d4 hbz9, cellb d5 hbz9⟩ (fun hHeld4 => ?_)
        clear hK K hHeld3
        try simp only [Act.put, List.setIfInBounds_toArray, List.set_cons_zero, List.set_cons_succ]
        refine wpAnyH_ready (rs := [10]) (by kernel_rfl) (by simp) ?_
        refine (AllReadyH.cons (o := { dst := none, op := Op.store 33 (Operand.tmp 6) (Operand.tmp 20), type := 0, pos := "phasor.go:234", after := #[{ on := 7, ground := Ground.data }, { on := 3, ground := Ground.data }, { on := 9, ground := Ground.chain }, { on := 0, ground := Ground.phase }, { on := 1, ground := Ground.phase }, { on := 2, ground := Ground.phase }, { on := 3, ground := Ground.phase }, { on := 4, ground := Ground.textOnly Departure.lateStores }, { on := 5, ground := Ground.textOnly Departure.lateStores }, { on := 6, ground := Ground.phase }, { on := 7, ground := Ground.phase }, { on := 8, ground := Ground.phase }, { on := 9, ground := Ground.phase }], guard := none }) rfl (fun K hK => ?_) AllReadyH.nil)
        refine wp_storeA _ _ _ rfl G7 [p0, p1] [0, 0] rfl rfl i7_ rfl Tryd.sizeApiE ?_
        obtain ⟨wz10, hwz⟩ : ∃ v, v = World.setRow wz9 G7 (ia [p0, p1]) := ⟨_, rfl⟩
        rw [← hwz]
        have hbz10 : Below w3.heap.size w3 wz10 := by rw [hwz]; exact below_rowA hbz9 g7 _
        replace i7_ := BlkI.setRowA i7_ [p0, p1]
        rw [← hwz] at i7_
        replace i6_ := BlkI.setRowO i6_ (B' := G7) (by omega) (ia [p0, p1])
        rw [← hwz] at i6_
        replace i8_ := BlkI.setRowO i8_ (B' := G7) (by omega) (ia [p0, p1])
        rw [← hwz] at i8_
        clear hwz
        refine hK.out _ _ ⟨cellb d0 hbz10, cellb d1 hbz10, cellb d2 hbz10, cellb d3 hbz10, cellb d4 hbz10, cellb d5 hbz10⟩ (fun hHeld5 => ?_)
        clear hK K hHeld4
        try simp only [Act.put, List.setIfInBounds_toArray, List.set_cons_zero, List.set_cons_succ]
        refine wpAnyH_ready (rs := [11]) (by kernel_rfl) (by simp) ?_
        refine (AllReadyH.cons (o := { dst := none, op := Op.store 33 (Operand.tmp 7) (Operand.tmp 22), type := 0, pos := "phasor.go:234", after := #[{ on := 8, ground := Ground.data }, { on := 5, ground := Ground.data }, { on := 10, ground := Ground.chain }, { on := 0, ground := Ground.phase }, { on := 1, ground := Ground.phase }, { on := 2, ground := Ground.phase }, { on := 3, ground := Ground.phase }, { on := 4, ground := Ground.phase }, { on := 5, ground := Ground.phase }, { on := 6, ground := Ground.phase }, { on := 7, ground := Ground.phase }, { on := 8, ground := Ground.phase }, { on := 9, ground := Ground.phase }, { on := 10, ground := Ground.phase }], guard := none }) rfl (fun K hK => ?_) AllReadyH.nil)
        refine wp_storeA _ _ _ rfl G8 [n0, n1] [0, 0] rfl rfl i8_ rfl Tryd.sizeApiE ?_
        obtain ⟨wz11, hwz⟩ : ∃ v, v = World.setRow wz10 G8 (ia [n0, n1]) := ⟨_, rfl⟩
        rw [← hwz]
        have hbz11 : Below w3.heap.size w3 wz11 := by rw [hwz]; exact below_rowA hbz10 g8 _
        replace i8_ := BlkI.setRowA i8_ [n0, n1]
        rw [← hwz] at i8_
        replace i6_ := BlkI.setRowO i6_ (B' := G8) (by omega) (ia [n0, n1])
        rw [← hwz] at i6_
        replace i7_ := BlkI.setRowO i7_ (B' := G8) (by omega) (ia [n0, n1])
        rw [← hwz] at i7_
        clear hwz
        refine hK.out _ _ ⟨cellb d0 hbz11, cellb d1 hbz11, cellb d2 hbz11, cellb d3 hbz11, cellb d4 hbz11, cellb d5 hbz11⟩ (fun hHeld6 => ?_)
        clear hK K hHeld5
        try simp only [Act.put, List.setIfInBounds_toArray, List.set_cons_zero, List.set_cons_succ]
        refine wpAnyH_done (by kernel_rfl) ?_ _
        clear hHeld6
        go_wp2_with fail
        go_meet
        exact ⟨G6, G7, G8, rfl, rfl, rfl, i6_, i7_, i8_, hbz11⟩
    · go_simp
      obtain ⟨wz7, hwz⟩ : ∃ v, v = wzd.alloc (Obj.cells #[.int .i64 0, .int .i64 0] 33) := ⟨_, rfl⟩
      rw [← hwz]
      have hl : Below wzd.heap.size wzd wz7 := by rw [hwz]; exact below_new _ _
      have hbz7 := bthen hbzd hl
      obtain ⟨G7, hG⟩ : ∃ G, G = wzd.heap.size := ⟨_, rfl⟩
      have i7_ : BlkI wz7 G7 33 [0, 0] := by rw [hwz, hG]; exact Blk.new _ _ _
      have g7 : w3.heap.size ≤ G7 := by rw [hG]; exact (hbzd).size
      try (have q67 : G6 < G7 := by rw [hG]; exact Blk.lt i6_)
      try (have q87 : G8 < G7 := by rw [hG]; exact Blk.lt i8_)
      rw [← hG]
      clear hG
      clear hwz
      clear hl
      refine hK.out _ _ ⟨cellb d0 hbz7, cellb d1 hbz7, cellb d2 hbz7, cellb d3 hbz7, cellb d4 hbz7, cellb d5 hbz7⟩ (fun hHeld1 => ?_)
      clear hK K hHeld0
      try simp only [Act.put, List.setIfInBounds_toArray, List.set_cons_zero, List.set_cons_succ]
      refine wpAnyH_ready (rs := [6, 8]) (by kernel_rfl) (by simp) ?_
      refine (AllReadyH.cons (o := { dst := some 5, op := Op.alloc 33, type := 0, pos := "phasor.go:234", after := #[], guard := none }) rfl (fun K hK => ?_) (AllReadyH.cons (o := { dst := some 7, op := Op.alloc 33, type := 0, pos := "phasor.go:234", after := #[], guard := none }) rfl (fun K hK => ?_) AllReadyH.nil))
      · go_simp
        obtain ⟨wz6, hwz⟩ : ∃ v, v = wz7.alloc (Obj.cells #[.int .i64 0, .int .i64 0] 33) := ⟨_, rfl⟩
        rw [← hwz]
        have hl : Below wz7.heap.size wz7 wz6 := by rw [hwz]; exact below_new _ _
        have hbz6 := bthen hbz7 hl
        obtain ⟨G6, hG⟩ : ∃ G, G = wz7.heap.size := ⟨_, rfl⟩
        have i6_ : BlkI wz6 G6 33 [0, 0] := by rw [hwz, hG]; exact Blk.new _ _ _
        have g6 : w3.heap.size ≤ G6 := by rw [hG]; exact (hbz7).size
        try (have q76 : G7 < G6 := by rw [hG]; exact Blk.lt i7_)
        try (have q86 : G8 < G6 := by rw [hG]; exact Blk.lt i8_)
        rw [← hG]
        clear hG
        clear hwz
        have i7_ := i7_.carry hl
        clear hl
        refine hK.out _ _ ⟨cellb d0 hbz6, cellb d1 hbz6, cellb d2 hbz6, cellb d3 hbz6, cellb d4 hbz6, cellb d5 hbz6⟩ (fun hHeld2 => ?_)
        clear hK K hHeld1
        try simp only [Act.put, List.setIfInBounds_toArray, List.set_cons_zero, List.set_cons_succ]
        refine wpAnyH_ready (rs := [8]) (by kernel_rfl) (by simp) ?_
        refine (AllReadyH.cons (o := { dst := some 7, op := Op.alloc 33, type := 0, pos := "phasor.go:234", after := #[], guard := none }) rfl (fun K hK => ?_) AllReadyH.nil)
        go_simp
        obtain ⟨wz8, hwz⟩ : ∃ v, v = wz6.alloc (Obj.cells #[.int .i64 0, .int .i64 0] 33) := ⟨_, rfl⟩
        rw [← hwz]
        have hl : Below wz6.heap.size wz6 wz8 := by rw [hwz]; exact below_new _ _
        have hbz8 := bthen hbz6 hl
        obtain ⟨G8, hG⟩ : ∃ G, G = wz6.heap.size := ⟨_, rfl⟩
        have i8_ : BlkI wz8 G8 33 [0, 0] := by rw [hwz, hG]; exact Blk.new _ _ _
        have g8 : w3.heap.size ≤ G8 := by rw [hG]; exact (hbz6).size
        try (have q68 : G6 < G8 := by rw [hG]; exact Blk.lt i6_)
        try (have q78 : G7 < G8 := by rw [hG]; exact Blk.lt i7_)
        rw [← hG]
        clear hG
        clear hwz
        have i7_ := i7_.carry hl
        have i6_ := i6_.carry hl
        clear hl
        refine hK.out _ _ ⟨cellb d0 hbz8, cellb d1 hbz8, cellb d2 hbz8, cellb d3 hbz8, cellb d4 hbz8, cellb d5 hbz8⟩ (fun hHeld3 => ?_)
        clear hK K hHeld2
        try simp only [Act.put, List.setIfInBounds_toArray, List.set_cons_zero, List.set_cons_succ]
        refine wpAnyH_ready (rs := [9]) (by kernel_rfl) (by simp) ?_
        refine (AllReadyH.cons (o := { dst := none, op := Op.store 33 (Operand.tmp 5) (Operand.tmp 18), type := 0, pos := "phasor.go:234", after := #[{ on := 6, ground := Ground.data }, { on := 1, ground := Ground.data }, { on := 0, ground := Ground.phase }, { on := 1, ground := Ground.phase }, { on := 2, ground := Ground.textOnly Departure.lateStores }, { on := 3, ground := Ground.textOnly Departure.lateStores }, { on := 4, ground := Ground.textOnly Departure.lateStores }, { on := 5, ground := Ground.textOnly Departure.lateStores }, { on := 6, ground := Ground.phase }, { on := 7, ground := Ground.phase }, { on := 8, ground := Ground.phase }], guard := none }) rfl (fun K hK => ?_) AllReadyH.nil)
        refine wp_storeA _ _ _ rfl G6 [z0, z1] [0, 0] rfl rfl i6_ rfl Tryd.sizeApiE ?_
        obtain ⟨wz9, hwz⟩ : ∃ v, v = World.setRow wz8 G6 (ia [z0, z1]) := ⟨_, rfl⟩
        rw [← hwz]
        have hbz9 : Below w3.heap.size w3 wz9 := by rw [hwz]; exact below_rowA hbz8 g6 _
        replace i6_ := BlkI.setRowA i6_ [z0, z1]
        rw [← hwz] at i6_
        replace i7_ := BlkI.setRowO i7_ (B' := G6) (by omega) (ia [z0, z1])
        rw [← hwz] at i7_
        replace i8_ := BlkI.setRowO i8_ (B' := G6) (by omega) (ia [z0, z1])
        rw [← hwz] at i8_
        clear hwz
        refine hK.out _ _ ⟨cellb d0 hbz9, cellb d1 hbz9, cellb d2 hbz9, cellb d3 hbz9, cellb d4 hbz9, cellb d5 hbz9⟩ (fun hHeld4 => ?_)
        clear hK K hHeld3
        try simp only [Act.put, List.setIfInBounds_toArray, List.set_cons_zero, List.set_cons_succ]
        refine wpAnyH_ready (rs := [10]) (by kernel_rfl) (by simp) ?_
        refine (AllReadyH.cons (o := { dst := none, op := Op.store 33 (Operand.tmp 6) (Operand.tmp 20), type := 0, pos := "phasor.go:234", after := #[{ on := 7, ground := Ground.data }, { on := 3, ground := Ground.data }, { on := 9, ground := Ground.chain }, { on := 0, ground := Ground.phase }, { on := 1, ground := Ground.phase }, { on := 2, ground := Ground.phase }, { on := 3, ground := Ground.phase }, { on := 4, ground := Ground.textOnly Departure.lateStores }, { on := 5, ground := Ground.textOnly Departure.lateStores }, { on := 6, ground := Ground.phase }, { on := 7, ground := Ground.phase }, { on := 8, ground := Ground.phase }, { on := 9, ground := Ground.phase }], guard := none }) rfl (fun K hK => ?_) AllReadyH.nil)
        refine wp_storeA _ _ _ rfl G7 [p0, p1] [0, 0] rfl rfl i7_ rfl Tryd.sizeApiE ?_
        obtain ⟨wz10, hwz⟩ : ∃ v, v = World.setRow wz9 G7 (ia [p0, p1]) := ⟨_, rfl⟩
        rw [← hwz]
        have hbz10 : Below w3.heap.size w3 wz10 := by rw [hwz]; exact below_rowA hbz9 g7 _
        replace i7_ := BlkI.setRowA i7_ [p0, p1]
        rw [← hwz] at i7_
        replace i6_ := BlkI.setRowO i6_ (B' := G7) (by omega) (ia [p0, p1])
        rw [← hwz] at i6_
        replace i8_ := BlkI.setRowO i8_ (B' := G7) (by omega) (ia [p0, p1])
        rw [← hwz] at i8_
        clear hwz
        refine hK.out _ _ ⟨cellb d0 hbz10, cellb d1 hbz10, cellb d2 hbz10, cellb d3 hbz10, cellb d4 hbz10, cellb d5 hbz10⟩ (fun hHeld5 => ?_)
        clear hK K hHeld4
        try simp only [Act.put, List.setIfInBounds_toArray, List.set_cons_zero, List.set_cons_succ]
        refine wpAnyH_ready (rs := [11]) (by kernel_rfl) (by simp) ?_
        refine (AllReadyH.cons (o := { dst := none, op := Op.store 33 (Operand.tmp 7) (Operand.tmp 22), type := 0, pos := "phasor.go:234", after := #[{ on := 8, ground := Ground.data }, { on := 5, ground := Ground.data }, { on := 10, ground := Ground.chain }, { on := 0, ground := Ground.phase }, { on := 1, ground := Ground.phase }, { on := 2, ground := Ground.phase }, { on := 3, ground := Ground.phase }, { on := 4, ground := Ground.phase }, { on := 5, ground := Ground.phase }, { on := 6, ground := Ground.phase }, { on := 7, ground := Ground.phase }, { on := 8, ground := Ground.phase }, { on := 9, ground := Ground.phase }, { on := 10, ground := Ground.phase }], guard := none }) rfl (fun K hK => ?_) AllReadyH.nil)
        refine wp_storeA _ _ _ rfl G8 [n0, n1] [0, 0] rfl rfl i8_ rfl Tryd.sizeApiE ?_
        obtain ⟨wz11, hwz⟩ : ∃ v, v = World.setRow wz10 G8 (ia [n0, n1]) := ⟨_, rfl⟩
        rw [← hwz]
        have hbz11 : Below w3.heap.size w3 wz11 := by rw [hwz]; exact below_rowA hbz10 g8 _
        replace i8_ := BlkI.setRowA i8_ [n0, n1]
        rw [← hwz] at i8_
        replace i6_ := BlkI.setRowO i6_ (B' := G8) (by omega) (ia [n0, n1])
        rw [← hwz] at i6_
        replace i7_ := BlkI.setRowO i7_ (B' := G8) (by omega) (ia [n0, n1])
        rw [← hwz] at i7_
        clear hwz
        refine hK.out _ _ ⟨cellb d0 hbz11, cellb d1 hbz11, cellb d2 hbz11, cellb d3 hbz11, cellb d4 hbz11, cellb d5 hbz11⟩ (fun hHeld6 => ?_)
        clear hK K hHeld5
        try simp only [Act.put, List.setIfInBounds_toArray, List.set_cons_zero, List.set_cons_succ]
        refine wpAnyH_done (by kernel_rfl) ?_ _
        clear hHeld6
        go_wp2_with fail
        go_meet
        exact ⟨G6, G7, G8, rfl, rfl, rfl, i6_, i7_, i8_, hbz11⟩
      · go_simp
        obtain ⟨wz8, hwz⟩ : ∃ v, v = wz7.alloc (Obj.cells #[.int .i64 0, .int .i64 0] 33) := ⟨_, rfl⟩
        rw [← hwz]
        have hl : Below wz7.heap.size wz7 wz8 := by rw [hwz]; exact below_new _ _
        have hbz8 := bthen hbz7 hl
        obtain ⟨G8, hG⟩ : ∃ G, G = wz7.heap.size := ⟨_, rfl⟩
        have i8_ : BlkI wz8 G8 33 [0, 0] := by rw [hwz, hG]; exact Blk.new _ _ _
        have g8 : w3.heap.size ≤ G8 := by rw [hG]; exact (hbz7).size
        try (have q68 : G6 < G8 := by rw [hG]; exact Blk.lt i6_)
        try (have q78 : G7 < G8 := by rw [hG]; exact Blk.lt i7_)
        rw [← hG]
        clear hG
        clear hwz
        have i7_ := i7_.carry hl
        clear hl
        refine hK.out _ _ ⟨cellb d0 hbz8, cellb d1 hbz8, cellb d2 hbz8, cellb d3 hbz8, cellb d4 hbz8, cellb d5 hbz8⟩ (fun hHeld2 => ?_)
        clear hK K hHeld1
        try simp only [Act.put, List.setIfInBounds_toArray, List.set_cons_zero, List.set_cons_succ]
        refine wpAnyH_ready (rs := [6]) (by kernel_rfl) (by simp) ?_
        refine (AllReadyH.cons (o := { dst := some 5, op := Op.alloc 33, type := 0, pos := "phasor.go:234", after := #[], guard := none }) rfl (fun K hK => ?_) AllReadyH.nil)
        go_simp
        obtain ⟨wz6, hwz⟩ : ∃ v, v = wz8.alloc (Obj.cells #[.int .i64 0, .int .i64 0] 33) := ⟨_, rfl⟩
        rw [← hwz]
        have hl : Below wz8.heap.size wz8 wz6 := by rw [hwz]; exact below_new _ _
        have hbz6 := bthen hbz8 hl
        obtain ⟨G6, hG⟩ : ∃ G, G = wz8.heap.size := ⟨_, rfl⟩
        have i6_ : BlkI wz6 G6 33 [0, 0] := by rw [hwz, hG]; exact Blk.new _ _ _
        have g6 : w3.heap.size ≤ G6 := by rw [hG]; exact (hbz8).size
        try (have q76 : G7 < G6 := by rw [hG]; exact Blk.lt i7_)
        try (have q86 : G8 < G6 := by rw [hG]; exact Blk.lt i8_)
        rw [← hG]
        clear hG
        clear hwz
        have i7_ := i7_.carry hl
        have i8_ := i8_.carry hl
        clear hl
        refine hK.out _ _ ⟨cellb d0 hbz6, cellb d1 hbz6, cellb d2 hbz6, cellb d3 hbz6, cellb d4 hbz6, cellb d5 hbz6⟩ (fun hHeld3 => ?_)
        clear hK K hHeld2
        try simp only [Act.put, List.setIfInBounds_toArray, List.set_cons_zero, List.set_cons_succ]
        refine wpAnyH_ready (rs := [9]) (by kernel_rfl) (by simp) ?_
        refine (AllReadyH.cons (o := { dst := none, op := Op.store 33 (Operand.tmp 5) (Operand.tmp 18), type := 0, pos := "phasor.go:234", after := #[{ on := 6, ground := Ground.data }, { on := 1, ground := Ground.data }, { on := 0, ground := Ground.phase }, { on := 1, ground := Ground.phase }, { on := 2, ground := Ground.textOnly Departure.lateStores }, { on := 3, ground := Ground.textOnly Departure.lateStores }, { on := 4, ground := Ground.textOnly Departure.lateStores }, { on := 5, ground := Ground.textOnly Departure.lateStores }, { on := 6, ground := Ground.phase }, { on := 7, ground := Ground.phase }, { on := 8, ground := Ground.phase }], guard := none }) rfl (fun K hK => ?_) AllReadyH.nil)
        refine wp_storeA _ _ _ rfl G6 [z0, z1] [0, 0] rfl rfl i6_ rfl Tryd.sizeApiE ?_
        obtain ⟨wz9, hwz⟩ : ∃ v, v = World.setRow wz6 G6 (ia [z0, z1]) := ⟨_, rfl⟩
        rw [← hwz]
        have hbz9 : Below w3.heap.size w3 wz9 := by rw [hwz]; exact below_rowA hbz6 g6 _
        replace i6_ := BlkI.setRowA i6_ [z0, z1]
        rw [← hwz] at i6_
        replace i7_ := BlkI.setRowO i7_ (B' := G6) (by omega) (ia [z0, z1])
        rw [← hwz] at i7_
        replace i8_ := BlkI.setRowO i8_ (B' := G6) (by omega) (ia [z0, z1])
        rw [← hwz] at i8_
        clear hwz
        refine hK.out _ _ ⟨cellb d0 hbz9, cellb d1 hbz9, cellb d2 hbz9, cellb d3 hbz9, cellb d4 hbz9, cellb d5 hbz9⟩ (fun hHeld4 => ?_)
        clear hK K hHeld3
        try simp only [Act.put, List.setIfInBounds_toArray, List.set_cons_zero, List.set_cons_succ]
        refine wpAnyH_ready (rs := [10]) (by kernel_rfl) (by simp) ?_
        refine (AllReadyH.cons (o := { dst := none, op := Op.store 33 (Operand.tmp 6) (Operand.tmp 20), type := 0, pos := "phasor.go:234", after := #[{ on := 7, ground := Ground.data }, { on := 3, ground := Ground.data }, { on := 9, ground := Ground.chain }, { on := 0, ground := Ground.phase }, { on := 1, ground := Ground.phase }, { on := 2, ground := Ground.phase }, { on := 3, ground := Ground.phase }, { on := 4, ground := Ground.textOnly Departure.lateStores }, { on := 5, ground := Ground.textOnly Departure.lateStores }, { on := 6, ground := Ground.phase }, { on := 7, ground := Ground.phase }, { on := 8, ground := Ground.phase }, { on := 9, ground := Ground.phase }], guard := none }) rfl (fun K hK => ?_) AllReadyH.nil)
        refine wp_storeA _ _ _ rfl G7 [p0, p1] [0, 0] rfl rfl i7_ rfl Tryd.sizeApiE ?_
        obtain ⟨wz10, hwz⟩ : ∃ v, v = World.setRow wz9 G7 (ia [p0, p1]) := ⟨_, rfl⟩
        rw [← hwz]
        have hbz10 : Below w3.heap.size w3 wz10 := by rw [hwz]; exact below_rowA hbz9 g7 _
        replace i7_ := BlkI.setRowA i7_ [p0, p1]
        rw [← hwz] at i7_
        replace i6_ := BlkI.setRowO i6_ (B' := G7) (by omega) (ia [p0, p1])
        rw [← hwz] at i6_
        replace i8_ := BlkI.setRowO i8_ (B' := G7) (by omega) (ia [p0, p1])
        rw [← hwz] at i8_
        clear hwz
        refine hK.out _ _ ⟨cellb d0 hbz10, cellb d1 hbz10, cellb d2 hbz10, cellb d3 hbz10, cellb d4 hbz10, cellb d5 hbz10⟩ (fun hHeld5 => ?_)
        clear hK K hHeld4
        try simp only [Act.put, List.setIfInBounds_toArray, List.set_cons_zero, List.set_cons_succ]
        refine wpAnyH_ready (rs := [11]) (by kernel_rfl) (by simp) ?_
        refine (AllReadyH.cons (o := { dst := none, op := Op.store 33 (Operand.tmp 7) (Operand.tmp 22), type := 0, pos := "phasor.go:234", after := #[{ on := 8, ground := Ground.data }, { on := 5, ground := Ground.data }, { on := 10, ground := Ground.chain }, { on := 0, ground := Ground.phase }, { on := 1, ground := Ground.phase }, { on := 2, ground := Ground.phase }, { on := 3, ground := Ground.phase }, { on := 4, ground := Ground.phase }, { on := 5, ground := Ground.phase }, { on := 6, ground := Ground.phase }, { on := 7, ground := Ground.phase }, { on := 8, ground := Ground.phase }, { on := 9, ground := Ground.phase }, { on := 10, ground := Ground.phase }], guard := none }) rfl (fun K hK => ?_) AllReadyH.nil)
        refine wp_storeA _ _ _ rfl G8 [n0, n1] [0, 0] rfl rfl i8_ rfl Tryd.sizeApiE ?_
        obtain ⟨wz11, hwz⟩ : ∃ v, v = World.setRow wz10 G8 (ia [n0, n1]) := ⟨_, rfl⟩
        rw [← hwz]
        have hbz11 : Below w3.heap.size w3 wz11 := by rw [hwz]; exact below_rowA hbz10 g8 _
        replace i8_ := BlkI.setRowA i8_ [n0, n1]
        rw [← hwz] at i8_
        replace i6_ := BlkI.setRowO i6_ (B' := G8) (by omega) (ia [n0, n1])
        rw [← hwz] at i6_
        replace i7_ := BlkI.setRowO i7_ (B' := G8) (by omega) (ia [n0, n1])
        rw [← hwz] at i7_
        clear hwz
        refine hK.out _ _ ⟨cellb d0 hbz11, cellb d1 hbz11, cellb d2 hbz11, cellb d3 hbz11, cellb d4 hbz11, cellb d5 hbz11⟩ (fun hHeld6 => ?_)
        clear hK K hHeld5
        try simp only [Act.put, List.setIfInBounds_toArray, List.set_cons_zero, List.set_cons_succ]
        refine wpAnyH_done (by kernel_rfl) ?_ _
        clear hHeld6
        go_wp2_with fail
        go_meet
        exact ⟨G6, G7, G8, rfl, rfl, rfl, i6_, i7_, i8_, hbz11⟩
    · go_simp
      obtain ⟨wz8, hwz⟩ : ∃ v, v = wzd.alloc (Obj.cells #[.int .i64 0, .int .i64 0] 33) := ⟨_, rfl⟩
      rw [← hwz]
      have hl : Below wzd.heap.size wzd wz8 := by rw [hwz]; exact below_new _ _
      have hbz8 := bthen hbzd hl
      obtain ⟨G8, hG⟩ : ∃ G, G = wzd.heap.size := ⟨_, rfl⟩
      have i8_ : BlkI wz8 G8 33 [0, 0] := by rw [hwz, hG]; exact Blk.new _ _ _
      have g8 : w3.heap.size ≤ G8 := by rw [hG]; exact (hbzd).size
      try (have q68 : G6 < G8 := by rw [hG]; exact Blk.lt i6_)
      try (have q78 : G7 < G8 := by rw [hG]; exact Blk.lt i7_)
      rw [← hG]
      clear hG
      clear hwz
      clear hl
      refine hK.out _ _ ⟨cellb d0 hbz8, cellb d1 hbz8, cellb d2 hbz8, cellb d3 hbz8, cellb d4 hbz8, cellb d5 hbz8⟩ (fun hHeld1 => ?_)
      clear hK K hHeld0
      try simp only [Act.put, List.setIfInBounds_toArray, List.set_cons_zero, List.set_cons_succ]
      refine wpAnyH_ready (rs := [6, 7]) (by kernel_rfl) (by simp) ?_
      refine (AllReadyH.cons (o := { dst := some 5, op := Op.alloc 33, type := 0, pos := "phasor.go:234", after := #[], guard := none }) rfl (fun K hK => ?_) (AllReadyH.cons (o := { dst := some 6, op := Op.alloc 33, type := 0, pos := "phasor.go:234", after := #[], guard := none }) rfl (fun K hK => ?_) AllReadyH.nil))
      · go_simp
        obtain ⟨wz6, hwz⟩ : ∃ v, v = wz8.alloc (Obj.cells #[.int .i64 0, .int .i64 0] 33) := ⟨_, rfl⟩
        rw [← hwz]
        have hl : Below wz8.heap.size wz8 wz6 := by rw [hwz]; exact below_new _ _
        have hbz6 := bthen hbz8 hl
        obtain ⟨G6, hG⟩ : ∃ G, G = wz8.heap.size := ⟨_, rfl⟩
        have i6_ : BlkI wz6 G6 33 [0, 0] := by rw [hwz, hG]; exact Blk.new _ _ _
        have g6 : w3.heap.size ≤ G6 := by rw [hG]; exact (hbz8).size
        try (have q76 : G7 < G6 := by rw [hG]; exact Blk.lt i7_)
        try (have q86 : G8 < G6 := by rw [hG]; exact Blk.lt i8_)
        rw [← hG]
        clear hG
        clear hwz
        have i8_ := i8_.carry hl
        clear hl
        refine hK.out _ _ ⟨cellb d0 hbz6, cellb d1 hbz6, cellb d2 hbz6, cellb d3 hbz6, cellb d4 hbz6, cellb d5 hbz6⟩ (fun hHeld2 => ?_)
        clear hK K hHeld1
        try simp only [Act.put, List.setIfInBounds_toArray, List.set_cons_zero, List.set_cons_succ]
        refine wpAnyH_ready (rs := [7]) (by kernel_rfl) (by simp) ?_
        refine (AllReadyH.cons (o := { dst := some 6, op := Op.alloc 33, type := 0, pos := "phasor.go:234", after := #[], guard := none }) rfl (fun K hK => ?_) AllReadyH.nil)
        go_simp
        obtain ⟨wz7, hwz⟩ : ∃ v, v = wz6.alloc (Obj.cells #[.int .i64 0, .int .i64 0] 33) := ⟨_, rfl⟩
        rw [← hwz]
        have hl : Below wz6.heap.size wz6 wz7 := by rw [hwz]; exact below_new _ _
        have hbz7 := bthen hbz6 hl
        obtain ⟨G7, hG⟩ : ∃ G, G = wz6.heap.size := ⟨_, rfl⟩
        have i7_ : BlkI wz7 G7 33 [0, 0] := by rw [hwz, hG]; exact Blk.new _ _ _
        have g7 : w3.heap.size ≤ G7 := by rw [hG]; exact (hbz6).size
        try (have q67 : G6 < G7 := by rw [hG]; exact Blk.lt i6_)
        try (have q87 : G8 < G7 := by rw [hG]; exact Blk.lt i8_)
        rw [← hG]
        clear hG
        clear hwz
        have i8_ := i8_.carry hl
        have i6_ := i6_.carry hl
        clear hl
        refine hK.out _ _ ⟨cellb d0 hbz7, cellb d1 hbz7, cellb d2 hbz7, cellb d3 hbz7, cellb d4 hbz7, cellb d5 hbz7⟩ (fun hHeld3 => ?_)
        clear hK K hHeld2
        try simp only [Act.put, List.setIfInBounds_toArray, List.set_cons_zero, List.set_cons_succ]
        refine wpAnyH_ready (rs := [9]) (by kernel_rfl) (by simp) ?_
        refine (AllReadyH.cons (o := { dst := none, op := Op.store 33 (Operand.tmp 5) (Operand.tmp 18), type := 0, pos := "phasor.go:234", after := #[{ on := 6, ground := Ground.data }, { on := 1, ground := Ground.data }, { on := 0, ground := Ground.phase }, { on := 1, ground := Ground.phase }, { on := 2, ground := Ground.textOnly Departure.lateStores }, { on := 3, ground := Ground.textOnly Departure.lateStores }, { on := 4, ground := Ground.textOnly Departure.lateStores }, { on := 5, ground := Ground.textOnly Departure.lateStores }, { on := 6, ground := Ground.phase }, { on := 7, ground := Ground.phase }, { on := 8, ground := Ground.phase }], guard := none }) rfl (fun K hK => ?_) AllReadyH.nil)
        refine wp_storeA _ _ _ rfl G6 [z0, z1] [0, 0] rfl rfl i6_ rfl Tryd.sizeApiE ?_
        obtain ⟨wz9, hwz⟩ : ∃ v, v = World.setRow wz7 G6 (ia [z0, z1]) := ⟨_, rfl⟩
        rw [← hwz]
        have hbz9 : Below w3.heap.size w3 wz9 := by rw [hwz]; exact below_rowA hbz7 g6 _
        replace i6_ := BlkI.setRowA i6_ [z0, z1]
        rw [← hwz] at i6_
        replace i7_ := BlkI.setRowO i7_ (B' := G6) (by omega) (ia [z0, z1])
        rw [← hwz] at i7_
        replace i8_ := BlkI.setRowO i8_ (B' := G6) (by omega) (ia [z0, z1])
        rw [← hwz] at i8_
        clear hwz
        refine hK.out _ _ ⟨cellb d0 hbz9, cellb d1 hbz9, cellb d2 hbz9, cellb d3 hbz9, cellb d4 hbz9, cellb d5 hbz9⟩ (fun hHeld4 => ?_)
        clear hK K hHeld3
        try simp only [Act.put, List.setIfInBounds_toArray, List.set_cons_zero, List.set_cons_succ]
        refine wpAnyH_ready (rs := [10]) (by kernel_rfl) (by simp) ?_
        refine (AllReadyH.cons (o := { dst := none, op := Op.store 33 (Operand.tmp 6) (Operand.tmp 20), type := 0, pos := "phasor.go:234", after := #[{ on := 7, ground := Ground.data }, { on := 3, ground := Ground.data }, { on := 9, ground := Ground.chain }, { on := 0, ground := Ground.phase }, { on := 1, ground := Ground.phase }, { on := 2, ground := Ground.phase }, { on := 3, ground := Ground.phase }, { on := 4, ground := Ground.textOnly Departure.lateStores }, { on := 5, ground := Ground.textOnly Departure.lateStores }, { on := 6, ground := Ground.phase }, { on := 7, ground := Ground.phase }, { on := 8, ground := Ground.phase }, { on := 9, ground := Ground.phase }], guard := none }) rfl (fun K hK => ?_) AllReadyH.nil)
        refine wp_storeA _ _ _ rfl G7 [p0, p1] [0, 0] rfl rfl i7_ rfl Tryd.sizeApiE ?_
        obtain ⟨wz10, hwz⟩ : ∃ v, v = World.setRow wz9 G7 (ia [p0, p1]) := ⟨_, rfl⟩
        rw [← hwz]
        have hbz10 : Below w3.heap.size w3 wz10 := by rw [hwz]; exact below_rowA hbz9 g7 _
        replace i7_ := BlkI.setRowA i7_ [p0, p1]
        rw [← hwz] at i7_
        replace i6_ := BlkI.setRowO i6_ (B' := G7) (by omega) (ia [p0, p1])
        rw [← hwz] at i6_
        replace i8_ := BlkI.setRowO i8_ (B' := G7) (by omega) (ia [p0, p1])
        rw [← hwz] at i8_
        clear hwz
        refine hK.out _ _ ⟨cellb d0 hbz10, cellb d1 hbz10, cellb d2 hbz10, cellb d3 hbz10, cellb d4 hbz10, cellb d5 hbz10⟩ (fun hHeld5 => ?_)
        clear hK K hHeld4
        try simp only [Act.put, List.setIfInBounds_toArray, List.set_cons_zero, List.set_cons_succ]
        refine wpAnyH_ready (rs := [11]) (by kernel_rfl) (by simp) ?_
        refine (AllReadyH.cons (o := { dst := none, op := Op.store 33 (Operand.tmp 7) (Operand.tmp 22), type := 0, pos := "phasor.go:234", after := #[{ on := 8, ground := Ground.data }, { on := 5, ground := Ground.data }, { on := 10, ground := Ground.chain }, { on := 0, ground := Ground.phase }, { on := 1, ground := Ground.phase }, { on := 2, ground := Ground.phase }, { on := 3, ground := Ground.phase }, { on := 4, ground := Ground.phase }, { on := 5, ground := Ground.phase }, { on := 6, ground := Ground.phase }, { on := 7, ground := Ground.phase }, { on := 8, ground := Ground.phase }, { on := 9, ground := Ground.phase }, { on := 10, ground := Ground.phase }], guard := none }) rfl (fun K hK => ?_) AllReadyH.nil)
        refine wp_storeA _ _ _ rfl G8 [n0, n1] [0, 0] rfl rfl i8_ rfl Tryd.sizeApiE ?_
        obtain ⟨wz11, hwz⟩ : ∃ v, v = World.setRow wz10 G8 (ia [n0, n1]) := ⟨_, rfl⟩
        rw [← hwz]
        have hbz11 : Below w3.heap.size w3 wz11 := by rw [hwz]; exact below_rowA hbz10 g8 _
        replace i8_ := BlkI.setRowA i8_ [n0, n1]
        rw [← hwz] at i8_
        replace i6_ := BlkI.setRowO i6_ (B' := G8) (by omega) (ia [n0, n1])
        rw [← hwz] at i6_
        replace i7_ := BlkI.setRowO i7_ (B' := G8) (by omega) (ia [n0, n1])
        rw [← hwz] at i7_
        clear hwz
        refine hK.out _ _ ⟨cellb d0 hbz11, cellb d1 hbz11, cellb d2 hbz11, cellb d3 hbz11, cellb d4 hbz11, cellb d5 hbz11⟩ (fun hHeld6 => ?_)
        clear hK K hHeld5
        try simp only [Act.put, List.setIfInBounds_toArray, List.set_cons_zero, List.set_cons_succ]
        refine wpAnyH_done (by kernel_rfl) ?_ _
        clear hHeld6
        go_wp2_with fail
        go_meet
        exact ⟨G6, G7, G8, rfl, rfl, rfl, i6_, i7_, i8_, hbz11⟩
      · go_simp
        obtain ⟨wz7, hwz⟩ : ∃ v, v = wz8.alloc (Obj.cells #[.int .i64 0, .int .i64 0] 33) := ⟨_, rfl⟩
        rw [← hwz]
        have hl : Below wz8.heap.size wz8 wz7 := by rw [hwz]; exact below_new _ _
        have hbz7 := bthen hbz8 hl
        obtain ⟨G7, hG⟩ : ∃ G, G = wz8.heap.size := ⟨_, rfl⟩
        have i7_ : BlkI wz7 G7 33 [0, 0] := by rw [hwz, hG]; exact Blk.new _ _ _
        have g7 : w3.heap.size ≤ G7 := by rw [hG]; exact (hbz8).size
        try (have q67 : G6 < G7 := by rw [hG]; exact Blk.lt i6_)
        try (have q87 : G8 < G7 := by rw [hG]; exact Blk.lt i8_)
        rw [← hG]
        clear hG
        clear hwz
        have i8_ := i8_.carry hl
        clear hl
        refine hK.out _ _ ⟨cellb d0 hbz7, cellb d1 hbz7, cellb d2 hbz7, cellb d3 hbz7, cellb d4 hbz7, cellb d5 hbz7⟩ (fun hHeld2 => ?_)
        clear hK K hHeld1
        try simp only [Act.put, List.setIfInBounds_toArray, List.set_cons_zero, List.set_cons_succ]
        refine wpAnyH_ready (rs := [6]) (by kernel_rfl) (by simp) ?_
        refine (AllReadyH.cons (o := { dst := some 5, op := Op.alloc 33, type := 0, pos := "phasor.go:234", after := #[], guard := none }) rfl (fun K hK => ?_) AllReadyH.nil)
        go_simp
        obtain ⟨wz6, hwz⟩ : ∃ v, v = wz7.alloc (Obj.cells #[.int .i64 0, .int .i64 0] 33) := ⟨_, rfl⟩
        rw [← hwz]
        have hl : Below wz7.heap.size wz7 wz6 := by rw [hwz]; exact below_new _ _
        have hbz6 := bthen hbz7 hl
        obtain ⟨G6, hG⟩ : ∃ G, G = wz7.heap.size := ⟨_, rfl⟩
        have i6_ : BlkI wz6 G6 33 [0, 0] := by rw [hwz, hG]; exact Blk.new _ _ _
        have g6 : w3.heap.size ≤ G6 := by rw [hG]; exact (hbz7).size
        try (have q76 : G7 < G6 := by rw [hG]; exact Blk.lt i7_)
        try (have q86 : G8 < G6 := by rw [hG]; exact Blk.lt i8_)
        rw [← hG]
        clear hG
        clear hwz
        have i8_ := i8_.carry hl
        have i7_ := i7_.carry hl
        clear hl
        refine hK.out _ _ ⟨cellb d0 hbz6, cellb d1 hbz6, cellb d2 hbz6, cellb d3 hbz6, cellb d4 hbz6, cellb d5 hbz6⟩ (fun hHeld3 => ?_)
        clear hK K hHeld2
        try simp only [Act.put, List.setIfInBounds_toArray, List.set_cons_zero, List.set_cons_succ]
        refine wpAnyH_ready (rs := [9]) (by kernel_rfl) (by simp) ?_
        refine (AllReadyH.cons (o := { dst := none, op := Op.store 33 (Operand.tmp 5) (Operand.tmp 18), type := 0, pos := "phasor.go:234", after := #[{ on := 6, ground := Ground.data }, { on := 1, ground := Ground.data }, { on := 0, ground := Ground.phase }, { on := 1, ground := Ground.phase }, { on := 2, ground := Ground.textOnly Departure.lateStores }, { on := 3, ground := Ground.textOnly Departure.lateStores }, { on := 4, ground := Ground.textOnly Departure.lateStores }, { on := 5, ground := Ground.textOnly Departure.lateStores }, { on := 6, ground := Ground.phase }, { on := 7, ground := Ground.phase }, { on := 8, ground := Ground.phase }], guard := none }) rfl (fun K hK => ?_) AllReadyH.nil)
        refine wp_storeA _ _ _ rfl G6 [z0, z1] [0, 0] rfl rfl i6_ rfl Tryd.sizeApiE ?_
        obtain ⟨wz9, hwz⟩ : ∃ v, v = World.setRow wz6 G6 (ia [z0, z1]) := ⟨_, rfl⟩
        rw [← hwz]
        have hbz9 : Below w3.heap.size w3 wz9 := by rw [hwz]; exact below_rowA hbz6 g6 _
        replace i6_ := BlkI.setRowA i6_ [z0, z1]
        rw [← hwz] at i6_
        replace i7_ := BlkI.setRowO i7_ (B' := G6) (by omega) (ia [z0, z1])
        rw [← hwz] at i7_
        replace i8_ := BlkI.setRowO i8_ (B' := G6) (by omega) (ia [z0, z1])
        rw [← hwz] at i8_
        clear hwz
        refine hK.out _ _ ⟨cellb d0 hbz9, cellb d1 hbz9, cellb d2 hbz9, cellb d3 hbz9, cellb d4 hbz9, cellb d5 hbz9⟩ (fun hHeld4 => ?_)
        clear hK K hHeld3
        try simp only [Act.put, List.setIfInBounds_toArray, List.set_cons_zero, List.set_cons_succ]
        refine wpAnyH_ready (rs := [10]) (by kernel_rfl) (by simp) ?_
        refine (AllReadyH.cons (o := { dst := none, op := Op.store 33 (Operand.tmp 6) (Operand.tmp 20), type := 0, pos := "phasor.go:234", after := #[{ on := 7, ground := Ground.data }, { on := 3, ground := Ground.data }, { on := 9, ground := Ground.chain }, { on := 0, ground := Ground.phase }, { on := 1, ground := Ground.phase }, { on := 2, ground := Ground.phase }, { on := 3, ground := Ground.phase }, { on := 4, ground := Ground.textOnly Departure.lateStores }, { on := 5, ground := Ground.textOnly Departure.lateStores }, { on := 6, ground := Ground.phase }, { on := 7, ground := Ground.phase }, { on := 8, ground := Ground.phase }, { on := 9, ground := Ground.phase }], guard := none }) rfl (fun K hK => ?_) AllReadyH.nil)
        refine wp_storeA _ _ _ rfl G7 [p0, p1] [0, 0] rfl rfl i7_ rfl Tryd.sizeApiE ?_
        obtain ⟨wz10, hwz⟩ : ∃ v, v = World.setRow wz9 G7 (ia [p0, p1]) := ⟨_, rfl⟩
        rw [← hwz]
        have hbz10 : Below w3.heap.size w3 wz10 := by rw [hwz]; exact below_rowA hbz9 g7 _
        replace i7_ := BlkI.setRowA i7_ [p0, p1]
        rw [← hwz] at i7_
        replace i6_ := BlkI.setRowO i6_ (B' := G7) (by omega) (ia [p0, p1])
        rw [← hwz] at i6_
        replace i8_ := BlkI.setRowO i8_ (B' := G7) (by omega) (ia [p0, p1])
        rw [← hwz] at i8_
        clear hwz
        refine hK.out _ _ ⟨cellb d0 hbz10, cellb d1 hbz10, cellb d2 hbz10, cellb d3 hbz10, cellb d4 hbz10, cellb d5 hbz10⟩ (fun hHeld5 => ?_)
        clear hK K hHeld4
        try simp only [Act.put, List.setIfInBounds_toArray, List.set_cons_zero, List.set_cons_succ]
        refine wpAnyH_ready (rs := [11]) (by kernel_rfl) (by simp) ?_
        refine (AllReadyH.cons (o := { dst := none, op := Op.store 33 (Operand.tmp 7) (Operand.tmp 22), type := 0, pos := "phasor.go:234", after := #[{ on := 8, ground := Ground.data }, { on := 5, ground := Ground.data }, { on := 10, ground := Ground.chain }, { on := 0, ground := Ground.phase }, { on := 1, ground := Ground.phase }, { on := 2, ground := Ground.phase }, { on := 3, ground := Ground.phase }, { on := 4, ground := Ground.phase }, { on := 5, ground := Ground.phase }, { on := 6, ground := Ground.phase }, { on := 7, ground := Ground.phase }, { on := 8, ground := Ground.phase }, { on := 9, ground := Ground.phase }, { on := 10, ground := Ground.phase }], guard := none }) rfl (fun K hK => ?_) AllReadyH.nil)
        refine wp_storeA _ _ _ rfl G8 [n0, n1] [0, 0] rfl rfl i8_ rfl Tryd.sizeApiE ?_
        obtain ⟨wz11, hwz⟩ : ∃ v, v = World.setRow wz10 G8 (ia [n0, n1]) := ⟨_, rfl⟩
        rw [← hwz]
        have hbz11 : Below w3.heap.size w3 wz11 := by rw [hwz]; exact below_rowA hbz10 g8 _
        replace i8_ := BlkI.setRowA i8_ [n0, n1]
        rw [← hwz] at i8_
        replace i6_ := BlkI.setRowO i6_ (B' := G8) (by omega) (ia [n0, n1])
        rw [← hwz] at i6_
        replace i7_ := BlkI.setRowO i7_ (B' := G8) (by omega) (ia [n0, n1])
        rw [← hwz] at i7_
        clear hwz
        refine hK.out _ _ ⟨cellb d0 hbz11, cellb d1 hbz11, cellb d2 hbz11, cellb d3 hbz11, cellb d4 hbz11, cellb d5 hbz11⟩ (fun hHeld6 => ?_)
        clear hK K hHeld5
        try simp only [Act.put, List.setIfInBounds_toArray, List.set_cons_zero, List.set_cons_succ]
        refine wpAnyH_done (by kernel_rfl) ?_ _
        clear hHeld6
        go_wp2_with fail
        go_meet
        exact ⟨G6, G7, G8, rfl, rfl, rfl, i6_, i7_, i8_, hbz11⟩
  case rest =>
    obtain ⟨b5, b6, b7, rfl, rfl, rfl, j5, j6, j7, hbn⟩ := hcut
    replace hB := bthen hB hbn
    replace hT := hT.carry hbn
    have i2 : BlkI wc (w.heap.size + 1) 37 [0, 0, 0, 0, 0, 0] := Blk.carry i2 hbn
    clear d0 d1 d2 d3 d4 d5 hbn hG
    have e0 : wc.cell? ⟨b5, 0, none⟩ = some (.int .i64 z0) := BlkI.cell j5 (j := 0) (by simp)
    have e1 : wc.cell? ⟨b5, 1, none⟩ = some (.int .i64 z1) := BlkI.cell j5 (j := 1) (by simp)
    have e2 : wc.cell? ⟨b6, 0, none⟩ = some (.int .i64 p0) := BlkI.cell j6 (j := 0) (by simp)
    have e3 : wc.cell? ⟨b6, 1, none⟩ = some (.int .i64 p1) := BlkI.cell j6 (j := 1) (by simp)
    have e4 : wc.cell? ⟨b7, 0, none⟩ = some (.int .i64 n0) := BlkI.cell j7 (j := 0) (by simp)
    have e5 : wc.cell? ⟨b7, 1, none⟩ = some (.int .i64 n1) := BlkI.cell j7 (j := 1) (by simp)
    clear j5 j6 j7
    go_wp2_with fail
    refine (TK.out wc hT).mono ?_
    rintro e w4 ⟨he, hb4⟩
    replace he : e = .returned (.agg #[.int .i64 x0, .int .i64 x1, .int .i64 x2, .int .i64 x3, .int .i64 x4, .int .i64 x5]) := he
    subst he
    replace i2 : BlkI w4 (w.heap.size + 1) 37 [0, 0, 0, 0, 0, 0] := Blk.carry i2 hb4
    replace hB := bthen hB hb4
    clear e0 e1 e2 e3 e4 e5 hb4 hT
    go_upto_region 6 with fail
    obtain ⟨W5, hW5⟩ : ∃ v, v = World.alloc w4 (Obj.cells #[.int .i64 x0, .int .i64 x1, .int .i64 x2, .int .i64 x3, .int .i64 x4, .int .i64 x5] 36) := ⟨_, rfl⟩
    have kW5 : Below w4.heap.size w4 W5 := by rw [hW5]; exact below_new _ _
    have iW5 : Blk W5 (w4.heap.size) 36 [.int .i64 x0, .int .i64 x1, .int .i64 x2, .int .i64 x3, .int .i64 x4, .int .i64 x5] := by rw [hW5]; exact Blk.new _ _ _
    have sW5 : W5.heap.size = w4.heap.size + 1 := by rw [hW5]; simp
    rw [← hW5]
    clear hW5
    have i5 : BlkI W5 w4.heap.size 36 (e3L (x0, x1, x2, x3, x4, x5)) := iW5
    replace i2 : BlkI W5 (w.heap.size + 1) 37 [0, 0, 0, 0, 0, 0] := Blk.carry i2 kW5
    replace hB := bthen hB kW5
    clear iW5 kW5 sW5
    go_wp2_with fail
    refine (TD.out w4.heap.size W5 i5).mono ?_
    rintro e w6 ⟨⟨u, rfl, hu⟩, hb6⟩
    replace i2 : BlkI w6 (w.heap.size + 1) 37 [0, 0, 0, 0, 0, 0] := Blk.carry i2 hb6
    replace hB := bthen hB hb6
    clear hb6 i5
    obtain ⟨b, off, cap, rfl, hc⟩ := hu.head (by simp [e3P])
    obtain ⟨f0, f1⟩ := hc 0 _ rfl
    obtain ⟨f2, f3⟩ := hc 1 _ rfl
    obtain ⟨f4, f5⟩ := hc 2 _ rfl
    rw [show (e3P (y0, y1, y2, y3, y4, y5)).length = 3 from rfl]
    replace f2 : w6.cell? ⟨b, off + 2, none⟩ = some (.int .i64 y2) := f2
    replace f3 : w6.cell? ⟨b, off + 3, none⟩ = some (.int .i64 y3) := f3
    replace f4 : w6.cell? ⟨b, off + 4, none⟩ = some (.int .i64 y4) := f4
    replace f5 : w6.cell? ⟨b, off + 5, none⟩ = some (.int .i64 y5) := f5
    simp only [Nat.zero_mul, Nat.add_zero] at f0 f1
    have harr := fun W => arrPh (some ⟨b, off, none⟩) 3 cap W (by omega)
    clear hc hu
    go_wp2_with (refine wpList_storeA rfl _ _ _ rfl (w.heap.size + 1) [y0, y1, y2, y3, y4, y5] [0, 0, 0, 0, 0, 0] rfl rfl i2 rfl Tryd.sizePh ?_)
    have i9 := BlkI.setRowA i2 [y0, y1, y2, y3, y4, y5]
    have x0 := BlkI.cell i9 (j := 0) (by simp)
    have x1 := BlkI.cell i9 (j := 1) (by simp)
    have x2 := BlkI.cell i9 (j := 2) (by simp)
    have x3 := BlkI.cell i9 (j := 3) (by simp)
    have x4 := BlkI.cell i9 (j := 4) (by simp)
    have x5 := BlkI.cell i9 (j := 5) (by simp)
    simp at x0 x1 x2 x3 x4 x5
    exact bodyPost_ret (v := .tuple #[.agg #[.int .i64 y0, .int .i64 y1, .int .i64 y2, .int .i64 y3, .int .i64 y4, .int .i64 y5], .int .i64 0]) (by simp [results, Tryd.f13, go_sem, x0, x1, x2, x3, x4, x5]) rfl ⟨rfl, below_rowA hB (by omega) _⟩
end Go.Proofs.YtjmdnolmaofbiaaDoor

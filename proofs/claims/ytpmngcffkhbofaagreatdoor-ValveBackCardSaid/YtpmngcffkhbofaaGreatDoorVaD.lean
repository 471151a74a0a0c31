/- Package valve: IndexFunc, ContainsFunc, mapped at lists of structs. (printed by gen/valD.py) -/
import Derived.Test.YtpmngcffkhbofaaGreatDoorVaC
namespace Go.Proofs.YtpmngcffkhbofaaGreatDoor
set_option linter.unusedSimpArgs false
set_option linter.unusedVariables false
open Go.RowKit
/-- the first member for which g holds, or -1. -/
def findX {α : Type} (g : α → Bool) (l : List α) : Int := match l.findIdx? g with | some i => (i : Int) | none => -1
theorem findX_none {α : Type} {g : α → Bool} {l : List α} (h : l.any g = false) : findX g l = -1 := by
 have : l.findIdx? g = none := by
  rw [List.findIdx?_eq_none_iff]; intro x hx; rw [List.any_eq_false] at h; simpa using h x hx
 simp [findX, this]
theorem findX_some {α : Type} {g : α → Bool} {l : List α} {k : Nat} {x : α} (hk : l[k]? = some x) (h : (l.take k).any g = false) (hx : g x = true) : findX g l = (k : Int) := by
 have hlt : k < l.length := (List.getElem?_eq_some_iff.1 hk).1
 have : l.findIdx? g = some k := by
  rw [List.findIdx?_eq_some_iff_getElem]
  refine ⟨hlt, by rw [(List.getElem?_eq_some_iff.1 hk).2]; exact hx, fun j hj => ?_⟩
  rw [List.any_eq_false] at h
  have hm : l[j] ∈ l.take k := by
   rw [List.mem_take_iff_getElem]; exact ⟨j, by omega, rfl⟩
  simpa using h _ hm
 simp [findX, this]
theorem findX_ge {α : Type} (g : α → Bool) (l : List α) : decide (0 ≤ findX g l) = l.any g := by
 unfold findX
 cases h : l.findIdx? g with
 | none =>
   have : l.any g = false := by
    rw [List.findIdx?_eq_none_iff] at h
    rw [List.any_eq_false]; intro x hx; rw [h x hx]; simp
   simp [this]
 | some i =>
   rw [List.findIdx?_eq_some_iff_getElem] at h
   obtain ⟨hlt, hg, _⟩ := h
   have : l.any g = true := List.any_eq_true.2 ⟨_, List.getElem_mem hlt, hg⟩
   simp [this]
theorem anyX_take_succ {α : Type} {g : α → Bool} {l : List α} {k : Nat} {x : α} (hk : l[k]? = some x) (h : (l.take k).any g = false) (hx : g x = false) : (l.take (k + 1)).any g = false := by
 rw [List.take_add_one, hk, List.any_append, h]; simp [hx]
theorem Blk.news {w : World} {G : Nat} {T : TypeId} {vs : List Value} (h : Blk w G T vs) (j : Nat) (u : Value) (hj : vs[j]? = some u) : w.cell? ((⟨G, 0, none⟩ : Addr).add j) = some u := by
 rw [addr_add, Nat.zero_add]; exact h.cell hj
theorem flatMap_take_succ {α β : Type} (h : β → List Value) (g : α → β) (l : List α) (k : Nat) (x : α) (hk : l[k]? = some x) : ((l.take (k + 1)).map g).flatMap h = ((l.take k).map g).flatMap h ++ h (g x) := by
 rw [List.take_add_one, hk, List.map_append, List.flatMap_append]; simp
/-- a row of the call's own that holds l. -/
def OwR {β : Type} (w : World) (base e m : Nat) (h : β → List Value) (v : Value) (l : List β) : Prop := w.ownsRow base e m v l.length (l.flatMap h)
theorem OwR.rw {β : Type} {w : World} {base e m : Nat} {h : β → List Value} {v : Value} {l : List β} (ho : OwR w base e m h v l) (hh : ∀ x, (h x).length = m) : Rw m h w v l := Rw.of_own hh ho rfl
theorem OwR.carry {β : Type} {w w' : World} {base e m : Nat} {h : β → List Value} {v : Value} {l : List β} (ho : OwR w base e m h v l) (hb : Below w.heap.size w w') : OwR w' base e m h v l := own_below ho hb
def nV (x : Int) : List Value := [.int .i64 x]
def sV (x : ByteArray) : List Value := [.string x]
theorem sV_len (x : ByteArray) : (sV x).length = 1 := rfl
theorem Rw.ints {w : World} {v : Value} {l : List Int} (h : Rw 1 nV w v l) : Ints w v l := by
 obtain ⟨a, cap, hv, hc, h⟩ := h
 refine ⟨a, cap, hv, hc, fun h0 => ?_⟩
 obtain ⟨b, off, ha, h⟩ := h h0
 refine ⟨b, off, ha, fun j hj => ?_⟩
 have := h j (l[j]) (List.getElem?_eq_getElem hj) 0 _ rfl
 rw [Nat.mul_one, Nat.add_zero] at this
 rw [this, List.getElem?_eq_getElem hj]; rfl
theorem Rw.of_ints {w : World} {v : Value} {l : List Int} (h : Ints w v l) : Rw 1 nV w v l := by
 obtain ⟨a, cap, hv, hc, h⟩ := h
 refine ⟨a, cap, hv, hc, fun h0 => ?_⟩
 obtain ⟨b, off, ha, h⟩ := h h0
 refine ⟨b, off, ha, fun j x hj i u hi => ?_⟩
 have hlt := (List.getElem?_eq_some_iff.1 hj).1
 have := h j hlt
 rw [hj] at this
 cases i with
 | zero => simp [nV] at hi; rw [Nat.mul_one, Nat.add_zero, this, ← hi]; rfl
 | succ i => simp [nV] at hi
/-- a telegram: source, counter, four values. -/
abbrev Tg : Type := Int × Int × Int × Int × Int × Int
def tV (x : Tg) : List Value := [.int .i64 x.1, .int .i64 x.2.1, .int .i64 x.2.2.1, .int .i64 x.2.2.2.1, .int .i64 x.2.2.2.2.1, .int .i64 x.2.2.2.2.2]
theorem tV_len (x : Tg) : (tV x).length = 6 := rfl
def fV (x : Nat) : List Value := [.float .f32 x]
theorem below_grow {w w1 : World} {base e size n : Nat} {v : Value} {xs : List Value} (hown : w.ownsRow base e size v n xs) (hb : base ≤ w.heap.size) (hgrow : w.grownBy w1 v.ownBlock) : Below base w w1 :=
 (Below.refl _ _).grown hgrow hb fun k hk => (hown.lt k hk).1
set_option maxHeartbeats 1000000 in
theorem IndexP_any (K : Nat) (cap : Array Value) (henter : ∀ args w, Sem.run Tryz.prog (callFunc K args) w = .ok (.enter K args) w) (g : P2 → Bool) (v : Value) (l : List P2) (w : World) (hl : l.length ≤ 1000000000) (hv : Rw 2 pV w v l)
 (hf : ∀ x ∈ l, ∀ w1, Below w.heap.size w w1 → Calls Tryz.prog K (#[.agg #[.int .i64 x.1, .int .i64 x.2]] ++ cap) w1 fun r w2 => r = .returned (.bool (g x)) ∧ Below w1.heap.size w1 w2) :
 Calls Tryz.prog 125 #[v, .func (.func K) #[] cap] w fun r w' => r = .returned (.int .i64 (findX g l)) ∧ Below w.heap.size w w' := by
 rcases Nat.eq_zero_or_pos l.length with h0 | h0
 ·obtain rfl : l = [] := List.length_eq_zero_iff.1 h0
  obtain ⟨a, cp, rfl, _, _⟩ := hv
  go_enter Tryz.func125, Tryz.ntmps125
  go_wp2
  go_loop [8] (fun i => i = .int .i64 0) (fun _ => 0)
  case atStart => rfl
  case round =>
   obtain rfl := hrel
   go_wp2
   go_ret
   exact ⟨rfl, Below.refl _ _⟩
 ·obtain ⟨b, off, cp, rfl, hcs⟩ := hv.head h0
  clear hv
  go_enter Tryz.func125, Tryz.ntmps125
  go_wp2
  go_loopw [8] (fun i wr => ∃ k : Nat, k ≤ l.length ∧ i = .int .i64 k ∧ (l.take k).any g = false ∧ Below w.heap.size w wr) (fun i _ => l.length - (intOf i).toNat)
  case atStart => exact ⟨0, by omega, rfl, rfl, Below.refl _ _⟩
  case round =>
   obtain ⟨k, hk, rfl, hf0, hbel⟩ := hrel
   have HF := Lib.hid hf0
   clear hf0
   by_cases hlt : k < l.length
   ·obtain ⟨x, hx⟩ : ∃ x, l[k]? = some x := ⟨_, List.getElem?_eq_getElem hlt⟩
    obtain ⟨c0, c1⟩ := rw2 (hcs k x hx) (show pV x = [.int .i64 x.1, .int .i64 x.2] from rfl)
    have c0 := cellb c0 hbel
    have c1 := cellb c1 hbel
    have HX := Lib.hid hx
    clear hcs hx
    have TG := Lib.hid (hf x (List.mem_of_getElem? HX.out) wr hbel)
    by_cases hg : g x = true
    ·go_wp2_with fail
     refine TG.out.mono ?_
     rintro e w2 ⟨rfl, hb2⟩
     go_wp2
     go_ret
     exact ⟨ret_int (findX_some HX.out HF.out hg).symm, bthen hbel hb2⟩
    ·have hg' : g x = false := by simpa using hg
     clear hg
     go_wp2_with fail
     refine TG.out.mono ?_
     rintro e w2 ⟨rfl, hb2⟩
     go_wp2
     go_roundw
     case rel => exact ⟨k + 1, by omega, by go_num, anyX_take_succ HX.out HF.out hg', bthen hbel hb2⟩
     case measure => simp [intOf]; omega
   ·obtain rfl : k = l.length := by omega
    go_wp2
    go_ret
    exact ⟨ret_int (findX_none (by have := HF.out; rwa [List.take_length] at this)).symm, hbel⟩
set_option maxHeartbeats 400000 in
theorem ContainsP_any (K : Nat) (cap : Array Value) (henter : ∀ args w, Sem.run Tryz.prog (callFunc K args) w = .ok (.enter K args) w) (g : P2 → Bool) (v : Value) (l : List P2) (w : World) (hl : l.length ≤ 1000000000) (hv : Rw 2 pV w v l)
 (hf : ∀ x ∈ l, ∀ w1, Below w.heap.size w w1 → Calls Tryz.prog K (#[.agg #[.int .i64 x.1, .int .i64 x.2]] ++ cap) w1 fun r w2 => r = .returned (.bool (g x)) ∧ Below w1.heap.size w1 w2) :
 Calls Tryz.prog 83 #[v, .func (.func K) #[] cap] w fun r w' => r = .returned (.bool (l.any g)) ∧ Below w.heap.size w w' := by
 have HG := Lib.hid (findX_ge g l)
 have TI := Lib.hid (IndexP_any K cap henter g v l w hl hv hf)
 go_enter Tryz.func83, Tryz.ntmps83
 go_wp2_with fail
 refine TI.out.mono ?_
 rintro e w2 ⟨rfl, hb2⟩
 go_wp2
 go_ret
 exact ⟨ret_bool HG.out, hb2⟩
set_option maxHeartbeats 1000000 in
theorem IndexA_any (K : Nat) (cap : Array Value) (henter : ∀ args w, Sem.run Tryz.prog (callFunc K args) w = .ok (.enter K args) w) (g : P2 → Bool) (v : Value) (l : List P2) (w : World) (hl : l.length ≤ 1000000000) (hv : Rw 2 pV w v l)
 (hf : ∀ x ∈ l, ∀ w1, Below w.heap.size w w1 → Calls Tryz.prog K (#[.agg #[.int .i64 x.1, .int .i64 x.2]] ++ cap) w1 fun r w2 => r = .returned (.bool (g x)) ∧ Below w1.heap.size w1 w2) :
 Calls Tryz.prog 139 #[v, .func (.func K) #[] cap] w fun r w' => r = .returned (.int .i64 (findX g l)) ∧ Below w.heap.size w w' := by
 rcases Nat.eq_zero_or_pos l.length with h0 | h0
 ·obtain rfl : l = [] := List.length_eq_zero_iff.1 h0
  obtain ⟨a, cp, rfl, _, _⟩ := hv
  go_enter Tryz.func139, Tryz.ntmps139
  go_wp2
  go_loop [8] (fun i => i = .int .i64 0) (fun _ => 0)
  case atStart => rfl
  case round =>
   obtain rfl := hrel
   go_wp2
   go_ret
   exact ⟨rfl, Below.refl _ _⟩
 ·obtain ⟨b, off, cp, rfl, hcs⟩ := hv.head h0
  clear hv
  go_enter Tryz.func139, Tryz.ntmps139
  go_wp2
  go_loopw [8] (fun i wr => ∃ k : Nat, k ≤ l.length ∧ i = .int .i64 k ∧ (l.take k).any g = false ∧ Below w.heap.size w wr) (fun i _ => l.length - (intOf i).toNat)
  case atStart => exact ⟨0, by omega, rfl, rfl, Below.refl _ _⟩
  case round =>
   obtain ⟨k, hk, rfl, hf0, hbel⟩ := hrel
   have HF := Lib.hid hf0
   clear hf0
   by_cases hlt : k < l.length
   ·obtain ⟨x, hx⟩ : ∃ x, l[k]? = some x := ⟨_, List.getElem?_eq_getElem hlt⟩
    obtain ⟨c0, c1⟩ := rw2 (hcs k x hx) (show pV x = [.int .i64 x.1, .int .i64 x.2] from rfl)
    have c0 := cellb c0 hbel
    have c1 := cellb c1 hbel
    have HX := Lib.hid hx
    clear hcs hx
    have TG := Lib.hid (hf x (List.mem_of_getElem? HX.out) wr hbel)
    by_cases hg : g x = true
    ·go_wp2_with fail
     refine TG.out.mono ?_
     rintro e w2 ⟨rfl, hb2⟩
     go_wp2
     go_ret
     exact ⟨ret_int (findX_some HX.out HF.out hg).symm, bthen hbel hb2⟩
    ·have hg' : g x = false := by simpa using hg
     clear hg
     go_wp2_with fail
     refine TG.out.mono ?_
     rintro e w2 ⟨rfl, hb2⟩
     go_wp2
     go_roundw
     case rel => exact ⟨k + 1, by omega, by go_num, anyX_take_succ HX.out HF.out hg', bthen hbel hb2⟩
     case measure => simp [intOf]; omega
   ·obtain rfl : k = l.length := by omega
    go_wp2
    go_ret
    exact ⟨ret_int (findX_none (by have := HF.out; rwa [List.take_length] at this)).symm, hbel⟩
set_option maxHeartbeats 400000 in
theorem ContainsA_any (K : Nat) (cap : Array Value) (henter : ∀ args w, Sem.run Tryz.prog (callFunc K args) w = .ok (.enter K args) w) (g : P2 → Bool) (v : Value) (l : List P2) (w : World) (hl : l.length ≤ 1000000000) (hv : Rw 2 pV w v l)
 (hf : ∀ x ∈ l, ∀ w1, Below w.heap.size w w1 → Calls Tryz.prog K (#[.agg #[.int .i64 x.1, .int .i64 x.2]] ++ cap) w1 fun r w2 => r = .returned (.bool (g x)) ∧ Below w1.heap.size w1 w2) :
 Calls Tryz.prog 74 #[v, .func (.func K) #[] cap] w fun r w' => r = .returned (.bool (l.any g)) ∧ Below w.heap.size w w' := by
 have HG := Lib.hid (findX_ge g l)
 have TI := Lib.hid (IndexA_any K cap henter g v l w hl hv hf)
 go_enter Tryz.func74, Tryz.ntmps74
 go_wp2_with fail
 refine TI.out.mono ?_
 rintro e w2 ⟨rfl, hb2⟩
 go_wp2
 go_ret
 exact ⟨ret_bool HG.out, hb2⟩
set_option maxHeartbeats 1000000 in
theorem IndexO_any (K : Nat) (cap : Array Value) (henter : ∀ args w, Sem.run Tryz.prog (callFunc K args) w = .ok (.enter K args) w) (g : I3 → Bool) (v : Value) (l : List I3) (w : World) (hl : l.length ≤ 1000000000) (hv : Rw 3 iV w v l)
 (hf : ∀ x ∈ l, ∀ w1, Below w.heap.size w w1 → Calls Tryz.prog K (#[.agg #[.int .i64 x.1, .int .i64 x.2.1, .int .i64 x.2.2]] ++ cap) w1 fun r w2 => r = .returned (.bool (g x)) ∧ Below w1.heap.size w1 w2) :
 Calls Tryz.prog 146 #[v, .func (.func K) #[] cap] w fun r w' => r = .returned (.int .i64 (findX g l)) ∧ Below w.heap.size w w' := by
 rcases Nat.eq_zero_or_pos l.length with h0 | h0
 ·obtain rfl : l = [] := List.length_eq_zero_iff.1 h0
  obtain ⟨a, cp, rfl, _, _⟩ := hv
  go_enter Tryz.func146, Tryz.ntmps146
  go_wp2
  go_loop [8] (fun i => i = .int .i64 0) (fun _ => 0)
  case atStart => rfl
  case round =>
   obtain rfl := hrel
   go_wp2
   go_ret
   exact ⟨rfl, Below.refl _ _⟩
 ·obtain ⟨b, off, cp, rfl, hcs⟩ := hv.head h0
  clear hv
  go_enter Tryz.func146, Tryz.ntmps146
  go_wp2
  go_loopw [8] (fun i wr => ∃ k : Nat, k ≤ l.length ∧ i = .int .i64 k ∧ (l.take k).any g = false ∧ Below w.heap.size w wr) (fun i _ => l.length - (intOf i).toNat)
  case atStart => exact ⟨0, by omega, rfl, rfl, Below.refl _ _⟩
  case round =>
   obtain ⟨k, hk, rfl, hf0, hbel⟩ := hrel
   have HF := Lib.hid hf0
   clear hf0
   by_cases hlt : k < l.length
   ·obtain ⟨x, hx⟩ : ∃ x, l[k]? = some x := ⟨_, List.getElem?_eq_getElem hlt⟩
    obtain ⟨c0, c1, c2⟩ := rw3 (hcs k x hx) (show iV x = [.int .i64 x.1, .int .i64 x.2.1, .int .i64 x.2.2] from rfl)
    have c0 := cellb c0 hbel
    have c1 := cellb c1 hbel
    have c2 := cellb c2 hbel
    have HX := Lib.hid hx
    clear hcs hx
    have TG := Lib.hid (hf x (List.mem_of_getElem? HX.out) wr hbel)
    by_cases hg : g x = true
    ·go_wp2_with fail
     refine TG.out.mono ?_
     rintro e w2 ⟨rfl, hb2⟩
     go_wp2
     go_ret
     exact ⟨ret_int (findX_some HX.out HF.out hg).symm, bthen hbel hb2⟩
    ·have hg' : g x = false := by simpa using hg
     clear hg
     go_wp2_with fail
     refine TG.out.mono ?_
     rintro e w2 ⟨rfl, hb2⟩
     go_wp2
     go_roundw
     case rel => exact ⟨k + 1, by omega, by go_num, anyX_take_succ HX.out HF.out hg', bthen hbel hb2⟩
     case measure => simp [intOf]; omega
   ·obtain rfl : k = l.length := by omega
    go_wp2
    go_ret
    exact ⟨ret_int (findX_none (by have := HF.out; rwa [List.take_length] at this)).symm, hbel⟩
set_option maxHeartbeats 400000 in
theorem ContainsO_any (K : Nat) (cap : Array Value) (henter : ∀ args w, Sem.run Tryz.prog (callFunc K args) w = .ok (.enter K args) w) (g : I3 → Bool) (v : Value) (l : List I3) (w : World) (hl : l.length ≤ 1000000000) (hv : Rw 3 iV w v l)
 (hf : ∀ x ∈ l, ∀ w1, Below w.heap.size w w1 → Calls Tryz.prog K (#[.agg #[.int .i64 x.1, .int .i64 x.2.1, .int .i64 x.2.2]] ++ cap) w1 fun r w2 => r = .returned (.bool (g x)) ∧ Below w1.heap.size w1 w2) :
 Calls Tryz.prog 98 #[v, .func (.func K) #[] cap] w fun r w' => r = .returned (.bool (l.any g)) ∧ Below w.heap.size w w' := by
 have HG := Lib.hid (findX_ge g l)
 have TI := Lib.hid (IndexO_any K cap henter g v l w hl hv hf)
 go_enter Tryz.func98, Tryz.ntmps98
 go_wp2_with fail
 refine TI.out.mono ?_
 rintro e w2 ⟨rfl, hb2⟩
 go_wp2
 go_ret
 exact ⟨ret_bool HG.out, hb2⟩
set_option maxHeartbeats 1000000 in
theorem IndexL_any (K : Nat) (cap : Array Value) (henter : ∀ args w, Sem.run Tryz.prog (callFunc K args) w = .ok (.enter K args) w) (g : LgV → Bool) (v : Value) (l : List LgV) (w : World) (hl : l.length ≤ 1000000000) (hv : Rw 2 lV w v l)
 (hf : ∀ x ∈ l, ∀ w1, Below w.heap.size w w1 → Calls Tryz.prog K (#[.agg #[.int .i64 x.1, .slice x.2.1 x.2.2.1 x.2.2.2]] ++ cap) w1 fun r w2 => r = .returned (.bool (g x)) ∧ Below w1.heap.size w1 w2) :
 Calls Tryz.prog 166 #[v, .func (.func K) #[] cap] w fun r w' => r = .returned (.int .i64 (findX g l)) ∧ Below w.heap.size w w' := by
 rcases Nat.eq_zero_or_pos l.length with h0 | h0
 ·obtain rfl : l = [] := List.length_eq_zero_iff.1 h0
  obtain ⟨a, cp, rfl, _, _⟩ := hv
  go_enter Tryz.func166, Tryz.ntmps166
  go_wp2
  go_loop [8] (fun i => i = .int .i64 0) (fun _ => 0)
  case atStart => rfl
  case round =>
   obtain rfl := hrel
   go_wp2
   go_ret
   exact ⟨rfl, Below.refl _ _⟩
 ·obtain ⟨b, off, cp, rfl, hcs⟩ := hv.head h0
  clear hv
  go_enter Tryz.func166, Tryz.ntmps166
  go_wp2
  go_loopw [8] (fun i wr => ∃ k : Nat, k ≤ l.length ∧ i = .int .i64 k ∧ (l.take k).any g = false ∧ Below w.heap.size w wr) (fun i _ => l.length - (intOf i).toNat)
  case atStart => exact ⟨0, by omega, rfl, rfl, Below.refl _ _⟩
  case round =>
   obtain ⟨k, hk, rfl, hf0, hbel⟩ := hrel
   have HF := Lib.hid hf0
   clear hf0
   by_cases hlt : k < l.length
   ·obtain ⟨x, hx⟩ : ∃ x, l[k]? = some x := ⟨_, List.getElem?_eq_getElem hlt⟩
    obtain ⟨c0, c1⟩ := rw2 (hcs k x hx) (show lV x = [.int .i64 x.1, .slice x.2.1 x.2.2.1 x.2.2.2] from rfl)
    have c0 := cellb c0 hbel
    have c1 := cellb c1 hbel
    have HX := Lib.hid hx
    clear hcs hx
    have TG := Lib.hid (hf x (List.mem_of_getElem? HX.out) wr hbel)
    by_cases hg : g x = true
    ·go_wp2_with fail
     refine TG.out.mono ?_
     rintro e w2 ⟨rfl, hb2⟩
     go_wp2
     go_ret
     exact ⟨ret_int (findX_some HX.out HF.out hg).symm, bthen hbel hb2⟩
    ·have hg' : g x = false := by simpa using hg
     clear hg
     go_wp2_with fail
     refine TG.out.mono ?_
     rintro e w2 ⟨rfl, hb2⟩
     go_wp2
     go_roundw
     case rel => exact ⟨k + 1, by omega, by go_num, anyX_take_succ HX.out HF.out hg', bthen hbel hb2⟩
     case measure => simp [intOf]; omega
   ·obtain rfl : k = l.length := by omega
    go_wp2
    go_ret
    exact ⟨ret_int (findX_none (by have := HF.out; rwa [List.take_length] at this)).symm, hbel⟩
set_option maxHeartbeats 400000 in
theorem ContainsL_any (K : Nat) (cap : Array Value) (henter : ∀ args w, Sem.run Tryz.prog (callFunc K args) w = .ok (.enter K args) w) (g : LgV → Bool) (v : Value) (l : List LgV) (w : World) (hl : l.length ≤ 1000000000) (hv : Rw 2 lV w v l)
 (hf : ∀ x ∈ l, ∀ w1, Below w.heap.size w w1 → Calls Tryz.prog K (#[.agg #[.int .i64 x.1, .slice x.2.1 x.2.2.1 x.2.2.2]] ++ cap) w1 fun r w2 => r = .returned (.bool (g x)) ∧ Below w1.heap.size w1 w2) :
 Calls Tryz.prog 134 #[v, .func (.func K) #[] cap] w fun r w' => r = .returned (.bool (l.any g)) ∧ Below w.heap.size w w' := by
 have HG := Lib.hid (findX_ge g l)
 have TI := Lib.hid (IndexL_any K cap henter g v l w hl hv hf)
 go_enter Tryz.func134, Tryz.ntmps134
 go_wp2_with fail
 refine TI.out.mono ?_
 rintro e w2 ⟨rfl, hb2⟩
 go_wp2
 go_ret
 exact ⟨ret_bool HG.out, hb2⟩
set_option maxHeartbeats 1000000 in
theorem IndexM_any (K : Nat) (cap : Array Value) (henter : ∀ args w, Sem.run Tryz.prog (callFunc K args) w = .ok (.enter K args) w) (g : Mo → Bool) (v : Value) (l : List Mo) (w : World) (hl : l.length ≤ 1000000000) (hv : Rw 4 mV w v l)
 (hf : ∀ x ∈ l, ∀ w1, Below w.heap.size w w1 → Calls Tryz.prog K (#[.agg #[.string x.1, .int .i64 x.2.1, .int .i64 x.2.2.1, .int .i64 x.2.2.2]] ++ cap) w1 fun r w2 => r = .returned (.bool (g x)) ∧ Below w1.heap.size w1 w2) :
 Calls Tryz.prog 208 #[v, .func (.func K) #[] cap] w fun r w' => r = .returned (.int .i64 (findX g l)) ∧ Below w.heap.size w w' := by
 rcases Nat.eq_zero_or_pos l.length with h0 | h0
 ·obtain rfl : l = [] := List.length_eq_zero_iff.1 h0
  obtain ⟨a, cp, rfl, _, _⟩ := hv
  go_enter Tryz.func208, Tryz.ntmps208
  go_wp2
  go_loop [8] (fun i => i = .int .i64 0) (fun _ => 0)
  case atStart => rfl
  case round =>
   obtain rfl := hrel
   go_wp2
   go_ret
   exact ⟨rfl, Below.refl _ _⟩
 ·obtain ⟨b, off, cp, rfl, hcs⟩ := hv.head h0
  clear hv
  go_enter Tryz.func208, Tryz.ntmps208
  go_wp2
  go_loopw [8] (fun i wr => ∃ k : Nat, k ≤ l.length ∧ i = .int .i64 k ∧ (l.take k).any g = false ∧ Below w.heap.size w wr) (fun i _ => l.length - (intOf i).toNat)
  case atStart => exact ⟨0, by omega, rfl, rfl, Below.refl _ _⟩
  case round =>
   obtain ⟨k, hk, rfl, hf0, hbel⟩ := hrel
   have HF := Lib.hid hf0
   clear hf0
   by_cases hlt : k < l.length
   ·obtain ⟨x, hx⟩ : ∃ x, l[k]? = some x := ⟨_, List.getElem?_eq_getElem hlt⟩
    obtain ⟨c0, c1, c2, c3⟩ := rw4 (hcs k x hx) (show mV x = [.string x.1, .int .i64 x.2.1, .int .i64 x.2.2.1, .int .i64 x.2.2.2] from rfl)
    have c0 := cellb c0 hbel
    have c1 := cellb c1 hbel
    have c2 := cellb c2 hbel
    have c3 := cellb c3 hbel
    have HX := Lib.hid hx
    clear hcs hx
    have TG := Lib.hid (hf x (List.mem_of_getElem? HX.out) wr hbel)
    by_cases hg : g x = true
    ·go_wp2_with fail
     refine TG.out.mono ?_
     rintro e w2 ⟨rfl, hb2⟩
     go_wp2
     go_ret
     exact ⟨ret_int (findX_some HX.out HF.out hg).symm, bthen hbel hb2⟩
    ·have hg' : g x = false := by simpa using hg
     clear hg
     go_wp2_with fail
     refine TG.out.mono ?_
     rintro e w2 ⟨rfl, hb2⟩
     go_wp2
     go_roundw
     case rel => exact ⟨k + 1, by omega, by go_num, anyX_take_succ HX.out HF.out hg', bthen hbel hb2⟩
     case measure => simp [intOf]; omega
   ·obtain rfl : k = l.length := by omega
    go_wp2
    go_ret
    exact ⟨ret_int (findX_none (by have := HF.out; rwa [List.take_length] at this)).symm, hbel⟩
set_option maxHeartbeats 400000 in
theorem ContainsM_any (K : Nat) (cap : Array Value) (henter : ∀ args w, Sem.run Tryz.prog (callFunc K args) w = .ok (.enter K args) w) (g : Mo → Bool) (v : Value) (l : List Mo) (w : World) (hl : l.length ≤ 1000000000) (hv : Rw 4 mV w v l)
 (hf : ∀ x ∈ l, ∀ w1, Below w.heap.size w w1 → Calls Tryz.prog K (#[.agg #[.string x.1, .int .i64 x.2.1, .int .i64 x.2.2.1, .int .i64 x.2.2.2]] ++ cap) w1 fun r w2 => r = .returned (.bool (g x)) ∧ Below w1.heap.size w1 w2) :
 Calls Tryz.prog 181 #[v, .func (.func K) #[] cap] w fun r w' => r = .returned (.bool (l.any g)) ∧ Below w.heap.size w w' := by
 have HG := Lib.hid (findX_ge g l)
 have TI := Lib.hid (IndexM_any K cap henter g v l w hl hv hf)
 go_enter Tryz.func181, Tryz.ntmps181
 go_wp2_with fail
 refine TI.out.mono ?_
 rintro e w2 ⟨rfl, hb2⟩
 go_wp2
 go_ret
 exact ⟨ret_bool HG.out, hb2⟩
set_option maxHeartbeats 1000000 in
theorem IndexI_any (K : Nat) (cap : Array Value) (henter : ∀ args w, Sem.run Tryz.prog (callFunc K args) w = .ok (.enter K args) w) (g : Int → Bool) (v : Value) (l : List Int) (w : World) (hl : l.length ≤ 1000000000) (hv : Rw 1 nV w v l)
 (hf : ∀ x ∈ l, ∀ w1, Below w.heap.size w w1 → Calls Tryz.prog K (#[.int .i64 x] ++ cap) w1 fun r w2 => r = .returned (.bool (g x)) ∧ Below w1.heap.size w1 w2) :
 Calls Tryz.prog 209 #[v, .func (.func K) #[] cap] w fun r w' => r = .returned (.int .i64 (findX g l)) ∧ Below w.heap.size w w' := by
 rcases Nat.eq_zero_or_pos l.length with h0 | h0
 ·obtain rfl : l = [] := List.length_eq_zero_iff.1 h0
  obtain ⟨a, cp, rfl, _, _⟩ := hv
  go_enter Tryz.func209, Tryz.ntmps209
  go_wp2
  go_loop [8] (fun i => i = .int .i64 0) (fun _ => 0)
  case atStart => rfl
  case round =>
   obtain rfl := hrel
   go_wp2
   go_ret
   exact ⟨rfl, Below.refl _ _⟩
 ·obtain ⟨b, off, cp, rfl, hcs⟩ := hv.head h0
  clear hv
  go_enter Tryz.func209, Tryz.ntmps209
  go_wp2
  go_loopw [8] (fun i wr => ∃ k : Nat, k ≤ l.length ∧ i = .int .i64 k ∧ (l.take k).any g = false ∧ Below w.heap.size w wr) (fun i _ => l.length - (intOf i).toNat)
  case atStart => exact ⟨0, by omega, rfl, rfl, Below.refl _ _⟩
  case round =>
   obtain ⟨k, hk, rfl, hf0, hbel⟩ := hrel
   have HF := Lib.hid hf0
   clear hf0
   by_cases hlt : k < l.length
   ·obtain ⟨x, hx⟩ : ∃ x, l[k]? = some x := ⟨_, List.getElem?_eq_getElem hlt⟩
    have c0 := rw1 (hcs k x hx) (show nV x = [.int .i64 x] from rfl)
    have c0 := cellb c0 hbel
    have HX := Lib.hid hx
    clear hcs hx
    have TG := Lib.hid (hf x (List.mem_of_getElem? HX.out) wr hbel)
    by_cases hg : g x = true
    ·go_wp2_with fail
     refine TG.out.mono ?_
     rintro e w2 ⟨rfl, hb2⟩
     go_wp2
     go_ret
     exact ⟨ret_int (findX_some HX.out HF.out hg).symm, bthen hbel hb2⟩
    ·have hg' : g x = false := by simpa using hg
     clear hg
     go_wp2_with fail
     refine TG.out.mono ?_
     rintro e w2 ⟨rfl, hb2⟩
     go_wp2
     go_roundw
     case rel => exact ⟨k + 1, by omega, by go_num, anyX_take_succ HX.out HF.out hg', bthen hbel hb2⟩
     case measure => simp [intOf]; omega
   ·obtain rfl : k = l.length := by omega
    go_wp2
    go_ret
    exact ⟨ret_int (findX_none (by have := HF.out; rwa [List.take_length] at this)).symm, hbel⟩
set_option maxHeartbeats 400000 in
theorem ContainsI_any (K : Nat) (cap : Array Value) (henter : ∀ args w, Sem.run Tryz.prog (callFunc K args) w = .ok (.enter K args) w) (g : Int → Bool) (v : Value) (l : List Int) (w : World) (hl : l.length ≤ 1000000000) (hv : Rw 1 nV w v l)
 (hf : ∀ x ∈ l, ∀ w1, Below w.heap.size w w1 → Calls Tryz.prog K (#[.int .i64 x] ++ cap) w1 fun r w2 => r = .returned (.bool (g x)) ∧ Below w1.heap.size w1 w2) :
 Calls Tryz.prog 189 #[v, .func (.func K) #[] cap] w fun r w' => r = .returned (.bool (l.any g)) ∧ Below w.heap.size w w' := by
 have HG := Lib.hid (findX_ge g l)
 have TI := Lib.hid (IndexI_any K cap henter g v l w hl hv hf)
 go_enter Tryz.func189, Tryz.ntmps189
 go_wp2_with fail
 refine TI.out.mono ?_
 rintro e w2 ⟨rfl, hb2⟩
 go_wp2
 go_ret
 exact ⟨ret_bool HG.out, hb2⟩
theorem Tryz.infZint : (Tryz.prog.info? 3).map (fun i => (i.zero, i.size, i.bytes)) = some (some (.int .i64 0), 1, 8) := by kernel_rfl
theorem Tryz.undZint : Tryz.prog.underlying 63 = some (.slice 3) := by kernel_rfl
set_option maxRecDepth 100000 in
set_option maxHeartbeats 2000000 in
theorem mapOI_any (K : Nat) (cap : Array Value) (henter : ∀ args w, Sem.run Tryz.prog (callFunc K args) w = .ok (.enter K args) w) (g : I3 → Int) (v : Value) (l : List I3) (w : World) (hl : l.length ≤ 1000000) (hv : Rw 3 iV w v l)
 (hf : ∀ x ∈ l, ∀ w1, Below w.heap.size w w1 → Calls Tryz.prog K (#[.agg #[.int .i64 x.1, .int .i64 x.2.1, .int .i64 x.2.2]] ++ cap) w1 fun r w2 => r = .returned (.int .i64 (g x)) ∧ Below w1.heap.size w1 w2) :
 Calls Tryz.prog 94 #[v, .func (.func K) #[] cap] w fun r w' => (∃ u, r = .returned u ∧ OwR w' w.heap.size 3 1 nV u (l.map g)) ∧ Below w.heap.size w w' := by
 rcases Nat.eq_zero_or_pos l.length with h0 | h0
 ·obtain rfl : l = [] := List.length_eq_zero_iff.1 h0
  obtain ⟨a, cp, rfl, _, _⟩ := hv
  go_enter Tryz.func94, Tryz.ntmps94
  go_wp2
  go_loop [5, 10] (fun v i => v = .slice none 0 0 ∧ i = .int .i64 0) (fun _ _ => 0)
  case atStart => exact ⟨rfl, rfl⟩
  case round =>
   obtain ⟨rfl, rfl⟩ := hrel
   go_wp2
   go_ret
   exact ⟨⟨_, rfl, World.ownsRow_nil _ _ _ _⟩, Below.refl _ _⟩
 ·obtain ⟨b, off, cp, rfl, hcs⟩ := hv.head h0
  clear hv
  obtain ⟨i0, hi, hz0, hz1, hz2⟩ := info_parts Tryz.infZint
  go_enter Tryz.func94, Tryz.ntmps94
  go_wp2
  go_loopw [5, 10] (fun v i wr => ∃ k : Nat, k ≤ l.length ∧ i = .int .i64 k ∧ wr.ownsRow w.heap.size 3 1 v k (((l.take k).map g).flatMap nV) ∧ Below w.heap.size w wr) (fun _ i _ => l.length - (intOf i).toNat)
  case atStart => exact ⟨0, by omega, rfl, World.ownsRow_nil _ _ _ _, Below.refl _ _⟩
  case round =>
   obtain ⟨k, hk, rfl, hown, hbel⟩ := hrel
   by_cases hlt : k < l.length
   ·obtain ⟨x, hx⟩ : ∃ x, l[k]? = some x := ⟨_, List.getElem?_eq_getElem hlt⟩
    obtain ⟨c0, c1, c2⟩ := rw3 (hcs k x hx) (show iV x = [.int .i64 x.1, .int .i64 x.2.1, .int .i64 x.2.2] from rfl)
    have c0 := cellb c0 hbel
    have c1 := cellb c1 hbel
    have c2 := cellb c2 hbel
    have hts := flatMap_take_succ nV g l k x hx
    have hts : ((l.take (k + 1)).map g).flatMap nV = ((l.take k).map g).flatMap nV ++ [.int .i64 (g x)] := hts
    have TF := Lib.hid (fun W hE => hf x (List.mem_of_getElem? hx) W hE)
    obtain ⟨y0, hy0⟩ : ∃ y, y = (g x) := ⟨_, rfl⟩
    rw [← hy0] at TF hts
    have HTS := Lib.hid hts
    clear hcs hx hts hy0
    go_wp2_with fail
    have hbx := bthen hbel (below_new wr (Obj.cells #[Value.int IntKind.i64 x.1, Value.int IntKind.i64 x.2.1, Value.int IntKind.i64 x.2.2] 165))
    refine (TF.out _ hbx).mono ?_
    rintro e w2 ⟨rfl, hb2⟩
    have hbx2 := bthen hbx hb2
    have hown := own_below hown (bthen (below_new wr (Obj.cells #[Value.int IntKind.i64 x.1, Value.int IntKind.i64 x.2.1, Value.int IntKind.i64 x.2.2] 165)) hb2)
    clear hbx hb2 hbel c0 c1 c2
    go_wp2_with (at_builtin; refine wpList_append_own _ rfl _ _ 63 rfl w.heap.size 3 i0 (.int .i64 0) 1 8 Tryz.undZint hi hz0 hz1 hz2 rfl (by decide) _ _ _ rfl (own_below hown (below_new _ _)) ⟨w2.heap.size, 0, none⟩ 1 1 [.int .i64 y0] rfl rfl (fun j u hj => (Blk.new w2 3 [.int .i64 y0]).news j u hj) (by simp [Value.oneCell']) (by unfold maxLen; omega) (by omega) (by have := hbx2.size; simp; omega) ?_; intro v' w1 hown' hgrow _)
    have hbel' : Below w.heap.size w w1 := (bthen hbx2 (below_new w2 (.cells #[.int .i64 y0] 3))).trans (below_grow (own_below hown (below_new _ _)) (by have := hbx2.size; simp; omega) hgrow)
    have hown2 : w1.ownsRow w.heap.size 3 1 v' (k + 1) (((l.take (k + 1)).map g).flatMap nV) := by
     rw [HTS.out]; exact hown'
    clear hown hbx2 hown' hgrow
    go_wp2
    go_roundw
    case rel => exact ⟨k + 1, by omega, by go_num, hown2, hbel'⟩
    case measure => simp [intOf]; omega
   ·obtain rfl : k = l.length := by omega
    have hout : OwR wr w.heap.size 3 1 nV u5 (l.map g) := by
     unfold OwR
     rw [List.take_length] at hown
     rw [List.length_map]; exact hown
    clear hown
    go_wp2
    go_ret
    exact ⟨⟨_, rfl, hout⟩, hbel⟩
set_option maxRecDepth 100000 in
set_option maxHeartbeats 2000000 in
theorem mapLI_any (K : Nat) (cap : Array Value) (henter : ∀ args w, Sem.run Tryz.prog (callFunc K args) w = .ok (.enter K args) w) (g : LgV → Int) (v : Value) (l : List LgV) (w : World) (hl : l.length ≤ 1000000) (hv : Rw 2 lV w v l)
 (hf : ∀ x ∈ l, ∀ w1, Below w.heap.size w w1 → Calls Tryz.prog K (#[.agg #[.int .i64 x.1, .slice x.2.1 x.2.2.1 x.2.2.2]] ++ cap) w1 fun r w2 => r = .returned (.int .i64 (g x)) ∧ Below w1.heap.size w1 w2) :
 Calls Tryz.prog 68 #[v, .func (.func K) #[] cap] w fun r w' => (∃ u, r = .returned u ∧ OwR w' w.heap.size 3 1 nV u (l.map g)) ∧ Below w.heap.size w w' := by
 rcases Nat.eq_zero_or_pos l.length with h0 | h0
 ·obtain rfl : l = [] := List.length_eq_zero_iff.1 h0
  obtain ⟨a, cp, rfl, _, _⟩ := hv
  go_enter Tryz.func68, Tryz.ntmps68
  go_wp2
  go_loop [5, 10] (fun v i => v = .slice none 0 0 ∧ i = .int .i64 0) (fun _ _ => 0)
  case atStart => exact ⟨rfl, rfl⟩
  case round =>
   obtain ⟨rfl, rfl⟩ := hrel
   go_wp2
   go_ret
   exact ⟨⟨_, rfl, World.ownsRow_nil _ _ _ _⟩, Below.refl _ _⟩
 ·obtain ⟨b, off, cp, rfl, hcs⟩ := hv.head h0
  clear hv
  obtain ⟨i0, hi, hz0, hz1, hz2⟩ := info_parts Tryz.infZint
  go_enter Tryz.func68, Tryz.ntmps68
  go_wp2
  go_loopw [5, 10] (fun v i wr => ∃ k : Nat, k ≤ l.length ∧ i = .int .i64 k ∧ wr.ownsRow w.heap.size 3 1 v k (((l.take k).map g).flatMap nV) ∧ Below w.heap.size w wr) (fun _ i _ => l.length - (intOf i).toNat)
  case atStart => exact ⟨0, by omega, rfl, World.ownsRow_nil _ _ _ _, Below.refl _ _⟩
  case round =>
   obtain ⟨k, hk, rfl, hown, hbel⟩ := hrel
   by_cases hlt : k < l.length
   ·obtain ⟨x, hx⟩ : ∃ x, l[k]? = some x := ⟨_, List.getElem?_eq_getElem hlt⟩
    obtain ⟨c0, c1⟩ := rw2 (hcs k x hx) (show lV x = [.int .i64 x.1, .slice x.2.1 x.2.2.1 x.2.2.2] from rfl)
    have c0 := cellb c0 hbel
    have c1 := cellb c1 hbel
    have hts := flatMap_take_succ nV g l k x hx
    have hts : ((l.take (k + 1)).map g).flatMap nV = ((l.take k).map g).flatMap nV ++ [.int .i64 (g x)] := hts
    have TF := Lib.hid (fun W hE => hf x (List.mem_of_getElem? hx) W hE)
    obtain ⟨y0, hy0⟩ : ∃ y, y = (g x) := ⟨_, rfl⟩
    rw [← hy0] at TF hts
    have HTS := Lib.hid hts
    clear hcs hx hts hy0
    go_wp2_with fail
    have hbx := bthen hbel (below_new wr (Obj.cells #[Value.int IntKind.i64 x.1, Value.slice x.2.1 x.2.2.1 x.2.2.2] 32))
    refine (TF.out _ hbx).mono ?_
    rintro e w2 ⟨rfl, hb2⟩
    have hbx2 := bthen hbx hb2
    have hown := own_below hown (bthen (below_new wr (Obj.cells #[Value.int IntKind.i64 x.1, Value.slice x.2.1 x.2.2.1 x.2.2.2] 32)) hb2)
    clear hbx hb2 hbel c0 c1
    go_wp2_with (at_builtin; refine wpList_append_own _ rfl _ _ 63 rfl w.heap.size 3 i0 (.int .i64 0) 1 8 Tryz.undZint hi hz0 hz1 hz2 rfl (by decide) _ _ _ rfl (own_below hown (below_new _ _)) ⟨w2.heap.size, 0, none⟩ 1 1 [.int .i64 y0] rfl rfl (fun j u hj => (Blk.new w2 3 [.int .i64 y0]).news j u hj) (by simp [Value.oneCell']) (by unfold maxLen; omega) (by omega) (by have := hbx2.size; simp; omega) ?_; intro v' w1 hown' hgrow _)
    have hbel' : Below w.heap.size w w1 := (bthen hbx2 (below_new w2 (.cells #[.int .i64 y0] 3))).trans (below_grow (own_below hown (below_new _ _)) (by have := hbx2.size; simp; omega) hgrow)
    have hown2 : w1.ownsRow w.heap.size 3 1 v' (k + 1) (((l.take (k + 1)).map g).flatMap nV) := by
     rw [HTS.out]; exact hown'
    clear hown hbx2 hown' hgrow
    go_wp2
    go_roundw
    case rel => exact ⟨k + 1, by omega, by go_num, hown2, hbel'⟩
    case measure => simp [intOf]; omega
   ·obtain rfl : k = l.length := by omega
    have hout : OwR wr w.heap.size 3 1 nV u5 (l.map g) := by
     unfold OwR
     rw [List.take_length] at hown
     rw [List.length_map]; exact hown
    clear hown
    go_wp2
    go_ret
    exact ⟨⟨_, rfl, hout⟩, hbel⟩
theorem Tryz.infZphasorTelegram : (Tryz.prog.info? 53).map (fun i => (i.zero, i.size, i.bytes)) = some (some (.agg #[.int .i64 0, .int .i64 0, .int .i64 0, .int .i64 0, .int .i64 0, .int .i64 0]), 6, 48) := by kernel_rfl
theorem Tryz.undZphasorTelegram : Tryz.prog.underlying 48 = some (.slice 53) := by kernel_rfl
set_option maxRecDepth 100000 in
set_option maxHeartbeats 2000000 in
theorem mapPT_any (K : Nat) (cap : Array Value) (henter : ∀ args w, Sem.run Tryz.prog (callFunc K args) w = .ok (.enter K args) w) (g : P2 → Tg) (v : Value) (l : List P2) (w : World) (hl : l.length ≤ 1000000) (hv : Rw 2 pV w v l)
 (hf : ∀ x ∈ l, ∀ w1, Below w.heap.size w w1 → Calls Tryz.prog K (#[.agg #[.int .i64 x.1, .int .i64 x.2]] ++ cap) w1 fun r w2 => r = .returned (.agg #[.int .i64 (g x).1, .int .i64 (g x).2.1, .int .i64 (g x).2.2.1, .int .i64 (g x).2.2.2.1, .int .i64 (g x).2.2.2.2.1, .int .i64 (g x).2.2.2.2.2]) ∧ Below w1.heap.size w1 w2) :
 Calls Tryz.prog 56 #[v, .func (.func K) #[] cap] w fun r w' => (∃ u, r = .returned u ∧ OwR w' w.heap.size 53 6 tV u (l.map g)) ∧ Below w.heap.size w w' := by
 rcases Nat.eq_zero_or_pos l.length with h0 | h0
 ·obtain rfl : l = [] := List.length_eq_zero_iff.1 h0
  obtain ⟨a, cp, rfl, _, _⟩ := hv
  go_enter Tryz.func56, Tryz.ntmps56
  go_wp2
  go_loop [5, 10] (fun v i => v = .slice none 0 0 ∧ i = .int .i64 0) (fun _ _ => 0)
  case atStart => exact ⟨rfl, rfl⟩
  case round =>
   obtain ⟨rfl, rfl⟩ := hrel
   go_wp2
   go_ret
   exact ⟨⟨_, rfl, World.ownsRow_nil _ _ _ _⟩, Below.refl _ _⟩
 ·obtain ⟨b, off, cp, rfl, hcs⟩ := hv.head h0
  clear hv
  obtain ⟨i0, hi, hz0, hz1, hz2⟩ := info_parts Tryz.infZphasorTelegram
  go_enter Tryz.func56, Tryz.ntmps56
  go_wp2
  go_loopw [5, 10] (fun v i wr => ∃ k : Nat, k ≤ l.length ∧ i = .int .i64 k ∧ wr.ownsRow w.heap.size 53 6 v k (((l.take k).map g).flatMap tV) ∧ Below w.heap.size w wr) (fun _ i _ => l.length - (intOf i).toNat)
  case atStart => exact ⟨0, by omega, rfl, World.ownsRow_nil _ _ _ _, Below.refl _ _⟩
  case round =>
   obtain ⟨k, hk, rfl, hown, hbel⟩ := hrel
   by_cases hlt : k < l.length
   ·obtain ⟨x, hx⟩ : ∃ x, l[k]? = some x := ⟨_, List.getElem?_eq_getElem hlt⟩
    obtain ⟨c0, c1⟩ := rw2 (hcs k x hx) (show pV x = [.int .i64 x.1, .int .i64 x.2] from rfl)
    have c0 := cellb c0 hbel
    have c1 := cellb c1 hbel
    have hts := flatMap_take_succ tV g l k x hx
    have hts : ((l.take (k + 1)).map g).flatMap tV = ((l.take k).map g).flatMap tV ++ [.int .i64 (g x).1, .int .i64 (g x).2.1, .int .i64 (g x).2.2.1, .int .i64 (g x).2.2.2.1, .int .i64 (g x).2.2.2.2.1, .int .i64 (g x).2.2.2.2.2] := hts
    have TF := Lib.hid (fun W hE => hf x (List.mem_of_getElem? hx) W hE)
    obtain ⟨y0, hy0⟩ : ∃ y, y = (g x).1 := ⟨_, rfl⟩
    obtain ⟨y1, hy1⟩ : ∃ y, y = (g x).2.1 := ⟨_, rfl⟩
    obtain ⟨y2, hy2⟩ : ∃ y, y = (g x).2.2.1 := ⟨_, rfl⟩
    obtain ⟨y3, hy3⟩ : ∃ y, y = (g x).2.2.2.1 := ⟨_, rfl⟩
    obtain ⟨y4, hy4⟩ : ∃ y, y = (g x).2.2.2.2.1 := ⟨_, rfl⟩
    obtain ⟨y5, hy5⟩ : ∃ y, y = (g x).2.2.2.2.2 := ⟨_, rfl⟩
    rw [← hy0, ← hy1, ← hy2, ← hy3, ← hy4, ← hy5] at TF hts
    have HTS := Lib.hid hts
    clear hcs hx hts hy0 hy1 hy2 hy3 hy4 hy5
    go_wp2_with fail
    have hbx := bthen hbel (below_new wr (Obj.cells #[Value.int IntKind.i64 x.1, Value.int IntKind.i64 x.2] 104))
    refine (TF.out _ hbx).mono ?_
    rintro e w2 ⟨rfl, hb2⟩
    have hbx2 := bthen hbx hb2
    have hown := own_below hown (bthen (below_new wr (Obj.cells #[Value.int IntKind.i64 x.1, Value.int IntKind.i64 x.2] 104)) hb2)
    clear hbx hb2 hbel c0 c1
    go_wp2_with (at_builtin; refine wpList_append_own _ rfl _ _ 48 rfl w.heap.size 53 i0 (.agg #[.int .i64 0, .int .i64 0, .int .i64 0, .int .i64 0, .int .i64 0, .int .i64 0]) 6 48 Tryz.undZphasorTelegram hi hz0 hz1 hz2 rfl (by decide) _ _ _ rfl (own_below hown (below_new _ _)) ⟨w2.heap.size, 0, none⟩ 1 1 [.int .i64 y0, .int .i64 y1, .int .i64 y2, .int .i64 y3, .int .i64 y4, .int .i64 y5] rfl rfl (fun j u hj => (Blk.new w2 53 [.int .i64 y0, .int .i64 y1, .int .i64 y2, .int .i64 y3, .int .i64 y4, .int .i64 y5]).news j u hj) (by simp [Value.oneCell']) (by unfold maxLen; omega) (by omega) (by have := hbx2.size; simp; omega) ?_; intro v' w1 hown' hgrow _)
    have hbel' : Below w.heap.size w w1 := (bthen hbx2 (below_new w2 (.cells #[.int .i64 y0, .int .i64 y1, .int .i64 y2, .int .i64 y3, .int .i64 y4, .int .i64 y5] 53))).trans (below_grow (own_below hown (below_new _ _)) (by have := hbx2.size; simp; omega) hgrow)
    have hown2 : w1.ownsRow w.heap.size 53 6 v' (k + 1) (((l.take (k + 1)).map g).flatMap tV) := by
     rw [HTS.out]; exact hown'
    clear hown hbx2 hown' hgrow
    go_wp2
    go_roundw
    case rel => exact ⟨k + 1, by omega, by go_num, hown2, hbel'⟩
    case measure => simp [intOf]; omega
   ·obtain rfl : k = l.length := by omega
    have hout : OwR wr w.heap.size 53 6 tV u5 (l.map g) := by
     unfold OwR
     rw [List.take_length] at hown
     rw [List.length_map]; exact hown
    clear hown
    go_wp2
    go_ret
    exact ⟨⟨_, rfl, hout⟩, hbel⟩
theorem Tryz.infZstring : (Tryz.prog.info? 9).map (fun i => (i.zero, i.size, i.bytes)) = some (some (.string ⟨#[]⟩), 1, 16) := by kernel_rfl
theorem Tryz.undZstring : Tryz.prog.underlying 44 = some (.slice 9) := by kernel_rfl
set_option maxRecDepth 100000 in
set_option maxHeartbeats 2000000 in
theorem mapIS_any (K : Nat) (cap : Array Value) (henter : ∀ args w, Sem.run Tryz.prog (callFunc K args) w = .ok (.enter K args) w) (g : Int → ByteArray) (v : Value) (l : List Int) (w : World) (hl : l.length ≤ 1000000) (hv : Rw 1 nV w v l)
 (hf : ∀ x ∈ l, ∀ w1, Below w.heap.size w w1 → Calls Tryz.prog K (#[.int .i64 x] ++ cap) w1 fun r w2 => r = .returned (.string (g x)) ∧ Below w1.heap.size w1 w2) :
 Calls Tryz.prog 109 #[v, .func (.func K) #[] cap] w fun r w' => (∃ u, r = .returned u ∧ OwR w' w.heap.size 9 1 sV u (l.map g)) ∧ Below w.heap.size w w' := by
 rcases Nat.eq_zero_or_pos l.length with h0 | h0
 ·obtain rfl : l = [] := List.length_eq_zero_iff.1 h0
  obtain ⟨a, cp, rfl, _, _⟩ := hv
  go_enter Tryz.func109, Tryz.ntmps109
  go_wp2
  go_loop [5, 10] (fun v i => v = .slice none 0 0 ∧ i = .int .i64 0) (fun _ _ => 0)
  case atStart => exact ⟨rfl, rfl⟩
  case round =>
   obtain ⟨rfl, rfl⟩ := hrel
   go_wp2
   go_ret
   exact ⟨⟨_, rfl, World.ownsRow_nil _ _ _ _⟩, Below.refl _ _⟩
 ·obtain ⟨b, off, cp, rfl, hcs⟩ := hv.head h0
  clear hv
  obtain ⟨i0, hi, hz0, hz1, hz2⟩ := info_parts Tryz.infZstring
  go_enter Tryz.func109, Tryz.ntmps109
  go_wp2
  go_loopw [5, 10] (fun v i wr => ∃ k : Nat, k ≤ l.length ∧ i = .int .i64 k ∧ wr.ownsRow w.heap.size 9 1 v k (((l.take k).map g).flatMap sV) ∧ Below w.heap.size w wr) (fun _ i _ => l.length - (intOf i).toNat)
  case atStart => exact ⟨0, by omega, rfl, World.ownsRow_nil _ _ _ _, Below.refl _ _⟩
  case round =>
   obtain ⟨k, hk, rfl, hown, hbel⟩ := hrel
   by_cases hlt : k < l.length
   ·obtain ⟨x, hx⟩ : ∃ x, l[k]? = some x := ⟨_, List.getElem?_eq_getElem hlt⟩
    have c0 := rw1 (hcs k x hx) (show nV x = [.int .i64 x] from rfl)
    have c0 := cellb c0 hbel
    have hts := flatMap_take_succ sV g l k x hx
    have hts : ((l.take (k + 1)).map g).flatMap sV = ((l.take k).map g).flatMap sV ++ [.string (g x)] := hts
    have TF := Lib.hid (fun W hE => hf x (List.mem_of_getElem? hx) W hE)
    obtain ⟨y0, hy0⟩ : ∃ y, y = (g x) := ⟨_, rfl⟩
    rw [← hy0] at TF hts
    have HTS := Lib.hid hts
    clear hcs hx hts hy0
    go_wp2_with fail
    refine (TF.out _ hbel).mono ?_
    rintro e w2 ⟨rfl, hb2⟩
    have hbx2 := bthen hbel hb2
    have hown := own_below hown hb2
    clear hb2 hbel c0
    go_wp2_with (at_builtin; refine wpList_append_own _ rfl _ _ 44 rfl w.heap.size 9 i0 (.string ⟨#[]⟩) 1 16 Tryz.undZstring hi hz0 hz1 hz2 rfl (by decide) _ _ _ rfl (own_below hown (below_new _ _)) ⟨w2.heap.size, 0, none⟩ 1 1 [.string y0] rfl rfl (fun j u hj => (Blk.new w2 9 [.string y0]).news j u hj) (by simp [Value.oneCell']) (by unfold maxLen; omega) (by omega) (by have := hbx2.size; simp; omega) ?_; intro v' w1 hown' hgrow _)
    have hbel' : Below w.heap.size w w1 := (bthen hbx2 (below_new w2 (.cells #[.string y0] 9))).trans (below_grow (own_below hown (below_new _ _)) (by have := hbx2.size; simp; omega) hgrow)
    have hown2 : w1.ownsRow w.heap.size 9 1 v' (k + 1) (((l.take (k + 1)).map g).flatMap sV) := by
     rw [HTS.out]; exact hown'
    clear hown hbx2 hown' hgrow
    go_wp2
    go_roundw
    case rel => exact ⟨k + 1, by omega, by go_num, hown2, hbel'⟩
    case measure => simp [intOf]; omega
   ·obtain rfl : k = l.length := by omega
    have hout : OwR wr w.heap.size 9 1 sV u5 (l.map g) := by
     unfold OwR
     rw [List.take_length] at hown
     rw [List.length_map]; exact hown
    clear hown
    go_wp2
    go_ret
    exact ⟨⟨_, rfl, hout⟩, hbel⟩
end Go.Proofs.YtpmngcffkhbofaaGreatDoor

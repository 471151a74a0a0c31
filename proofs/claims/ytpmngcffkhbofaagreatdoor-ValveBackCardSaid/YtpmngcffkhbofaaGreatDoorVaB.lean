/- Package valve: lists of structs; when, within, first, each. (printed by gen/valB.py) -/
import Derived.Test.YtpmngcffkhbofaaGreatDoorVaA
import Derived.Test.YtpmngcffkhbofaaGreatDoorOrdE
namespace Go.Proofs.YtpmngcffkhbofaaGreatDoor
set_option linter.unusedSimpArgs false
set_option linter.unusedVariables false
open Go.RowKit
/-- the slice v holds l: each member in n cells, as f says. -/
def Rw {α : Type} (n : Nat) (f : α → List Value) (w : World) (v : Value) (l : List α) : Prop :=
 ∃ a cap, v = .slice a l.length cap ∧ l.length ≤ cap ∧ (0 < l.length → ∃ b off, a = some ⟨b, off, none⟩ ∧ ∀ (j : Nat) (x : α), l[j]? = some x → ∀ (i : Nat) (u : Value), (f x)[i]? = some u → w.cell? ⟨b, off + j * n + i, none⟩ = some u)
theorem Rw.carry {α : Type} {n : Nat} {f : α → List Value} {w w' : World} {v : Value} {l : List α} (h : Rw n f w v l) (hb : Below w.heap.size w w') : Rw n f w' v l := by
 obtain ⟨a, cap, hv, hc, h⟩ := h
 refine ⟨a, cap, hv, hc, fun hl => ?_⟩
 obtain ⟨b, off, ha, h⟩ := h hl
 exact ⟨b, off, ha, fun j x hj i u hi => cellb (h j x hj i u hi) hb⟩
theorem Rw.head {α : Type} {n : Nat} {f : α → List Value} {w : World} {v : Value} {l : List α} (h : Rw n f w v l) (h0 : 0 < l.length) : ∃ b off cap, v = .slice (some ⟨b, off, none⟩) l.length cap ∧ ∀ (j : Nat) (x : α), l[j]? = some x → ∀ (i : Nat) (u : Value), (f x)[i]? = some u → w.cell? ⟨b, off + j * n + i, none⟩ = some u := by
 obtain ⟨a, cap, rfl, _, hc⟩ := h
 obtain ⟨b, off, rfl, hd⟩ := hc h0
 exact ⟨b, off, cap, rfl, hd⟩
theorem Rw.slice {α : Type} {n : Nat} {f : α → List Value} {w : World} {v : Value} {l : List α} (h : Rw n f w v l) : ∃ a cap, v = .slice a l.length cap ∧ l.length ≤ cap := by
 obtain ⟨a, cap, hv, hc, _⟩ := h
 exact ⟨a, cap, hv, hc⟩
theorem Rw.nil {α : Type} (n : Nat) (f : α → List Value) (w : World) (a : Option Addr) (cap : Nat) : Rw n f w (.slice a 0 cap) [] := ⟨a, cap, rfl, Nat.zero_le _, fun h => by simp at h⟩
theorem flat_len {α : Type} {n : Nat} {f : α → List Value} (hf : ∀ x, (f x).length = n) (l : List α) : (l.flatMap f).length = l.length * n := by
 induction l with
 | nil => simp
 | cons x l ih => rw [List.flatMap_cons, List.length_append, ih, hf, List.length_cons, Nat.add_mul, Nat.one_mul, Nat.add_comm]
theorem flat_get {α : Type} {n : Nat} {f : α → List Value} (hf : ∀ x, (f x).length = n) (l : List α) (j : Nat) (x : α) (hj : l[j]? = some x) (i : Nat) (u : Value) (hi : (f x)[i]? = some u) : (l.flatMap f)[j * n + i]? = some u := by
 induction l generalizing j with
 | nil => simp at hj
 | cons y l ih =>
   rw [List.flatMap_cons]
   cases j with
   | zero =>
     simp at hj; subst hj
     rw [Nat.zero_mul, Nat.zero_add, List.getElem?_append_left (List.getElem?_eq_some_iff.1 hi).1]
     exact hi
   | succ j =>
     have := ih j (by simpa using hj)
     rw [List.getElem?_append_right (by rw [hf, Nat.add_mul]; omega), hf]
     rw [show (j + 1) * n + i - n = j * n + i by rw [Nat.add_mul]; omega]
     exact this
theorem Rw.of_own {α : Type} {n : Nat} {f : α → List Value} (hf : ∀ x, (f x).length = n) {w : World} {base : Nat} {e : TypeId} {v : Value} {m : Nat} {l : List α} (h : w.ownsRow base e n v m (l.flatMap f)) (hm : m = l.length) : Rw n f w v l := by
 subst hm
 rcases h.2 with ⟨hv, hn⟩ | ⟨g, cap, cur, hv, _, hg, hc, _, hcs, ht⟩
 ·exact ⟨none, 0, by rw [hv, hn], by omega, fun h0 => by omega⟩
 ·refine ⟨some ⟨g, 0, none⟩, cap, hv, hc, fun _ => ⟨g, 0, rfl, fun j x hj i u hi => ?_⟩⟩
  have hk := flat_get hf l j x hj i u hi
  have hlt : j * n + i < l.length * n := by
   have := (List.getElem?_eq_some_iff.1 hk).1
   rwa [flat_len hf] at this
  have e := congrArg (fun x : List Value => x[j * n + i]?) ht
  simp only [List.getElem?_take] at e
  rw [if_pos hlt, hk] at e
  have : cur[j * n + i]? = some u := by rw [← Array.getElem?_toList]; exact e
  rw [Nat.zero_add]
  simp [World.cell?, hg, this]
/-- a block of the call's own, as a slice. -/
theorem Rw.of_blk {α : Type} {n : Nat} {f : α → List Value} (hf : ∀ x, (f x).length = n) {w : World} {B : Nat} {T : TypeId} {l : List α} (h : Blk w B T (l.flatMap f)) (m c : Nat) (hm : m = l.length) (hc : m ≤ c) : Rw n f w (.slice (some ⟨B, 0, none⟩) m c) l := by
 subst hm
 refine ⟨_, _, rfl, hc, fun _ => ⟨B, 0, rfl, fun j x hj i u hi => ?_⟩⟩
 rw [Nat.zero_add]
 exact h.cell (flat_get hf l j x hj i u hi)
theorem Rw.take {α : Type} {n : Nat} {f : α → List Value} {w : World} {b off cap : Nat} {l : List α} (h : Rw n f w (.slice (some ⟨b, off, none⟩) l.length cap) l) (k : Nat) (hk : k ≤ l.length) : Rw n f w (.slice (some ⟨b, off, none⟩) k cap) (l.take k) := by
 obtain ⟨a, c, e, hc, h⟩ := h
 simp only [Value.slice.injEq] at e
 obtain ⟨rfl, _, rfl⟩ := e
 have hlen : (l.take k).length = k := by rw [List.length_take]; omega
 refine ⟨some ⟨b, off, none⟩, cap, by rw [hlen], by omega, fun h0 => ?_⟩
 obtain ⟨b', off', e, h⟩ := h (by omega)
 simp only [Option.some.injEq, Addr.mk.injEq] at e
 obtain ⟨rfl, rfl, _⟩ := e
 refine ⟨b, off, rfl, fun j x hj i u hi => h j x ?_ i u hi⟩
 rw [List.getElem?_take] at hj
 split at hj
 ·exact hj
 ·cases hj
theorem Rw.drop {α : Type} {n : Nat} {f : α → List Value} {w : World} {b off cap : Nat} {l : List α} (h : Rw n f w (.slice (some ⟨b, off, none⟩) l.length cap) l) (k : Nat) (hk : k ≤ l.length) : Rw n f w (.slice (some ⟨b, off + k * n, none⟩) (l.length - k) (cap - k)) (l.drop k) := by
 obtain ⟨a, c, e, hc, h⟩ := h
 simp only [Value.slice.injEq] at e
 obtain ⟨rfl, _, rfl⟩ := e
 refine ⟨some ⟨b, off + k * n, none⟩, cap - k, by rw [List.length_drop], by rw [List.length_drop]; omega, fun h0 => ?_⟩
 rw [List.length_drop] at h0
 obtain ⟨b', off', e, h⟩ := h (by omega)
 simp only [Option.some.injEq, Addr.mk.injEq] at e
 obtain ⟨rfl, rfl, _⟩ := e
 refine ⟨b, off + k * n, rfl, fun j x hj i u hi => ?_⟩
 rw [List.getElem?_drop] at hj
 have := h (k + j) x hj i u hi
 rwa [show off + (k + j) * n + i = off + k * n + j * n + i by rw [Nat.add_mul]; omega] at this
theorem rw1 {α : Type} {f : α → List Value} {w : World} {b off : Nat} {j : Nat} {x : α} (h : ∀ (i : Nat) (u : Value), (f x)[i]? = some u → w.cell? ⟨b, off + j * 1 + i, none⟩ = some u) {u0 : Value} (hx : f x = [u0]) : w.cell? ⟨b, off + j, none⟩ = some u0 := by
 have := h 0 u0 (by rw [hx]; rfl)
 rwa [Nat.mul_one, Nat.add_zero] at this
theorem rw2 {α : Type} {n : Nat} {f : α → List Value} {w : World} {b off : Nat} {j : Nat} {x : α} (h : ∀ (i : Nat) (u : Value), (f x)[i]? = some u → w.cell? ⟨b, off + j * n + i, none⟩ = some u) {u0 u1 : Value} (hx : f x = [u0, u1]) : w.cell? ⟨b, off + j * n, none⟩ = some u0 ∧ w.cell? ⟨b, off + j * n + 1, none⟩ = some u1 :=
 ⟨h 0 u0 (by rw [hx]; rfl), h 1 u1 (by rw [hx]; rfl)⟩
theorem rw3 {α : Type} {n : Nat} {f : α → List Value} {w : World} {b off : Nat} {j : Nat} {x : α} (h : ∀ (i : Nat) (u : Value), (f x)[i]? = some u → w.cell? ⟨b, off + j * n + i, none⟩ = some u) {u0 u1 u2 : Value} (hx : f x = [u0, u1, u2]) : w.cell? ⟨b, off + j * n, none⟩ = some u0 ∧ w.cell? ⟨b, off + j * n + 1, none⟩ = some u1 ∧ w.cell? ⟨b, off + j * n + 2, none⟩ = some u2 :=
 ⟨h 0 u0 (by rw [hx]; rfl), h 1 u1 (by rw [hx]; rfl), h 2 u2 (by rw [hx]; rfl)⟩
theorem rw4 {α : Type} {n : Nat} {f : α → List Value} {w : World} {b off : Nat} {j : Nat} {x : α} (h : ∀ (i : Nat) (u : Value), (f x)[i]? = some u → w.cell? ⟨b, off + j * n + i, none⟩ = some u) {u0 u1 u2 u3 : Value} (hx : f x = [u0, u1, u2, u3]) : w.cell? ⟨b, off + j * n, none⟩ = some u0 ∧ w.cell? ⟨b, off + j * n + 1, none⟩ = some u1 ∧ w.cell? ⟨b, off + j * n + 2, none⟩ = some u2 ∧ w.cell? ⟨b, off + j * n + 3, none⟩ = some u3 :=
 ⟨h 0 u0 (by rw [hx]; rfl), h 1 u1 (by rw [hx]; rfl), h 2 u2 (by rw [hx]; rfl), h 3 u3 (by rw [hx]; rfl)⟩
/-- two integers, three integers, in cells. -/
abbrev P2 : Type := Int × Int
abbrev I3 : Type := Int × Int × Int
def pV (x : P2) : List Value := [.int .i64 x.1, .int .i64 x.2]
def iV (x : I3) : List Value := [.int .i64 x.1, .int .i64 x.2.1, .int .i64 x.2.2]
theorem pV_len (x : P2) : (pV x).length = 2 := rfl
theorem iV_len (x : I3) : (iV x).length = 3 := rfl
/-- a log as it lies: its controller, its train's slice. -/
abbrev LgV : Type := Int × Option Addr × Nat × Nat
def lV (x : LgV) : List Value := [.int .i64 x.1, .slice x.2.1 x.2.2.1 x.2.2.2]
theorem lV_len (x : LgV) : (lV x).length = 2 := rfl
/-- a module: its name, three integers. -/
abbrev Mo : Type := ByteArray × Int × Int × Int
def mV (x : Mo) : List Value := [.string x.1, .int .i64 x.2.1, .int .i64 x.2.2.1, .int .i64 x.2.2.2]
theorem mV_len (x : Mo) : (mV x).length = 4 := rfl
abbrev Prs (w : World) (v : Value) (l : List P2) : Prop := Rw 2 pV w v l
set_option maxHeartbeats 400000 in
theorem when_any (c : Bool) (e : Int) (w : World) :
 Calls Tryz.prog 47 #[.bool c, .int .i64 e] w fun r w' => r = .returned (.int .i64 (whenE c e)) ∧ w = w' := by
 cases c
 all_goals
  go_enter Tryz.func47, Tryz.ntmps47
  go_wp2
  go_ret
  exact ⟨rfl, rfl⟩
set_option maxHeartbeats 400000 in
theorem within_any (n lo hi : Int) (w : World) :
 Calls Tryz.prog 59 #[.int .i64 n, .int .i64 lo, .int .i64 hi] w fun r w' => r = .returned (.int .i64 (withinE n lo hi)) ∧ w = w' := by
 by_cases h1 : n < lo
 ·go_enter Tryz.func59, Tryz.ntmps59
  go_wp2_with fail
  refine (when_any _ _ _).mono ?_
  rintro e w' ⟨rfl, rfl⟩
  go_wp2_with fail
  go_ret
  exact ⟨by simp [whenE, withinE, h1], rfl⟩
 ·by_cases h2 : hi < n
  all_goals
   go_enter Tryz.func59, Tryz.ntmps59
   go_wp2_with fail
   refine (when_any _ _ _).mono ?_
   rintro e w' ⟨rfl, rfl⟩
   go_wp2_with fail
   go_ret
   exact ⟨by simp [whenE, withinE, h1, h2], rfl⟩
set_option maxHeartbeats 400000 in
theorem first_any (v : Value) (l : List Int) (w : World) (hl : l.length ≤ maxLen) (hv : Ints w v l) :
 Calls Tryz.prog 46 #[v] w fun r w' => r = .returned (.int .i64 (firstE l)) ∧ w = w' := by
 unfold maxLen at hl
 obtain ⟨a, cap, rfl, hc, hv⟩ := hv
 rcases Nat.eq_zero_or_pos l.length with h0 | h0
 ·obtain rfl : l = [] := List.length_eq_zero_iff.1 h0
  go_enter Tryz.func46, Tryz.ntmps46
  go_wp2
  go_loop [7] (fun i => i = .int .i64 0) (fun _ => 0)
  case atStart => rfl
  case round =>
   obtain rfl := hrel
   go_wp2
   go_ret
   exact ⟨rfl, rfl⟩
 ·obtain ⟨b, off, rfl, hcs⟩ := hv h0
  clear hv
  go_enter Tryz.func46, Tryz.ntmps46
  go_wp2
  go_loop [7] (fun i => ∃ k : Nat, k ≤ l.length ∧ i = .int .i64 k ∧ firstE (l.take k) = 0) (fun i => l.length - (intOf i).toNat)
  case atStart => exact ⟨0, by omega, rfl, rfl⟩
  case round =>
   obtain ⟨k, hk, rfl, hf⟩ := hrel
   by_cases hlt : k < l.length
   ·have hcell := hcs k hlt
    have hs := firstE_take_succ l k hlt hf
    clear hcs
    generalize l[k]?.getD 0 = x at hcell hs
    have HS := Lib.hid hs
    clear hs hf
    by_cases hz : x = 0
    ·go_wp2
     go_round
     case rel => exact ⟨k + 1, by omega, by go_num, by rw [HS.out]; exact hz⟩
     case measure => simp [intOf]; omega
    ·go_wp2
     go_ret
     exact ⟨ret_int (by rw [firstE_of_take l (k+1) (by rw [HS.out]; exact hz), HS.out]), rfl⟩
   ·have HF := Lib.hid hf
    clear hf
    go_wp2
    go_ret
    have h := HF.out
    rw [List.take_of_length_le (by omega)] at h
    exact ⟨ret_int h.symm, rfl⟩
/-- the first error of the members of a list. -/
def eachE {α : Type} (g : Nat → α → Int) (l : List α) : Int := firstE (l.mapIdx g)
theorem eachE_step {α : Type} {g : Nat → α → Int} {l : List α} {k : Nat} {x : α} (hx : l[k]? = some x) (h : firstE ((l.mapIdx g).take k) = 0) : firstE ((l.mapIdx g).take (k + 1)) = g k x := by
 have hlt : k < l.length := (List.getElem?_eq_some_iff.1 hx).1
 rw [firstE_take_succ _ k (by rw [List.length_mapIdx]; exact hlt) h, List.getElem?_mapIdx, hx]; rfl
theorem eachE_stop {α : Type} {g : Nat → α → Int} {l : List α} {k : Nat} {x : α} (hx : l[k]? = some x) (h : firstE ((l.mapIdx g).take k) = 0) (hne : g k x ≠ 0) : eachE g l = g k x := by
 have hs := eachE_step hx h
 unfold eachE
 rw [firstE_of_take _ (k + 1) (by rw [hs]; exact hne), hs]
theorem eachE_end {α : Type} {g : Nat → α → Int} {l : List α} (h : firstE ((l.mapIdx g).take l.length) = 0) : eachE g l = 0 := by
 unfold eachE
 rwa [List.take_of_length_le (by rw [List.length_mapIdx]; exact Nat.le_refl _)] at h
set_option maxRecDepth 100000 in
set_option maxHeartbeats 1000000 in
theorem eachP_any (K : Nat) (cap : Array Value) (henter : ∀ args w, Sem.run Tryz.prog (callFunc K args) w = .ok (.enter K args) w) (g : Nat → P2 → Int) (St : Nat → World → Prop) (base : Nat) (v : Value) (l : List P2) (w : World) (hl : l.length ≤ 1000000000) (hb : base ≤ w.heap.size) (hv : ∀ w1, Below base w w1 → Rw 2 pV w1 v l)
 (hS0 : St 0 w) (hSt : ∀ k w1 w2, St k w1 → Below w1.heap.size w1 w2 → St k w2)
 (hf : ∀ (k : Nat) x, l[k]? = some x → ∀ w1, Below base w w1 → St k w1 → Calls Tryz.prog K (#[.int .i64 k, .agg #[.int .i64 x.1, .int .i64 x.2]] ++ cap) w1 fun r w2 => r = .returned (.int .i64 (g k x)) ∧ Below base w1 w2 ∧ (g k x = 0 → St (k + 1) w2)) :
 Calls Tryz.prog 128 #[v, .func (.func K) #[] cap] w fun r w' => r = .returned (.int .i64 (eachE g l)) ∧ Below base w w' := by
 rcases Nat.eq_zero_or_pos l.length with h0 | h0
 ·obtain rfl : l = [] := List.length_eq_zero_iff.1 h0
  have hv0 := hv w (Below.refl _ _)
  obtain ⟨a, cp, rfl, _, _⟩ := hv0
  go_enter Tryz.func128, Tryz.ntmps128
  go_wp2
  go_loop [10] (fun i => i = .int .i64 0) (fun _ => 0)
  case atStart => rfl
  case round =>
   obtain rfl := hrel
   go_wp2
   go_ret
   exact ⟨rfl, Below.refl _ _⟩
 ·obtain ⟨b, off, cp, rfl, _⟩ := (hv w (Below.refl _ _)).head h0
  have HV := Lib.hid hv
  clear hv
  go_enter Tryz.func128, Tryz.ntmps128
  go_wp2
  go_loopw [10] (fun i wr => ∃ k : Nat, k ≤ l.length ∧ i = .int .i64 k ∧ firstE ((l.mapIdx g).take k) = 0 ∧ St k wr ∧ Below base w wr) (fun i _ => l.length - (intOf i).toNat)
  case atStart => exact ⟨0, by omega, rfl, rfl, hS0, Below.refl _ _⟩
  case round =>
   clear hS0
   obtain ⟨k, hk, rfl, hf0, hst, hbel⟩ := hrel
   have HF := Lib.hid hf0
   clear hf0
   by_cases hlt : k < l.length
   ·obtain ⟨x, hx⟩ : ∃ x, l[k]? = some x := ⟨_, List.getElem?_eq_getElem hlt⟩
    obtain ⟨b', off', cp', he, hcs⟩ := (HV.out wr hbel).head h0
    simp only [Value.slice.injEq, Option.some.injEq, Addr.mk.injEq] at he
    obtain ⟨⟨rfl, rfl, -⟩, -, rfl⟩ := he
    obtain ⟨c0, c1⟩ := rw2 (hcs k x hx) (show pV x = [.int .i64 x.1, .int .i64 x.2] from rfl)
    have HX := Lib.hid hx
    have HST := Lib.hid hst
    have hwr := hbel.size
    have hwr2 : base ≤ wr.heap.size := Nat.le_trans hb hwr
    have TG := Lib.hid (fun W (hE : Below wr.heap.size wr W) => hf k x hx W (hbel.trans (hE.mono hwr2)) (hSt _ _ _ hst hE))
    clear hcs hx hst
    go_wp2_with fail
    have hnew := below_new wr (Obj.cells #[Value.int IntKind.i64 x.1, Value.int IntKind.i64 x.2] 104)
    refine (TG.out _ hnew).mono ?_
    rintro e w2 ⟨rfl, hb2, hst2⟩
    have hbel2 := (hbel.trans (hnew.mono hwr2)).trans hb2
    clear hnew
    clear hb2 hbel c0 c1
    obtain ⟨gx, hgx⟩ : ∃ gx, gx = g k x := ⟨_, rfl⟩
    rw [← hgx] at hst2 ⊢
    have HGX := Lib.hid hgx
    clear hgx
    by_cases hz : gx = 0
    ·have hst3 := hst2 hz
     go_wp2
     go_roundw
     case rel => exact ⟨k + 1, by omega, by go_num, by rw [eachE_step HX.out HF.out, ← HGX.out]; exact hz, hst3, hbel2⟩
     case measure => simp [intOf]; omega
    ·go_wp2
     go_ret
     exact ⟨ret_int (by rw [eachE_stop HX.out HF.out (by rw [← HGX.out]; exact hz), ← HGX.out]), hbel2⟩
   ·obtain rfl : k = l.length := by omega
    go_wp2
    go_ret
    exact ⟨ret_int (eachE_end HF.out).symm, hbel⟩
set_option maxRecDepth 100000 in
set_option maxHeartbeats 1000000 in
theorem eachA_any (K : Nat) (cap : Array Value) (henter : ∀ args w, Sem.run Tryz.prog (callFunc K args) w = .ok (.enter K args) w) (g : Nat → P2 → Int) (St : Nat → World → Prop) (base : Nat) (v : Value) (l : List P2) (w : World) (hl : l.length ≤ 1000000000) (hb : base ≤ w.heap.size) (hv : ∀ w1, Below base w w1 → Rw 2 pV w1 v l)
 (hS0 : St 0 w) (hSt : ∀ k w1 w2, St k w1 → Below w1.heap.size w1 w2 → St k w2)
 (hf : ∀ (k : Nat) x, l[k]? = some x → ∀ w1, Below base w w1 → St k w1 → Calls Tryz.prog K (#[.int .i64 k, .agg #[.int .i64 x.1, .int .i64 x.2]] ++ cap) w1 fun r w2 => r = .returned (.int .i64 (g k x)) ∧ Below base w1 w2 ∧ (g k x = 0 → St (k + 1) w2)) :
 Calls Tryz.prog 72 #[v, .func (.func K) #[] cap] w fun r w' => r = .returned (.int .i64 (eachE g l)) ∧ Below base w w' := by
 rcases Nat.eq_zero_or_pos l.length with h0 | h0
 ·obtain rfl : l = [] := List.length_eq_zero_iff.1 h0
  have hv0 := hv w (Below.refl _ _)
  obtain ⟨a, cp, rfl, _, _⟩ := hv0
  go_enter Tryz.func72, Tryz.ntmps72
  go_wp2
  go_loop [10] (fun i => i = .int .i64 0) (fun _ => 0)
  case atStart => rfl
  case round =>
   obtain rfl := hrel
   go_wp2
   go_ret
   exact ⟨rfl, Below.refl _ _⟩
 ·obtain ⟨b, off, cp, rfl, _⟩ := (hv w (Below.refl _ _)).head h0
  have HV := Lib.hid hv
  clear hv
  go_enter Tryz.func72, Tryz.ntmps72
  go_wp2
  go_loopw [10] (fun i wr => ∃ k : Nat, k ≤ l.length ∧ i = .int .i64 k ∧ firstE ((l.mapIdx g).take k) = 0 ∧ St k wr ∧ Below base w wr) (fun i _ => l.length - (intOf i).toNat)
  case atStart => exact ⟨0, by omega, rfl, rfl, hS0, Below.refl _ _⟩
  case round =>
   clear hS0
   obtain ⟨k, hk, rfl, hf0, hst, hbel⟩ := hrel
   have HF := Lib.hid hf0
   clear hf0
   by_cases hlt : k < l.length
   ·obtain ⟨x, hx⟩ : ∃ x, l[k]? = some x := ⟨_, List.getElem?_eq_getElem hlt⟩
    obtain ⟨b', off', cp', he, hcs⟩ := (HV.out wr hbel).head h0
    simp only [Value.slice.injEq, Option.some.injEq, Addr.mk.injEq] at he
    obtain ⟨⟨rfl, rfl, -⟩, -, rfl⟩ := he
    obtain ⟨c0, c1⟩ := rw2 (hcs k x hx) (show pV x = [.int .i64 x.1, .int .i64 x.2] from rfl)
    have HX := Lib.hid hx
    have HST := Lib.hid hst
    have hwr := hbel.size
    have hwr2 : base ≤ wr.heap.size := Nat.le_trans hb hwr
    have TG := Lib.hid (fun W (hE : Below wr.heap.size wr W) => hf k x hx W (hbel.trans (hE.mono hwr2)) (hSt _ _ _ hst hE))
    clear hcs hx hst
    go_wp2_with fail
    have hnew := below_new wr (Obj.cells #[Value.int IntKind.i64 x.1, Value.int IntKind.i64 x.2] 73)
    refine (TG.out _ hnew).mono ?_
    rintro e w2 ⟨rfl, hb2, hst2⟩
    have hbel2 := (hbel.trans (hnew.mono hwr2)).trans hb2
    clear hnew
    clear hb2 hbel c0 c1
    obtain ⟨gx, hgx⟩ : ∃ gx, gx = g k x := ⟨_, rfl⟩
    rw [← hgx] at hst2 ⊢
    have HGX := Lib.hid hgx
    clear hgx
    by_cases hz : gx = 0
    ·have hst3 := hst2 hz
     go_wp2
     go_roundw
     case rel => exact ⟨k + 1, by omega, by go_num, by rw [eachE_step HX.out HF.out, ← HGX.out]; exact hz, hst3, hbel2⟩
     case measure => simp [intOf]; omega
    ·go_wp2
     go_ret
     exact ⟨ret_int (by rw [eachE_stop HX.out HF.out (by rw [← HGX.out]; exact hz), ← HGX.out]), hbel2⟩
   ·obtain rfl : k = l.length := by omega
    go_wp2
    go_ret
    exact ⟨ret_int (eachE_end HF.out).symm, hbel⟩
set_option maxRecDepth 100000 in
set_option maxHeartbeats 1000000 in
theorem eachD_any (K : Nat) (cap : Array Value) (henter : ∀ args w, Sem.run Tryz.prog (callFunc K args) w = .ok (.enter K args) w) (g : Nat → P2 → Int) (St : Nat → World → Prop) (base : Nat) (v : Value) (l : List P2) (w : World) (hl : l.length ≤ 1000000000) (hb : base ≤ w.heap.size) (hv : ∀ w1, Below base w w1 → Rw 2 pV w1 v l)
 (hS0 : St 0 w) (hSt : ∀ k w1 w2, St k w1 → Below w1.heap.size w1 w2 → St k w2)
 (hf : ∀ (k : Nat) x, l[k]? = some x → ∀ w1, Below base w w1 → St k w1 → Calls Tryz.prog K (#[.int .i64 k, .agg #[.int .i64 x.1, .int .i64 x.2]] ++ cap) w1 fun r w2 => r = .returned (.int .i64 (g k x)) ∧ Below base w1 w2 ∧ (g k x = 0 → St (k + 1) w2)) :
 Calls Tryz.prog 101 #[v, .func (.func K) #[] cap] w fun r w' => r = .returned (.int .i64 (eachE g l)) ∧ Below base w w' := by
 rcases Nat.eq_zero_or_pos l.length with h0 | h0
 ·obtain rfl : l = [] := List.length_eq_zero_iff.1 h0
  have hv0 := hv w (Below.refl _ _)
  obtain ⟨a, cp, rfl, _, _⟩ := hv0
  go_enter Tryz.func101, Tryz.ntmps101
  go_wp2
  go_loop [10] (fun i => i = .int .i64 0) (fun _ => 0)
  case atStart => rfl
  case round =>
   obtain rfl := hrel
   go_wp2
   go_ret
   exact ⟨rfl, Below.refl _ _⟩
 ·obtain ⟨b, off, cp, rfl, _⟩ := (hv w (Below.refl _ _)).head h0
  have HV := Lib.hid hv
  clear hv
  go_enter Tryz.func101, Tryz.ntmps101
  go_wp2
  go_loopw [10] (fun i wr => ∃ k : Nat, k ≤ l.length ∧ i = .int .i64 k ∧ firstE ((l.mapIdx g).take k) = 0 ∧ St k wr ∧ Below base w wr) (fun i _ => l.length - (intOf i).toNat)
  case atStart => exact ⟨0, by omega, rfl, rfl, hS0, Below.refl _ _⟩
  case round =>
   clear hS0
   obtain ⟨k, hk, rfl, hf0, hst, hbel⟩ := hrel
   have HF := Lib.hid hf0
   clear hf0
   by_cases hlt : k < l.length
   ·obtain ⟨x, hx⟩ : ∃ x, l[k]? = some x := ⟨_, List.getElem?_eq_getElem hlt⟩
    obtain ⟨b', off', cp', he, hcs⟩ := (HV.out wr hbel).head h0
    simp only [Value.slice.injEq, Option.some.injEq, Addr.mk.injEq] at he
    obtain ⟨⟨rfl, rfl, -⟩, -, rfl⟩ := he
    obtain ⟨c0, c1⟩ := rw2 (hcs k x hx) (show pV x = [.int .i64 x.1, .int .i64 x.2] from rfl)
    have HX := Lib.hid hx
    have HST := Lib.hid hst
    have hwr := hbel.size
    have hwr2 : base ≤ wr.heap.size := Nat.le_trans hb hwr
    have TG := Lib.hid (fun W (hE : Below wr.heap.size wr W) => hf k x hx W (hbel.trans (hE.mono hwr2)) (hSt _ _ _ hst hE))
    clear hcs hx hst
    go_wp2_with fail
    have hnew := below_new wr (Obj.cells #[Value.int IntKind.i64 x.1, Value.int IntKind.i64 x.2] 95)
    refine (TG.out _ hnew).mono ?_
    rintro e w2 ⟨rfl, hb2, hst2⟩
    have hbel2 := (hbel.trans (hnew.mono hwr2)).trans hb2
    clear hnew
    clear hb2 hbel c0 c1
    obtain ⟨gx, hgx⟩ : ∃ gx, gx = g k x := ⟨_, rfl⟩
    rw [← hgx] at hst2 ⊢
    have HGX := Lib.hid hgx
    clear hgx
    by_cases hz : gx = 0
    ·have hst3 := hst2 hz
     go_wp2
     go_roundw
     case rel => exact ⟨k + 1, by omega, by go_num, by rw [eachE_step HX.out HF.out, ← HGX.out]; exact hz, hst3, hbel2⟩
     case measure => simp [intOf]; omega
    ·go_wp2
     go_ret
     exact ⟨ret_int (by rw [eachE_stop HX.out HF.out (by rw [← HGX.out]; exact hz), ← HGX.out]), hbel2⟩
   ·obtain rfl : k = l.length := by omega
    go_wp2
    go_ret
    exact ⟨ret_int (eachE_end HF.out).symm, hbel⟩
set_option maxRecDepth 100000 in
set_option maxHeartbeats 1000000 in
theorem eachO_any (K : Nat) (cap : Array Value) (henter : ∀ args w, Sem.run Tryz.prog (callFunc K args) w = .ok (.enter K args) w) (g : Nat → I3 → Int) (St : Nat → World → Prop) (base : Nat) (v : Value) (l : List I3) (w : World) (hl : l.length ≤ 1000000000) (hb : base ≤ w.heap.size) (hv : ∀ w1, Below base w w1 → Rw 3 iV w1 v l)
 (hS0 : St 0 w) (hSt : ∀ k w1 w2, St k w1 → Below w1.heap.size w1 w2 → St k w2)
 (hf : ∀ (k : Nat) x, l[k]? = some x → ∀ w1, Below base w w1 → St k w1 → Calls Tryz.prog K (#[.int .i64 k, .agg #[.int .i64 x.1, .int .i64 x.2.1, .int .i64 x.2.2]] ++ cap) w1 fun r w2 => r = .returned (.int .i64 (g k x)) ∧ Below base w1 w2 ∧ (g k x = 0 → St (k + 1) w2)) :
 Calls Tryz.prog 184 #[v, .func (.func K) #[] cap] w fun r w' => r = .returned (.int .i64 (eachE g l)) ∧ Below base w w' := by
 rcases Nat.eq_zero_or_pos l.length with h0 | h0
 ·obtain rfl : l = [] := List.length_eq_zero_iff.1 h0
  have hv0 := hv w (Below.refl _ _)
  obtain ⟨a, cp, rfl, _, _⟩ := hv0
  go_enter Tryz.func184, Tryz.ntmps184
  go_wp2
  go_loop [10] (fun i => i = .int .i64 0) (fun _ => 0)
  case atStart => rfl
  case round =>
   obtain rfl := hrel
   go_wp2
   go_ret
   exact ⟨rfl, Below.refl _ _⟩
 ·obtain ⟨b, off, cp, rfl, _⟩ := (hv w (Below.refl _ _)).head h0
  have HV := Lib.hid hv
  clear hv
  go_enter Tryz.func184, Tryz.ntmps184
  go_wp2
  go_loopw [10] (fun i wr => ∃ k : Nat, k ≤ l.length ∧ i = .int .i64 k ∧ firstE ((l.mapIdx g).take k) = 0 ∧ St k wr ∧ Below base w wr) (fun i _ => l.length - (intOf i).toNat)
  case atStart => exact ⟨0, by omega, rfl, rfl, hS0, Below.refl _ _⟩
  case round =>
   clear hS0
   obtain ⟨k, hk, rfl, hf0, hst, hbel⟩ := hrel
   have HF := Lib.hid hf0
   clear hf0
   by_cases hlt : k < l.length
   ·obtain ⟨x, hx⟩ : ∃ x, l[k]? = some x := ⟨_, List.getElem?_eq_getElem hlt⟩
    obtain ⟨b', off', cp', he, hcs⟩ := (HV.out wr hbel).head h0
    simp only [Value.slice.injEq, Option.some.injEq, Addr.mk.injEq] at he
    obtain ⟨⟨rfl, rfl, -⟩, -, rfl⟩ := he
    obtain ⟨c0, c1, c2⟩ := rw3 (hcs k x hx) (show iV x = [.int .i64 x.1, .int .i64 x.2.1, .int .i64 x.2.2] from rfl)
    have HX := Lib.hid hx
    have HST := Lib.hid hst
    have hwr := hbel.size
    have hwr2 : base ≤ wr.heap.size := Nat.le_trans hb hwr
    have TG := Lib.hid (fun W (hE : Below wr.heap.size wr W) => hf k x hx W (hbel.trans (hE.mono hwr2)) (hSt _ _ _ hst hE))
    clear hcs hx hst
    go_wp2_with fail
    have hnew := below_new wr (Obj.cells #[Value.int IntKind.i64 x.1, Value.int IntKind.i64 x.2.1, Value.int IntKind.i64 x.2.2] 165)
    refine (TG.out _ hnew).mono ?_
    rintro e w2 ⟨rfl, hb2, hst2⟩
    have hbel2 := (hbel.trans (hnew.mono hwr2)).trans hb2
    clear hnew
    clear hb2 hbel c0 c1 c2
    obtain ⟨gx, hgx⟩ : ∃ gx, gx = g k x := ⟨_, rfl⟩
    rw [← hgx] at hst2 ⊢
    have HGX := Lib.hid hgx
    clear hgx
    by_cases hz : gx = 0
    ·have hst3 := hst2 hz
     go_wp2
     go_roundw
     case rel => exact ⟨k + 1, by omega, by go_num, by rw [eachE_step HX.out HF.out, ← HGX.out]; exact hz, hst3, hbel2⟩
     case measure => simp [intOf]; omega
    ·go_wp2
     go_ret
     exact ⟨ret_int (by rw [eachE_stop HX.out HF.out (by rw [← HGX.out]; exact hz), ← HGX.out]), hbel2⟩
   ·obtain rfl : k = l.length := by omega
    go_wp2
    go_ret
    exact ⟨ret_int (eachE_end HF.out).symm, hbel⟩
set_option maxRecDepth 100000 in
set_option maxHeartbeats 1000000 in
theorem eachL_any (K : Nat) (cap : Array Value) (henter : ∀ args w, Sem.run Tryz.prog (callFunc K args) w = .ok (.enter K args) w) (g : Nat → LgV → Int) (St : Nat → World → Prop) (base : Nat) (v : Value) (l : List LgV) (w : World) (hl : l.length ≤ 1000000000) (hb : base ≤ w.heap.size) (hv : ∀ w1, Below base w w1 → Rw 2 lV w1 v l)
 (hS0 : St 0 w) (hSt : ∀ k w1 w2, St k w1 → Below w1.heap.size w1 w2 → St k w2)
 (hf : ∀ (k : Nat) x, l[k]? = some x → ∀ w1, Below base w w1 → St k w1 → Calls Tryz.prog K (#[.int .i64 k, .agg #[.int .i64 x.1, .slice x.2.1 x.2.2.1 x.2.2.2]] ++ cap) w1 fun r w2 => r = .returned (.int .i64 (g k x)) ∧ Below base w1 w2 ∧ (g k x = 0 → St (k + 1) w2)) :
 Calls Tryz.prog 132 #[v, .func (.func K) #[] cap] w fun r w' => r = .returned (.int .i64 (eachE g l)) ∧ Below base w w' := by
 rcases Nat.eq_zero_or_pos l.length with h0 | h0
 ·obtain rfl : l = [] := List.length_eq_zero_iff.1 h0
  have hv0 := hv w (Below.refl _ _)
  obtain ⟨a, cp, rfl, _, _⟩ := hv0
  go_enter Tryz.func132, Tryz.ntmps132
  go_wp2
  go_loop [10] (fun i => i = .int .i64 0) (fun _ => 0)
  case atStart => rfl
  case round =>
   obtain rfl := hrel
   go_wp2
   go_ret
   exact ⟨rfl, Below.refl _ _⟩
 ·obtain ⟨b, off, cp, rfl, _⟩ := (hv w (Below.refl _ _)).head h0
  have HV := Lib.hid hv
  clear hv
  go_enter Tryz.func132, Tryz.ntmps132
  go_wp2
  go_loopw [10] (fun i wr => ∃ k : Nat, k ≤ l.length ∧ i = .int .i64 k ∧ firstE ((l.mapIdx g).take k) = 0 ∧ St k wr ∧ Below base w wr) (fun i _ => l.length - (intOf i).toNat)
  case atStart => exact ⟨0, by omega, rfl, rfl, hS0, Below.refl _ _⟩
  case round =>
   clear hS0
   obtain ⟨k, hk, rfl, hf0, hst, hbel⟩ := hrel
   have HF := Lib.hid hf0
   clear hf0
   by_cases hlt : k < l.length
   ·obtain ⟨x, hx⟩ : ∃ x, l[k]? = some x := ⟨_, List.getElem?_eq_getElem hlt⟩
    obtain ⟨b', off', cp', he, hcs⟩ := (HV.out wr hbel).head h0
    simp only [Value.slice.injEq, Option.some.injEq, Addr.mk.injEq] at he
    obtain ⟨⟨rfl, rfl, -⟩, -, rfl⟩ := he
    obtain ⟨c0, c1⟩ := rw2 (hcs k x hx) (show lV x = [.int .i64 x.1, .slice x.2.1 x.2.2.1 x.2.2.2] from rfl)
    have HX := Lib.hid hx
    have HST := Lib.hid hst
    have hwr := hbel.size
    have hwr2 : base ≤ wr.heap.size := Nat.le_trans hb hwr
    have TG := Lib.hid (fun W (hE : Below wr.heap.size wr W) => hf k x hx W (hbel.trans (hE.mono hwr2)) (hSt _ _ _ hst hE))
    clear hcs hx hst
    go_wp2_with fail
    have hnew := below_new wr (Obj.cells #[Value.int IntKind.i64 x.1, Value.slice x.2.1 x.2.2.1 x.2.2.2] 32)
    refine (TG.out _ hnew).mono ?_
    rintro e w2 ⟨rfl, hb2, hst2⟩
    have hbel2 := (hbel.trans (hnew.mono hwr2)).trans hb2
    clear hnew
    clear hb2 hbel c0 c1
    obtain ⟨gx, hgx⟩ : ∃ gx, gx = g k x := ⟨_, rfl⟩
    rw [← hgx] at hst2 ⊢
    have HGX := Lib.hid hgx
    clear hgx
    by_cases hz : gx = 0
    ·have hst3 := hst2 hz
     go_wp2
     go_roundw
     case rel => exact ⟨k + 1, by omega, by go_num, by rw [eachE_step HX.out HF.out, ← HGX.out]; exact hz, hst3, hbel2⟩
     case measure => simp [intOf]; omega
    ·go_wp2
     go_ret
     exact ⟨ret_int (by rw [eachE_stop HX.out HF.out (by rw [← HGX.out]; exact hz), ← HGX.out]), hbel2⟩
   ·obtain rfl : k = l.length := by omega
    go_wp2
    go_ret
    exact ⟨ret_int (eachE_end HF.out).symm, hbel⟩
set_option maxRecDepth 100000 in
set_option maxHeartbeats 1000000 in
theorem eachM_any (K : Nat) (cap : Array Value) (henter : ∀ args w, Sem.run Tryz.prog (callFunc K args) w = .ok (.enter K args) w) (g : Nat → Mo → Int) (St : Nat → World → Prop) (base : Nat) (v : Value) (l : List Mo) (w : World) (hl : l.length ≤ 1000000000) (hb : base ≤ w.heap.size) (hv : ∀ w1, Below base w w1 → Rw 4 mV w1 v l)
 (hS0 : St 0 w) (hSt : ∀ k w1 w2, St k w1 → Below w1.heap.size w1 w2 → St k w2)
 (hf : ∀ (k : Nat) x, l[k]? = some x → ∀ w1, Below base w w1 → St k w1 → Calls Tryz.prog K (#[.int .i64 k, .agg #[.string x.1, .int .i64 x.2.1, .int .i64 x.2.2.1, .int .i64 x.2.2.2]] ++ cap) w1 fun r w2 => r = .returned (.int .i64 (g k x)) ∧ Below base w1 w2 ∧ (g k x = 0 → St (k + 1) w2)) :
 Calls Tryz.prog 179 #[v, .func (.func K) #[] cap] w fun r w' => r = .returned (.int .i64 (eachE g l)) ∧ Below base w w' := by
 rcases Nat.eq_zero_or_pos l.length with h0 | h0
 ·obtain rfl : l = [] := List.length_eq_zero_iff.1 h0
  have hv0 := hv w (Below.refl _ _)
  obtain ⟨a, cp, rfl, _, _⟩ := hv0
  go_enter Tryz.func179, Tryz.ntmps179
  go_wp2
  go_loop [10] (fun i => i = .int .i64 0) (fun _ => 0)
  case atStart => rfl
  case round =>
   obtain rfl := hrel
   go_wp2
   go_ret
   exact ⟨rfl, Below.refl _ _⟩
 ·obtain ⟨b, off, cp, rfl, _⟩ := (hv w (Below.refl _ _)).head h0
  have HV := Lib.hid hv
  clear hv
  go_enter Tryz.func179, Tryz.ntmps179
  go_wp2
  go_loopw [10] (fun i wr => ∃ k : Nat, k ≤ l.length ∧ i = .int .i64 k ∧ firstE ((l.mapIdx g).take k) = 0 ∧ St k wr ∧ Below base w wr) (fun i _ => l.length - (intOf i).toNat)
  case atStart => exact ⟨0, by omega, rfl, rfl, hS0, Below.refl _ _⟩
  case round =>
   clear hS0
   obtain ⟨k, hk, rfl, hf0, hst, hbel⟩ := hrel
   have HF := Lib.hid hf0
   clear hf0
   by_cases hlt : k < l.length
   ·obtain ⟨x, hx⟩ : ∃ x, l[k]? = some x := ⟨_, List.getElem?_eq_getElem hlt⟩
    obtain ⟨b', off', cp', he, hcs⟩ := (HV.out wr hbel).head h0
    simp only [Value.slice.injEq, Option.some.injEq, Addr.mk.injEq] at he
    obtain ⟨⟨rfl, rfl, -⟩, -, rfl⟩ := he
    obtain ⟨c0, c1, c2, c3⟩ := rw4 (hcs k x hx) (show mV x = [.string x.1, .int .i64 x.2.1, .int .i64 x.2.2.1, .int .i64 x.2.2.2] from rfl)
    have HX := Lib.hid hx
    have HST := Lib.hid hst
    have hwr := hbel.size
    have hwr2 : base ≤ wr.heap.size := Nat.le_trans hb hwr
    have TG := Lib.hid (fun W (hE : Below wr.heap.size wr W) => hf k x hx W (hbel.trans (hE.mono hwr2)) (hSt _ _ _ hst hE))
    clear hcs hx hst
    go_wp2_with fail
    have hnew := below_new wr (Obj.cells #[Value.string x.1, Value.int IntKind.i64 x.2.1, Value.int IntKind.i64 x.2.2.1, Value.int IntKind.i64 x.2.2.2] 163)
    refine (TG.out _ hnew).mono ?_
    rintro e w2 ⟨rfl, hb2, hst2⟩
    have hbel2 := (hbel.trans (hnew.mono hwr2)).trans hb2
    clear hnew
    clear hb2 hbel c0 c1 c2 c3
    obtain ⟨gx, hgx⟩ : ∃ gx, gx = g k x := ⟨_, rfl⟩
    rw [← hgx] at hst2 ⊢
    have HGX := Lib.hid hgx
    clear hgx
    by_cases hz : gx = 0
    ·have hst3 := hst2 hz
     go_wp2
     go_roundw
     case rel => exact ⟨k + 1, by omega, by go_num, by rw [eachE_step HX.out HF.out, ← HGX.out]; exact hz, hst3, hbel2⟩
     case measure => simp [intOf]; omega
    ·go_wp2
     go_ret
     exact ⟨ret_int (by rw [eachE_stop HX.out HF.out (by rw [← HGX.out]; exact hz), ← HGX.out]), hbel2⟩
   ·obtain rfl : k = l.length := by omega
    go_wp2
    go_ret
    exact ⟨ret_int (eachE_end HF.out).symm, hbel⟩
set_option maxRecDepth 100000 in
set_option maxHeartbeats 1000000 in
theorem eachI_any (K : Nat) (cap : Array Value) (henter : ∀ args w, Sem.run Tryz.prog (callFunc K args) w = .ok (.enter K args) w) (g : Nat → Int → Int) (St : Nat → World → Prop) (base : Nat) (v : Value) (l : List Int) (w : World) (hl : l.length ≤ 1000000000) (hb : base ≤ w.heap.size) (hv : ∀ w1, Below base w w1 → Ints w1 v l)
 (hS0 : St 0 w) (hSt : ∀ k w1 w2, St k w1 → Below w1.heap.size w1 w2 → St k w2)
 (hf : ∀ (k : Nat) x, l[k]? = some x → ∀ w1, Below base w w1 → St k w1 → Calls Tryz.prog K (#[.int .i64 k, .int .i64 x] ++ cap) w1 fun r w2 => r = .returned (.int .i64 (g k x)) ∧ Below base w1 w2 ∧ (g k x = 0 → St (k + 1) w2)) :
 Calls Tryz.prog 77 #[v, .func (.func K) #[] cap] w fun r w' => r = .returned (.int .i64 (eachE g l)) ∧ Below base w w' := by
 rcases Nat.eq_zero_or_pos l.length with h0 | h0
 ·obtain rfl : l = [] := List.length_eq_zero_iff.1 h0
  have hv0 := hv w (Below.refl _ _)
  obtain ⟨a, cp, rfl, _, _⟩ := hv0
  go_enter Tryz.func77, Tryz.ntmps77
  go_wp2
  go_loop [10] (fun i => i = .int .i64 0) (fun _ => 0)
  case atStart => rfl
  case round =>
   obtain rfl := hrel
   go_wp2
   go_ret
   exact ⟨rfl, Below.refl _ _⟩
 ·obtain ⟨b, off, cp, rfl, _⟩ := (hv w (Below.refl _ _)).head h0
  have HV := Lib.hid hv
  clear hv
  go_enter Tryz.func77, Tryz.ntmps77
  go_wp2
  go_loopw [10] (fun i wr => ∃ k : Nat, k ≤ l.length ∧ i = .int .i64 k ∧ firstE ((l.mapIdx g).take k) = 0 ∧ St k wr ∧ Below base w wr) (fun i _ => l.length - (intOf i).toNat)
  case atStart => exact ⟨0, by omega, rfl, rfl, hS0, Below.refl _ _⟩
  case round =>
   clear hS0
   obtain ⟨k, hk, rfl, hf0, hst, hbel⟩ := hrel
   have HF := Lib.hid hf0
   clear hf0
   by_cases hlt : k < l.length
   ·obtain ⟨x, hx⟩ : ∃ x, l[k]? = some x := ⟨_, List.getElem?_eq_getElem hlt⟩
    obtain ⟨b', off', cp', he, hcs⟩ := (HV.out wr hbel).head h0
    simp only [Value.slice.injEq, Option.some.injEq, Addr.mk.injEq] at he
    obtain ⟨⟨rfl, rfl, -⟩, -, rfl⟩ := he
    have c0 := hcs k hlt
    rw [hx, Option.getD_some] at c0
    have HX := Lib.hid hx
    have HST := Lib.hid hst
    have hwr := hbel.size
    have hwr2 : base ≤ wr.heap.size := Nat.le_trans hb hwr
    have TG := Lib.hid (fun W (hE : Below wr.heap.size wr W) => hf k x hx W (hbel.trans (hE.mono hwr2)) (hSt _ _ _ hst hE))
    clear hcs hx hst
    go_wp2_with fail
    refine (TG.out wr (Below.refl _ _)).mono ?_
    rintro e w2 ⟨rfl, hb2, hst2⟩
    have hbel2 := hbel.trans hb2
    clear hb2 hbel c0
    obtain ⟨gx, hgx⟩ : ∃ gx, gx = g k x := ⟨_, rfl⟩
    rw [← hgx] at hst2 ⊢
    have HGX := Lib.hid hgx
    clear hgx
    by_cases hz : gx = 0
    ·have hst3 := hst2 hz
     go_wp2
     go_roundw
     case rel => exact ⟨k + 1, by omega, by go_num, by rw [eachE_step HX.out HF.out, ← HGX.out]; exact hz, hst3, hbel2⟩
     case measure => simp [intOf]; omega
    ·go_wp2
     go_ret
     exact ⟨ret_int (by rw [eachE_stop HX.out HF.out (by rw [← HGX.out]; exact hz), ← HGX.out]), hbel2⟩
   ·obtain rfl : k = l.length := by omega
    go_wp2
    go_ret
    exact ⟨ret_int (eachE_end HF.out).symm, hbel⟩
end Go.Proofs.YtpmngcffkhbofaaGreatDoor

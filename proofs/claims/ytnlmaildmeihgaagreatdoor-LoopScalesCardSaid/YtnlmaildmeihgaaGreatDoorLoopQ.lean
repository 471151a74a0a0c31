/- Is a polynomial stable? -/
import Derived.Test.YtnlmaildmeihgaaGreatDoorLoopP
namespace Go.Proofs.YtnlmaildmeihgaaGreatDoor
open Go.RowKit

def findL {α : Type} (g : α → Bool) (l : List α) : Int := match l.findIdx? g with | some i => (i : Int) | none => -1
theorem findL_none {α : Type} {g : α → Bool} {l : List α} (h : l.any g = false) : findL g l = -1 := by
  have : l.findIdx? g = none := by
    rw [List.findIdx?_eq_none_iff]; intro x hx; exact (List.any_eq_false.1 h) x hx |> Bool.eq_false_iff.2
  simp [findL, this]
theorem findL_some {α : Type} {g : α → Bool} {l : List α} {k : Nat} {x : α} (hk : l[k]? = some x) (h : (l.take k).any g = false) (hx : g x = true) : findL g l = k := by
  have : l.findIdx? g = some k := by
    rw [List.findIdx?_eq_some_iff_getElem]
    obtain ⟨hlt, he⟩ := List.getElem?_eq_some_iff.1 hk
    refine ⟨hlt, by rw [he]; exact hx, fun j hj => ?_⟩
    have := List.any_eq_false.1 h (l[j]'(by omega)) (by rw [List.mem_take_iff_getElem]; exact ⟨j, by omega, rfl⟩)
    simpa using this
  simp [findL, this]
theorem findL_ge {α : Type} (g : α → Bool) (l : List α) : decide (0 ≤ findL g l) = l.any g := by
  unfold findL
  cases h : l.findIdx? g with
  | none =>
    have : l.any g = false := by
      rw [List.findIdx?_eq_none_iff] at h
      rw [List.any_eq_false]; intro x hx; rw [h x hx]; simp
    simp [this]
  | some i =>
    rw [List.findIdx?_eq_some_iff_getElem] at h
    obtain ⟨hlt, hg, _⟩ := h
    have : l.any g = true := List.any_eq_true.2 ⟨_, List.getElem_mem hlt, hg⟩
    simp [this]
theorem anyL_take_succ {α : Type} {g : α → Bool} {l : List α} {k : Nat} {x : α} (hk : l[k]? = some x) (h : (l.take k).any g = false) (hx : g x = false) : (l.take (k + 1)).any g = false := by
  rw [List.take_add_one, hk, List.any_append, h]; simp [hx]

set_option maxHeartbeats 400000 in
theorem IndexFuncR_any (K : Nat) (cap : Array Value) (henter : ∀ args w, Sem.run Tryz.prog (callFunc K args) w = .ok (.enter K args) w) (g : List Int → Bool) (v : Value) (ll : List (List Int)) (w : World) (hl : ll.length ≤ 1000000000) (hv : RowsOf w v ll)
    (hf : ∀ (l : List Int) (u : Value) (w1 : World), l ∈ ll → Ints w1 u l → Calls Tryz.prog K (#[u] ++ cap) w1 fun r w2 => r = .returned (.bool (g l)) ∧ Below w1.heap.size w1 w2) :
    Calls Tryz.prog 170 #[v, .func (.func K) #[] cap] w fun r w' => r = .returned (.int .i64 (findL g ll)) ∧ Below w.heap.size w w' := by
  obtain ⟨us, hv, hlen, hin⟩ := hv
  rcases Nat.eq_zero_or_pos us.length with h0 | h0
  · obtain rfl : us = [] := List.length_eq_zero_iff.1 h0
    obtain rfl : ll = [] := List.length_eq_zero_iff.1 hlen.symm
    obtain ⟨a, cp, rfl, _, _⟩ := hv
    go_enter Tryz.func170, Tryz.ntmps170
    go_wp2
    go_loop [8] (fun i => i = .int .i64 0) (fun _ => 0)
    case atStart => rfl
    case round =>
      obtain rfl := hrel
      go_wp2
      go_ret
      exact ⟨rfl, Below.refl _ _⟩
  · obtain ⟨b, off, cp, rfl, hcs⟩ := hv.head h0
    clear hv
    rw [hlen] at h0 ⊢
    go_enter Tryz.func170, Tryz.ntmps170
    go_wp2
    go_loopw [8] (fun i wr => ∃ k : Nat, k ≤ ll.length ∧ i = .int .i64 k ∧ (ll.take k).any g = false ∧ Below w.heap.size w wr) (fun i _ => ll.length - (intOf i).toNat)
    case atStart => exact ⟨0, by omega, rfl, rfl, Below.refl _ _⟩
    case round =>
      obtain ⟨k, hk, rfl, hf0, hbr⟩ := hrel
      have HF := Lib.hid hf0
      clear hf0
      by_cases hlt : k < ll.length
      · obtain ⟨u, hu⟩ : ∃ u, us[k]? = some u := ⟨us[k]'(by omega), List.getElem?_eq_getElem _⟩
        obtain ⟨l, hll⟩ : ∃ l, ll[k]? = some l := ⟨ll[k]'hlt, List.getElem?_eq_getElem _⟩
        have hiw := (hin k u l hu hll).carry hbr
        have hcell := cellb (hcs k u hu) hbr
        have hmem : l ∈ ll := List.mem_of_getElem? hll
        have hfx := hf l u wr hmem hiw
        have HX := Lib.hid hll
        have HFX := Lib.hid hfx
        clear hcs hll hu hlen hin hfx
        obtain ⟨ua, uc, rfl, _⟩ := hiw
        by_cases hg : g l = true
        · rw [hg] at HFX
          go_wp2_with fail
          refine HFX.out.mono ?_
          rintro e w2 ⟨rfl, hb2⟩
          go_wp2
          go_ret
          exact ⟨ret_int (findL_some HX.out HF.out hg).symm, bthen hbr hb2⟩
        · have hg' : g l = false := by simpa using hg
          clear hg
          rw [hg'] at HFX
          go_wp2_with fail
          refine HFX.out.mono ?_
          rintro e w2 ⟨rfl, hb2⟩
          go_wp2
          go_roundw
          case rel => exact ⟨k + 1, by omega, by go_num, anyL_take_succ HX.out HF.out hg', bthen hbr hb2⟩
          case measure => simp [intOf]; omega
      · obtain rfl : k = ll.length := by omega
        clear hlen
        go_wp2
        go_ret
        exact ⟨ret_int (findL_none (by have := HF.out; rwa [List.take_length] at this)).symm, hbr⟩

set_option maxHeartbeats 400000 in
theorem ContainsFuncR_any (K : Nat) (cap : Array Value) (henter : ∀ args w, Sem.run Tryz.prog (callFunc K args) w = .ok (.enter K args) w) (g : List Int → Bool) (v : Value) (ll : List (List Int)) (w : World) (hl : ll.length ≤ 1000000000) (hv : RowsOf w v ll)
    (hf : ∀ (l : List Int) (u : Value) (w1 : World), l ∈ ll → Ints w1 u l → Calls Tryz.prog K (#[u] ++ cap) w1 fun r w2 => r = .returned (.bool (g l)) ∧ Below w1.heap.size w1 w2) :
    Calls Tryz.prog 142 #[v, .func (.func K) #[] cap] w fun r w' => r = .returned (.bool (ll.any g)) ∧ Below w.heap.size w w' := by
  have hge := findL_ge g ll
  have HG := Lib.hid hge
  clear hge
  go_enter Tryz.func142, Tryz.ntmps142
  go_wp2_with fail
  refine (IndexFuncR_any K cap henter g v ll w hl hv hf).mono ?_
  rintro e w1 ⟨rfl, hb⟩
  go_wp2
  go_ret
  exact ⟨ret_bool HG.out, hb⟩

theorem Tryz.enterFails (args : Array Value) (w : World) : Sem.run Tryz.prog (callFunc 143 args) w = .ok (.enter 143 args) w :=
  MuLone.run_callFunc_enter Tryz.func143 (by kernel_rfl) rfl args w

theorem table_mem {p l : List Int} (h : l ∈ tableW p) : 1 < l.length ∧ l.length ≤ p.length := by
  have key : ∀ (f : Nat) (r : List Int), l ∈ tableL f r → 1 < l.length ∧ l.length ≤ r.length := by
    intro f
    induction f with
    | zero => intro r h; simp [tableL] at h
    | succ f ih =>
      intro r h
      unfold tableL at h
      split at h
      · simp at h
      · split at h
        · obtain rfl := List.mem_singleton.1 h; omega
        · rcases List.mem_cons.1 h with rfl | h
          · omega
          · have := ih _ h
            rw [nextL, upto_length] at this
            omega
  exact key _ p h

def stableB (p : List Int) : Bool := !(tableW p).any failsB

set_option maxHeartbeats 400000 in
theorem isStable_any (v : Value) (p : List Int) (w : World) (hv : Ints w v p) (hl : p.length ≤ 1000000) :
    Calls Tryz.prog 94 #[v] w fun e w' => e = .returned (.bool (stableB p)) ∧ Below w.heap.size w w' := by
  have htl := tableL_length p.length p
  have hst : (!(tableW p).any failsB) = stableB p := rfl
  have HS := Lib.hid hst
  clear hst
  go_enter Tryz.func94, Tryz.ntmps94
  go_wp2_with fail
  refine (table_any v p w hv hl).mono ?_
  rintro e w1 ⟨⟨u, rfl, hu⟩, hb⟩
  go_wp2_with fail
  refine (ContainsFuncR_any 143 #[] Tryz.enterFails failsB u (tableW p) w1 (by unfold tableW; omega) hu (fun l u w1 hm hi => fails_any u l w1 hi (by have := table_mem hm; omega) (by have := table_mem hm; omega))).mono ?_
  rintro e w2 ⟨rfl, hb2⟩
  go_wp2
  go_ret
  exact ⟨ret_bool HS.out, bthen hb hb2⟩

end Go.Proofs.YtnlmaildmeihgaaGreatDoor

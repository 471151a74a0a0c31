import Derived.Test.YtjmdnolmaofbiaaDoorLib
import Derived.Test.YtjmdnolmaofbiaaDoorProg
import Derived.Deep.QuietTactic
import Derived.BigQuiet
import Derived.Conc.MuLone
import Derived.Deep.RegionHeld3
namespace Go.Proofs.YtjmdnolmaofbiaaDoor
open Go.RowKit

def whenE (c : Bool) (e : Int) : Int := if c then e else 0

def withinE (n lo hi : Int) : Int := if n < lo ∨ hi < n then 3 else 0

theorem firstE_take_succ (l : List Int) (k : Nat) (hk : k < l.length) (h : firstE (l.take k) = 0) : firstE (l.take (k + 1)) = l[k]?.getD 0 := by
  induction l generalizing k with
  | nil => simp at hk
  | cons x l ih =>
    cases k with
    | zero => simp [firstE]; intro h; exact h.symm
    | succ k =>
      simp only [List.take_succ_cons, firstE] at h ⊢
      split at h
      · rename_i hx; simp only [hx, if_true]; simpa using ih k (by simpa using hk) h
      · exact absurd h (by assumption)

theorem firstE_of_take (l : List Int) (k : Nat) (h : firstE (l.take k) ≠ 0) : firstE l = firstE (l.take k) := by
  induction l generalizing k with
  | nil => simp
  | cons x l ih =>
    cases k with
    | zero => simp [firstE] at h
    | succ k =>
      simp only [List.take_succ_cons, firstE] at h ⊢
      split at h
      · rename_i hx; simp only [hx, if_true] ; exact ih k h
      · rename_i hx; simp [hx]

theorem Tryd.infoErrno : (Tryd.prog.info? 44).map (fun i => (i.zero, i.size, i.bytes)) = some (some (.int .i64 0), 1, 8) := by kernel_rfl

def coefE (x : Int) : Int := withinE x (-100) 100

def checkPolyE (l : List Int) : Int :=
  if l.length = 0 then 12 else if 5 < l.length then 5 else firstE [firstE (l.map coefE), whenE (l[l.length - 1]?.getD 0 == 0) 6]

def tInner (q : List Int) (i : Nat) (a : Int) (out : List Int) : Nat → List Int
  | 0 => out
  | k + 1 => (tInner q i a out k).set (i + k) (wrap64 ((tInner q i a out k)[i + k]?.getD 0 + wrap64 (a * q[k]?.getD 0)))
def tOuter (p q : List Int) (out : List Int) : Nat → List Int
  | 0 => out
  | i + 1 => tInner q i (p[i]?.getD 0) (tOuter p q out i) q.length
def timesW (p q : List Int) : List Int := tOuter p q (List.replicate (p.length + q.length - 1) 0) p.length

theorem tInner_length (q : List Int) (i : Nat) (a : Int) (out : List Int) (k : Nat) : (tInner q i a out k).length = out.length := by
  induction k with
  | zero => rfl
  | succ k ih => simp [tInner, ih]
theorem tOuter_length (p q out : List Int) (k : Nat) : (tOuter p q out k).length = out.length := by
  induction k with
  | zero => rfl
  | succ k ih => simp [tOuter, tInner_length, ih]
theorem timesW_length (p q : List Int) : (timesW p q).length = p.length + q.length - 1 := by simp [timesW, tOuter_length]

theorem Tryd.infoInt : (Tryd.prog.info? 3).map (fun i => (i.zero, i.size, i.bytes)) = some (some (.int .i64 0), 1, 8) := by kernel_rfl

def powW (a : Int) : Nat → Int
  | 0 => 1
  | k + 1 => wrap64 (powW a k * a)

def largeB (x : Int) : Bool := coefE x != 0

def findI (g : Int → Bool) (l : List Int) : Int := match l.findIdx? g with | some i => (i : Int) | none => -1

theorem findI_none {g : Int → Bool} {l : List Int} (h : l.any g = false) : findI g l = -1 := by
  have : l.findIdx? g = none := by
    rw [List.findIdx?_eq_none_iff]; intro x hx; exact (List.any_eq_false.1 h) x hx |> Bool.eq_false_iff.2
  simp [findI, this]

theorem findI_some {g : Int → Bool} {l : List Int} {k : Nat} {x : Int} (hk : l[k]? = some x) (h : (l.take k).any g = false) (hx : g x = true) : findI g l = k := by
  have : l.findIdx? g = some k := by
    rw [List.findIdx?_eq_some_iff_getElem]
    obtain ⟨hlt, he⟩ := List.getElem?_eq_some_iff.1 hk
    refine ⟨hlt, by rw [he]; exact hx, fun j hj => ?_⟩
    have := List.any_eq_false.1 h (l[j]'(by omega)) (by rw [List.mem_take_iff_getElem]; exact ⟨j, by omega, rfl⟩)
    simpa using this
  simp [findI, this]

theorem findI_ge (g : Int → Bool) (l : List Int) : decide (0 ≤ findI g l) = l.any g := by
  unfold findI
  cases h : l.findIdx? g with
  | none =>
    have : l.any g = false := by
      rw [List.findIdx?_eq_none_iff] at h
      rw [List.any_eq_false]; intro x hx; rw [h x hx]; simp
    simp [this]
  | some i =>
    rw [List.findIdx?_eq_some_iff_getElem] at h
    obtain ⟨hlt, hg, _⟩ := h
    have : l.any g = true := List.any_eq_true.2 ⟨_, List.getElem_mem hlt, hg⟩
    simp [this]

theorem any_take_succ {g : Int → Bool} {l : List Int} {k : Nat} {x : Int} (hk : l[k]? = some x) (h : (l.take k).any g = false) (hx : g x = false) : (l.take (k + 1)).any g = false := by
  rw [List.take_add_one, hk, List.any_append, h]; simp [hx]

end Go.Proofs.YtjmdnolmaofbiaaDoor

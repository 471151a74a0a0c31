import Derived.Test.YtjmdnolmaofbiaaDoorLoopD
namespace Go.Proofs.YtjmdnolmaofbiaaDoor
open Go.RowKit

def trimN (l : List Int) : Nat → Nat
  | 0 => 0
  | m + 1 => if l[m]?.getD 0 = 0 then trimN l m else m + 1
theorem trimN_le (l : List Int) (m : Nat) : trimN l m ≤ m := by
  induction m with
  | zero => exact Nat.le_refl _
  | succ m ih => unfold trimN; split <;> omega
def trimL (l : List Int) : List Int := l.take (trimN l l.length)
theorem trimL_length (l : List Int) : (trimL l).length = trimN l l.length := by
  have := trimN_le l l.length
  simp [trimL]; omega

theorem Ints.take {w : World} {b off n cp : Nat} {l : List Int} (h : Ints w (.slice (some ⟨b, off, none⟩) l.length cp) l) (hn : n ≤ l.length) : Ints w (.slice (some ⟨b, off, none⟩) n cp) (l.take n) := by
  obtain ⟨a, cp', he, hc, h⟩ := h
  cases he
  refine ⟨_, cp, by rw [List.length_take, Nat.min_eq_left hn], by rw [List.length_take]; omega, fun h0 => ?_⟩
  rw [List.length_take] at h0
  obtain ⟨b', off', he, h⟩ := h (by omega)
  cases he
  refine ⟨_, _, rfl, fun j hj => ?_⟩
  rw [List.length_take] at hj
  rw [h j (by omega), List.getElem?_take, if_pos (by omega)]

def pInner (q : List Int) (out : List Int) : Nat → List Int
  | 0 => out
  | k + 1 => (pInner q out k).set k (wrap64 ((pInner q out k)[k]?.getD 0 + q[k]?.getD 0))
theorem pInner_length (q out : List Int) (k : Nat) : (pInner q out k).length = out.length := by
  induction k with
  | zero => rfl
  | succ k ih => simp [pInner, ih]
def sumW (p q : List Int) : List Int := pInner q (p ++ List.replicate (max p.length q.length - p.length) 0) q.length
theorem sumW_length (p q : List Int) : (sumW p q).length = max p.length q.length := by simp [sumW, pInner_length]; omega
def plusW (p q : List Int) : List Int := trimL (sumW p q)

theorem Ints.plus (w : World) (T : TypeId) (p q : List Int) (n m : Nat) (hn : n = trimN (sumW p q) (max p.length q.length)) (hm : m = max p.length q.length) :
    Ints (w.alloc (.cells (ia (sumW p q)) T)) (.slice (some ⟨w.heap.size, 0, none⟩) n m) (plusW p q) := by
  have hl := sumW_length p q
  subst hn hm
  rw [← hl]
  exact (Ints.ofIa w T (sumW p q)).take (trimN_le _ _)

/-- a call that hands back a slice that holds l, in new memory. -/
def GivesInts (w : World) (l : List Int) (r : Ending) (w' : World) : Prop := (∃ u, r = .returned u ∧ Ints w' u l) ∧ Below w.heap.size w w'

def closedW (a b c d : List Int) : List Int := plusW (timesW b d) (timesW a c)

theorem bthen {w w1 w2 : World} (h1 : Below w.heap.size w w1) (h2 : Below w1.heap.size w1 w2) : Below w.heap.size w w2 := h1.trans (h2.mono h1.size)

theorem closedW_length (a b c d : List Int) : (closedW a b c d).length ≤ max (b.length + d.length - 1) (a.length + c.length - 1) := by
  unfold closedW plusW
  rw [trimL_length]
  have := trimN_le (sumW (timesW b d) (timesW a c)) (sumW (timesW b d) (timesW a c)).length
  rw [sumW_length, timesW_length, timesW_length] at this
  rw [sumW_length, timesW_length, timesW_length]
  exact this

def loop1E (a b c d : List Int) : Int := firstE [checkPolyE a, checkPolyE b, checkPolyE c, checkPolyE d]
def loop2E (a b c d : List Int) : Int :=
  firstE [whenE (decide ((2 : Int) < max ((b.length : Int) - 1) ((d.length : Int) - 1))) 20, whenE (decide (b.length ≤ a.length) || decide (d.length < c.length)) 2, whenE ((closedW a b c d).any largeB) 4]
def checkLoopE (a b c d : List Int) : Int := if loop1E a b c d ≠ 0 then loop1E a b c d else loop2E a b c d

theorem checkPolyE_ok {l : List Int} (h : checkPolyE l = 0) : 1 ≤ l.length ∧ l.length ≤ 5 := by
  unfold checkPolyE at h
  split at h
  · simp at h
  · split at h
    · simp at h
    · omega
theorem firstE_cons_ok {x : Int} {l : List Int} (h : firstE (x :: l) = 0) : x = 0 ∧ firstE l = 0 := by
  unfold firstE at h
  split at h
  · exact ⟨by assumption, h⟩
  · exact absurd h (by assumption)
theorem loop1E_ok {a b c d : List Int} (h : loop1E a b c d = 0) : checkPolyE a = 0 ∧ checkPolyE b = 0 ∧ checkPolyE c = 0 ∧ checkPolyE d = 0 := by
  obtain ⟨h1, h⟩ := firstE_cons_ok h
  obtain ⟨h2, h⟩ := firstE_cons_ok h
  obtain ⟨h3, h⟩ := firstE_cons_ok h
  obtain ⟨h4, h⟩ := firstE_cons_ok h
  exact ⟨h1, h2, h3, h4⟩

/-- what Closed, Product and their like hand back: a list and an error. -/
def GivesPoly (w : World) (l : List Int) (e : Int) (r : Ending) (w' : World) : Prop := (∃ u, r = .returned (.tuple #[u, .int .i64 e]) ∧ Ints w' u l) ∧ Below w.heap.size w w'

def closedR (a b c d : List Int) : List Int := if checkLoopE a b c d ≠ 0 then [] else closedW a b c d

theorem checkLoopE_ok {a b c d : List Int} (h : checkLoopE a b c d = 0) : checkPolyE a = 0 ∧ checkPolyE b = 0 ∧ checkPolyE c = 0 ∧ checkPolyE d = 0 := by
  unfold checkLoopE at h
  split at h
  · exact absurd h (by assumption)
  · rename_i h1; exact loop1E_ok (by simpa using h1)

end Go.Proofs.YtjmdnolmaofbiaaDoor

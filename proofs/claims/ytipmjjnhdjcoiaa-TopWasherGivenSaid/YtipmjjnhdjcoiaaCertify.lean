/- The members of a box, as they are visited: a function that calls itself through a variable. -/
import Derived.Test.YtipmjjnhdjcoiaaPairs
import Derived.Stop.RegionWithIn
import Derived.Laws.EntriesVeiled
import Derived.Deep.DeepCutAuto
namespace Go.Proofs.Ytipmjjnhdjcoiaa
section
open Go.RowKit Go.Shelf

attribute [local go_sem] Oper.semAt_some

/-- the integers from one to another one. -/
def span (lo hi : Int) : List Int := upto (fun k => lo + k) (hi + 1 - lo).toNat
/-- the members of a box, the first coefficient changing last. -/
def membersW : List (Int × Int) → List (List Int)
  | [] => [[]]
  | x :: r => (span x.1 x.2).flatMap fun n => (membersW r).map (n :: ·)
theorem membersW_length {b : List (Int × Int)} {m : List Int} (h : m ∈ membersW b) : m.length = b.length := by
  induction b generalizing m with
  | nil => simp [membersW] at h; simp [h]
  | cons x r ih =>
    simp only [membersW, List.mem_flatMap, List.mem_map] at h
    obtain ⟨n, _, t, ht, rfl⟩ := h
    simp [ih ht]

/-- what a body keeps: what lay below n₀, block Bb, the cells from H on. -/
def KMem (n₀ Bb H : Nat) (A B : World) : Prop :=
  Below n₀ A B ∧ B.heap[Bb]? = A.heap[Bb]? ∧ ∀ (k : Nat) (c : Array Value) (T : TypeId), H ≤ k → A.heap[k]? = some (.cells c T (0, 0)) → B.heap[k]? = some (.cells c T (0, 0))
theorem KMem.refl (n₀ Bb H : Nat) (A : World) : KMem n₀ Bb H A A := ⟨Below.refl _ _, rfl, fun _ _ _ _ h => h⟩
theorem KMem.trans {n₀ Bb H : Nat} {A B C : World} (h : KMem n₀ Bb H A B) (k : KMem n₀ Bb H B C) : KMem n₀ Bb H A C :=
  ⟨h.1.trans k.1, k.2.1.trans h.2.1, fun i c T hi hc => k.2.2 i c T hi (h.2.2 i c T hi hc)⟩
theorem KMem.below {n₀ Bb H : Nat} {A B : World} (h : Below A.heap.size A B) (hn : n₀ ≤ A.heap.size) (hb : Bb < A.heap.size) : KMem n₀ Bb H A B :=
  ⟨h.mono hn, h.block _ hb, fun k _ _ _ hc => (h.block k (Array.getElem?_eq_some_iff.1 hc).1).trans hc⟩
theorem KMem.turn {n₀ Bb H : Nat} (W : World) (l : Nat) (o o' : Obj) (hn : n₀ ≤ l) (hb : Bb < l) (h : W.heap[l]? = some o) (h1 : o.isCells = false) : KMem n₀ Bb H W (W.putObj l o') :=
  ⟨(Below.refl n₀ W).grown (grownBy_putObj' W l o') (by have := (Array.getElem?_eq_some_iff.1 h).1; omega) (fun k e => by cases e; omega), World.putObj_heap_other (by omega), fun k c T _ hc => by
    by_cases e : k = l
    · subst e; rw [hc] at h; cases h; cases h1
    · exact (World.putObj_heap_other e).trans hc⟩

theorem ownI_kept {H base : Nat} {v : Value} {l : List Int} {β : Type} : OwnFrom H (fun (_ : β) W => OwnI 3 base W v l) := fun _ _ _ _ hs hg hr => hs.kint (kint_of_grown hg (fun r e => (hr r e).2))

section
variable {w0 : World} {n₀ H Bb By Bp Bf R l : Nat} {bv : Value} {b : List (Int × Int)} {W W' : World} {cur : List Int}
end

theorem grownBy_set (W : World) (p : Addr) (v : Value) : W.grownBy (W.setCell p v) (some p.block) :=
  ⟨rfl, rfl, rfl, (KeepsWalks.setCell W _ v).size, fun k _ hk => Below.heap_setCell _ _ _ k (fun e => hk (by rw [e]))⟩

theorem run_pairs_bd {b : List (Int × Int)} (hb : ∀ x ∈ b, -1000 ≤ x.1 ∧ x.1 ≤ 1000 ∧ -1000 ≤ x.2 ∧ x.2 ≤ 1000) {i : Nat} {x : Int × Int} (h : b[i]? = some x) : -1000 ≤ x.1 ∧ x.1 ≤ 1000 ∧ -1000 ≤ x.2 ∧ x.2 ≤ 1000 := hb x (List.mem_of_getElem? h)

theorem flatMap_prefix {α β : Type} {l1 l2 : List α} (G : α → List β) (h : l1 <+: l2) : l1.flatMap G <+: l2.flatMap G := by
  obtain ⟨t, rfl⟩ := h
  exact ⟨t.flatMap G, List.flatMap_append.symm⟩

end

section
open Go.RowKit Go.Shelf

attribute [local go_sem] Oper.semAt_some

def box1E (a b c d : List Int) (bx : List (Int × Int)) : Int := firstE [checkLoopE a b c d, whenE ((bx.length : Int) != (a.length : Int)) 2, intervalsE bx]
def lastP (bx : List (Int × Int)) : Int × Int := bx[bx.length - 1]?.getD (0, 0)
def box2E (bx : List (Int × Int)) : Int := firstE [whenE (decide ((lastP bx).1 ≤ 0 ∧ 0 ≤ (lastP bx).2)) 6, whenE (decide (256 < manyW bx bx.length)) 5]
def checkBoxE (a b c d : List Int) (bx : List (Int × Int)) : Int :=
  if box1E a b c d bx ≠ 0 then box1E a b c d bx else if box2E bx ≠ 0 then box2E bx else if (membersW bx).any (fun p => (closedW p b c d).any largeB) then 4 else 0

theorem whenE_ok {c : Bool} {e : Int} (h : whenE c e = 0) (he : e ≠ 0) : c = false := by
  cases c
  · rfl
  · exact absurd h he
theorem firstE_map_ok {α : Type} {g : α → Int} {l : List α} (h : firstE (l.map g) = 0) : ∀ x ∈ l, g x = 0 := by
  induction l with
  | nil => intro x hx; simp at hx
  | cons y l ih =>
    obtain ⟨h1, h2⟩ := firstE_cons_ok h
    intro x hx
    rcases List.mem_cons.1 hx with rfl | hx
    · exact h1
    · exact ih h2 x hx
theorem intervalsE_ok {bx : List (Int × Int)} (h : intervalsE bx = 0) : ∀ x ∈ bx, -100 ≤ x.1 ∧ x.1 ≤ 100 ∧ -100 ≤ x.2 ∧ x.2 ≤ 100 ∧ x.1 ≤ x.2 := fun x hx => by
  have h := firstE_map_ok h x hx
  obtain ⟨h1, h⟩ := firstE_cons_ok h
  obtain ⟨h2, h⟩ := firstE_cons_ok h
  obtain ⟨h3, h⟩ := firstE_cons_ok h
  have h1 := withinE_ok h1
  have h2 := withinE_ok h2
  have h3 := whenE_ok h3 (by decide)
  simp at h3
  omega
theorem checkLoopE_len {a b c d : List Int} (h : checkLoopE a b c d = 0) : (1 ≤ a.length ∧ a.length ≤ 5) ∧ (1 ≤ b.length ∧ b.length ≤ 5) ∧ (1 ≤ c.length ∧ c.length ≤ 5) ∧ (1 ≤ d.length ∧ d.length ≤ 5) := by
  obtain ⟨h1, h2, h3, h4⟩ := checkLoopE_ok h
  exact ⟨checkPolyE_ok h1, checkPolyE_ok h2, checkPolyE_ok h3, checkPolyE_ok h4⟩
theorem box1E_ok {a b c d : List Int} {bx : List (Int × Int)} (h : box1E a b c d bx = 0) : checkLoopE a b c d = 0 ∧ bx.length = a.length ∧ intervalsE bx = 0 := by
  obtain ⟨h1, h⟩ := firstE_cons_ok h
  obtain ⟨h2, h⟩ := firstE_cons_ok h
  obtain ⟨h3, _⟩ := firstE_cons_ok h
  have h2 := whenE_ok h2 (by decide)
  exact ⟨h1, by rw [bne_eq_false_iff_eq] at h2; omega, h3⟩

end

section
open Go.RowKit Go.Shelf

attribute [local go_sem] Oper.semAt_some

theorem checkBoxE_ok {a b c d : List Int} {bx : List (Int × Int)} (h : checkBoxE a b c d bx = 0) : box1E a b c d bx = 0 ∧ box2E bx = 0 ∧ ∀ p ∈ membersW bx, (closedW p b c d).any largeB = false := by
  unfold checkBoxE at h
  split at h
  · exact absurd h (by assumption)
  · split at h
    · exact absurd h (by assumption)
    · split at h
      · cases h
      · rename_i h1 h2 h3
        refine ⟨by simpa using h1, by simpa using h2, fun p hp => ?_⟩
        cases hc : (closedW p b c d).any largeB with
        | false => rfl
        | true => exact absurd (List.any_eq_true.2 ⟨p, hp, hc⟩) h3

/-- the first member whose loop is not stable. -/
def certW (b c d : List Int) (bx : List (Int × Int)) : Option (List Int) := (membersW bx).find? (fun p => !stableB (closedW p b c d))
def certR (a b c d : List Int) (bx : List (Int × Int)) : Option (List Int) := if checkBoxE a b c d bx ≠ 0 then none else certW b c d bx

theorem find_prefix {α : Type} {g : α → Bool} {l pre : List α} {x : α} (h : pre ++ [x] <+: l) (hp : ∀ y ∈ pre, g y = false) (hx : g x = true) : l.find? g = some x := by
  obtain ⟨t, rfl⟩ := h
  rw [List.append_assoc, List.find?_append]
  have : pre.find? g = none := by rw [List.find?_eq_none]; intro y hy; rw [hp y hy]; simp
  rw [this]
  simp [hx]

end

end Go.Proofs.Ytipmjjnhdjcoiaa

/- An array of integers that came in: the numbers of the kind. -/
import Derived.Test.YtgpdalgfbfboaaaGreatDoorVaA
import Derived.ProofKit
import Derived.OpenShut
import Derived.ChangeOld
import Derived.Test.YtgpdalgfbfboaaaGreatDoorRowBaV
import Derived.Test.YtgpdalgfbfboaaaGreatDoorVaP
namespace Go.Proofs.YtgpdalgfbfboaaaGreatDoor
open Go.ChangeShapes Go.WideShapes Go.ChangeAt Go.RowKit
section
section
set_option linter.unusedVariables false
set_option maxRecDepth 100000 in
theorem train_of_trod {H : Type} {enc : TypeId × Value → H} {W : World} {fuel : Nat} {v : Value} {x : DataW H × List MemPlace}
 (hf : DataW.trod enc Tryz.prog W 0 (fun _ => true) true fuel 32 [v] = some x) : ∃ l : List P2, Prs W v l := by
 have hi : Tryz.prog.underlying 3 = some (.int .i64) := by kernel_rfl
 have hc : Tryz.prog.cellsOf 3 = 1 := by kernel_rfl
 rcases Go.Deep.open_slice_pairs Tryz.underlying32 Tryz.underlying56 (by kernel_rfl) rfl rfl hc hc hf with ⟨hcs, hx⟩ | ⟨a, len', cap', m, n, V0, V1, D0, D1, P0, P1, hcs, _, hl, hm, hmm, hx, hcell⟩
 ·simp at hcs
  subst hcs
  exact ⟨[], Rw.nil 2 pV W none 0⟩
 ·simp at hcs
  subst hcs
  simp only [if_true] at hmm
  subst hmm
  have each : ∀ i, i < m → ∃ q : P2, W.cell? (a.add (i * 2)) = some (.int .i64 q.1) ∧ W.cell? (a.add (i * 2 + 1)) = some (.int .i64 q.2) := fun i hi' => by
   obtain ⟨e0, e1, t0, t1⟩ := hcell i hi'
   obtain ⟨x, x0, _, _⟩ := DataW.trod_int hi t0
   obtain ⟨y, y0, _, _⟩ := DataW.trod_int hi t1
   simp at x0 y0
   exact ⟨(x, y), by rw [e0, x0], by rw [e1, y0]⟩
  obtain ⟨q, hq⟩ := Go.Deep.choose_lt each
  refine ⟨(List.range len').map q, some a, m, by simp, by simpa using hl, fun h0 => ?_⟩
  simp at h0
  obtain ⟨b, off, spot⟩ := a
  have hspot : spot = none := by simpa [Addr.add] using World.cell?_spot (hq 0 (by omega)).1
  subst hspot
  refine ⟨b, off, rfl, fun j x hj => ?_⟩
  have hjl := (List.getElem?_eq_some_iff.1 hj).1
  simp at hjl
  rw [List.getElem?_map, List.getElem?_range hjl] at hj
  cases hj
  obtain ⟨h1, h2⟩ := hq j (by omega)
  rw [addr_add] at h1 h2
  intro i u hu
  match i, hu with
  | 0, hu => simp [pV] at hu; subst hu; rw [Nat.add_zero]; exact h1
  | 1, hu => simp [pV] at hu; subst hu; rw [← Nat.add_assoc] at h2; exact h2
  | i + 2, hu => simp [pV] at hu
end
end
section
section
set_option linter.unusedVariables false
set_option linter.unusedSimpArgs false
set_option maxRecDepth 100000 in
theorem rows_of_trod {α : Type} [Inhabited α] {n : Nat} {f : α → List Value} {Q : α → Prop} {H : Type} {enc : TypeId × Value → H} {W : World} {fuel : Nat} {t e : TypeId} {v : Value} {x : DataW H × List MemPlace}
 (ht : Tryz.prog.underlying t = some (.slice e)) (ce : Tryz.prog.cellsOf e = n) (hn : 0 < n)
 (elem : ∀ (k : Nat) (cs : List Value) (y : DataW H × List MemPlace), DataW.trod enc Tryz.prog W 0 (fun _ => true) true k e cs = some y → ∃ q : α, cs = f q ∧ Q q)
 (h : DataW.trod enc Tryz.prog W 0 (fun _ => true) true fuel t [v] = some x) : ∃ l : List α, Rw n f W v l ∧ l.length ≤ maxLen ∧ ∀ q ∈ l, Q q := by
 rcases Go.Deep.open_slice ht h with ⟨hcs, hx⟩ | ⟨a, len', cap', m, k, D, Pl, hcs, _, hl, hm, hmm, hx, hcell⟩
 ·simp at hcs
  subst hcs
  exact ⟨[], Rw.nil n f W none 0, by simp [maxLen], by simp⟩
 ·simp at hcs
  subst hcs
  simp only [if_true] at hmm
  subst hmm
  have each : ∀ i, i < m → ∃ q : α, Q q ∧ (f q).length = n ∧ ∀ j, j < n → W.cell? ((a.add (i * n)).add j) = (f q)[j]? := fun i hi => by
   obtain ⟨cs', h1, h2⟩ := hcell i hi
   rw [ce] at h1
   obtain ⟨q, rfl, hq⟩ := elem _ _ _ h2
   obtain ⟨_, hlen, hc⟩ := World.cells?_some h1
   exact ⟨q, hq, hlen, hc⟩
  obtain ⟨q, hq⟩ := Go.Deep.choose_lt each
  refine ⟨(List.range len').map q, ⟨some a, m, by simp, by simpa using hl, fun h0 => ?_⟩, by simp; omega, fun y hy => ?_⟩
  ·simp at h0
   obtain ⟨b, off, spot⟩ := a
   have h9 := (hq 0 (by omega)).2.2 0 hn
   rw [List.getElem?_eq_getElem (by rw [(hq 0 (by omega)).2.1]; exact hn)] at h9
   have hspot : spot = none := by simpa [Addr.add] using World.cell?_spot h9
   subst hspot
   refine ⟨b, off, rfl, fun j y hj i u hu => ?_⟩
   have hjl := (List.getElem?_eq_some_iff.1 hj).1
   simp at hjl
   rw [List.getElem?_map, List.getElem?_range hjl] at hj
   cases hj
   obtain ⟨_, hlen, hc⟩ := hq j (by omega)
   have hi : i < n := by have := (List.getElem?_eq_some_iff.1 hu).1; omega
   have := hc i hi
   rw [addr_add, addr_add, hu] at this
   exact this
  ·obtain ⟨j, hj, rfl⟩ := List.mem_map.1 hy
   exact (hq j (by have := List.mem_range.1 hj; omega)).1
set_option maxRecDepth 100000 in
theorem rows_of_arg {α : Type} [Inhabited α] {n : Nat} {f : α → List Value} {Q : α → Prop} {H : Type} {enc : TypeId × Value → H} {W : World} {r : Reach} {b0 : Nat} {t e : TypeId} {v : Value} {d : DataW H} {p : List MemPlace}
 (ht : Tryz.prog.underlying t = some (.slice e)) (ce : Tryz.prog.cellsOf e = n) (hn : 0 < n)
 (elem : ∀ (k : Nat) (cs : List Value) (y : DataW H × List MemPlace), DataW.trod enc Tryz.prog W 0 (fun _ => true) true k e cs = some y → ∃ q : α, cs = f q ∧ Q q)
 (hval : Value.okWide Tryz.prog W r b0 t v) (hd : DataW.Trod enc Tryz.prog W 0 (fun _ => true) true t v d p) : ∃ l : List α, Rw n f W v l ∧ l.length ≤ maxLen ∧ ∀ q ∈ l, Q q := by
 obtain ⟨a0, len, cap, rfl⟩ := okWide_slice ht hval
 obtain ⟨fuel, hf⟩ := hd
 exact rows_of_trod ht ce hn elem hf
end
end
section
section
set_option linter.unusedVariables false
set_option linter.unusedSimpArgs false
set_option maxRecDepth 100000 in
theorem lg_of_trod {H : Type} {enc : TypeId × Value → H} {W : World} {k : Nat} {cs : List Value} {y : DataW H × List MemPlace}
 (h : DataW.trod enc Tryz.prog W 0 (fun _ => true) true k 34 cs = some y) : ∃ q : LgV × Lg, cs = lV q.1 ∧ okR W q.1 q.2 := by
 have hi : Tryz.prog.underlying 3 = some (.int .i64) := by kernel_rfl
 have hc : Tryz.prog.cellsOf 3 = 1 := by kernel_rfl
 have hc2 : Tryz.prog.cellsOf 32 = 1 := by kernel_rfl
 have hg : Tryz.prog.cellsOf 34 = 2 := by kernel_rfl
 obtain ⟨y0, y1, n, hx, hl, h0, h1⟩ := trod_struct2 Tryz.underlying34 h
 rw [hg] at hl
 match cs, hl with
 | [c0, c1], _ =>
   simp only [hc, hc2] at h0 h1
   obtain ⟨i, e0, r0, w0⟩ := DataW.trod_int hi h0
   simp at e0 h1
   obtain ⟨L, hL⟩ := train_of_trod h1
   obtain ⟨a, cap, rfl, -⟩ := hL.slice
   exact ⟨((i, a, L.length, cap), (i, L)), by rw [e0]; rfl, rfl, hL⟩
set_option maxRecDepth 100000 in
theorem open_logsArg {H : Type} {enc : TypeId × Value → H} {W : World} {r : Reach} {b0 : Nat} {v : Value} {d : DataW H} {p : List MemPlace}
 (hval : Value.okWide Tryz.prog W r b0 22 v) (hd : DataW.Trod enc Tryz.prog W 0 (fun _ => true) true 22 v d p) : ∃ (rs : List LgV) (ls : List Lg), Lgs W v rs ls ∧ ls.length ≤ maxLen := by
 obtain ⟨l, h, hl, hq⟩ := rows_of_arg (n := 2) (f := fun q : LgV × Lg => lV q.1) (Q := fun q => okR W q.1 q.2) Tryz.underlying22 (by kernel_rfl) (by decide) (fun k cs y h => lg_of_trod h) hval hd
 refine ⟨l.map (·.1), l.map (·.2), ⟨?_, by simp, fun k r t h1 h2 => ?_⟩, by simpa using hl⟩
 ·obtain ⟨a, cap, hv, hc, h⟩ := h
  refine ⟨a, cap, by rw [List.length_map]; exact hv, by rw [List.length_map]; exact hc, fun h0 => ?_⟩
  rw [List.length_map] at h0
  obtain ⟨b, off, ha, h⟩ := h h0
  refine ⟨b, off, ha, fun j x hj i u hu => ?_⟩
  rw [List.getElem?_map] at hj
  obtain ⟨q, hq1, rfl⟩ := Option.map_eq_some_iff.1 hj
  exact h j q hq1 i u hu
 ·rw [List.getElem?_map] at h1 h2
  obtain ⟨q, hq1, rfl⟩ := Option.map_eq_some_iff.1 h1
  rw [hq1] at h2
  cases h2
  exact hq q (List.mem_of_getElem? hq1)
end
end
end Go.Proofs.YtgpdalgfbfboaaaGreatDoor

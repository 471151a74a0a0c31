/- Rows of chapter 7: a log as an argument. -/
import Derived.Test.YtpmngcffkhbofaaGreatDoorRowBaV
import Derived.Test.YtpmngcffkhbofaaGreatDoorArrV
namespace Go.Proofs.YtpmngcffkhbofaaGreatDoor
section
open Go.ChangeShapes Go.WideShapes Go.ChangeAt Go.RowKit
set_option linter.unusedVariables false
set_option maxRecDepth 100000 in
theorem train_of_trod {H : Type} {enc : TypeId × Value → H} {W : World} {fuel : Nat} {v : Value} {x : DataW H × List MemPlace}
 (hf : DataW.trod enc Tryz.prog W 0 (fun _ => true) true fuel 22 [v] = some x) : ∃ l : List P2, Prs W v l := by
 have hi : Tryz.prog.underlying 3 = some (.int .i64) := by kernel_rfl
 have hc : Tryz.prog.cellsOf 3 = 1 := by kernel_rfl
 rcases Go.Deep.open_slice_pairs Tryz.underlying22 Tryz.underlying47 (by kernel_rfl) rfl rfl hc hc hf with ⟨hcs, hx⟩ | ⟨a, len', cap', m, n, V0, V1, D0, D1, P0, P1, hcs, _, hl, hm, hmm, hx, hcell⟩
 ·simp at hcs
  subst hcs
  exact ⟨[], Rw.nil 2 pV W none 0⟩
 ·simp at hcs
  subst hcs
  simp only [if_true] at hmm
  subst hmm
  have each : ∀ i, i < m → ∃ q : P2, W.cell? (a.add (i * 2)) = some (.int .i64 q.1) ∧ W.cell? (a.add (i * 2 + 1)) = some (.int .i64 q.2) := fun i hi' => by
   obtain ⟨e0, e1, t0, t1⟩ := hcell i hi'
   obtain ⟨x, x0, _, _⟩ := DataW.trod_int hi t0
   obtain ⟨y, y0, _, _⟩ := DataW.trod_int hi t1
   simp at x0 y0
   exact ⟨(x, y), by rw [e0, x0], by rw [e1, y0]⟩
  obtain ⟨q, hq⟩ := Go.Deep.choose_lt each
  refine ⟨(List.range len').map q, some a, m, by simp, by simpa using hl, fun h0 => ?_⟩
  simp at h0
  obtain ⟨b, off, spot⟩ := a
  have hspot : spot = none := by simpa [Addr.add] using World.cell?_spot (hq 0 (by omega)).1
  subst hspot
  refine ⟨b, off, rfl, fun j x hj => ?_⟩
  have hjl := (List.getElem?_eq_some_iff.1 hj).1
  simp at hjl
  rw [List.getElem?_map, List.getElem?_range hjl] at hj
  cases hj
  obtain ⟨h1, h2⟩ := hq j (by omega)
  rw [addr_add] at h1 h2
  intro i u hu
  match i, hu with
  | 0, hu => simp [pV] at hu; subst hu; rw [Nat.add_zero]; exact h1
  | 1, hu => simp [pV] at hu; subst hu; rw [← Nat.add_assoc] at h2; exact h2
  | i + 2, hu => simp [pV] at hu
set_option maxRecDepth 100000 in
theorem open_logArg {H : Type} {enc : TypeId × Value → H} {W : World} {r : Reach} {b0 : Nat} {v : Value} {d : DataW H} {p : List MemPlace}
 (hval : Value.okWide Tryz.prog W r b0 24 v) (hd : DataW.Trod enc Tryz.prog W 0 (fun _ => true) true 24 v d p) : ∃ (c : Int) (u : Value) (l : List P2), v = .agg #[.int .i64 c, u] ∧ Prs W u l := by
 have hi : Tryz.prog.underlying 3 = some (.int .i64) := by kernel_rfl
 have hc : Tryz.prog.cellsOf 3 = 1 := by kernel_rfl
 have hc2 : Tryz.prog.cellsOf 22 = 1 := by kernel_rfl
 have hg : Tryz.prog.cellsOf 24 = 2 := by kernel_rfl
 simp only [Value.okWide, Tryz.underlying24] at hval
 obtain ⟨cs, rfl, _, _⟩ := hval
 obtain ⟨fuel, hf⟩ := hd
 simp only [Value.cells] at hf
 obtain ⟨y0, y1, n, hx, hl, h0, h1⟩ := trod_struct2 Tryz.underlying24 hf
 rw [hg] at hl
 obtain ⟨l⟩ := cs
 match l, hl with
 | [c0, c1], _ =>
   simp only [hc, hc2] at h0 h1
   obtain ⟨i, e0, r0, w0⟩ := DataW.trod_int hi h0
   simp at e0 h1
   obtain ⟨L, hL⟩ := train_of_trod h1
   exact ⟨i, c1, L, by rw [e0], hL⟩
end
end Go.Proofs.YtpmngcffkhbofaaGreatDoor

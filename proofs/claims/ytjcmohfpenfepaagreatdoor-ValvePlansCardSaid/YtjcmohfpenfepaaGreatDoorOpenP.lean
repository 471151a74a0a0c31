/- An array of integers that came in: the numbers of the kind. -/
import Derived.Test.YtjcmohfpenfepaaGreatDoorVaA
import Derived.ProofKit
import Derived.OpenShut
import Derived.ChangeOld
import Derived.Test.YtjcmohfpenfepaaGreatDoorRowBaV
namespace Go.Proofs.YtjcmohfpenfepaaGreatDoor
open Go.ChangeShapes Go.WideShapes Go.ChangeAt Go.RowKit
section
section
set_option linter.unusedVariables false
end
end
section
section
set_option linter.unusedVariables false
set_option linter.unusedSimpArgs false
set_option maxRecDepth 100000 in
theorem rows_of_trod {α : Type} [Inhabited α] {n : Nat} {f : α → List Value} {Q : α → Prop} {H : Type} {enc : TypeId × Value → H} {W : World} {fuel : Nat} {t e : TypeId} {v : Value} {x : DataW H × List MemPlace}
 (ht : Tryz.prog.underlying t = some (.slice e)) (ce : Tryz.prog.cellsOf e = n) (hn : 0 < n)
 (elem : ∀ (k : Nat) (cs : List Value) (y : DataW H × List MemPlace), DataW.trod enc Tryz.prog W 0 (fun _ => true) true k e cs = some y → ∃ q : α, cs = f q ∧ Q q)
 (h : DataW.trod enc Tryz.prog W 0 (fun _ => true) true fuel t [v] = some x) : ∃ l : List α, Rw n f W v l ∧ l.length ≤ maxLen ∧ ∀ q ∈ l, Q q := by
 rcases Go.Deep.open_slice ht h with ⟨hcs, hx⟩ | ⟨a, len', cap', m, k, D, Pl, hcs, _, hl, hm, hmm, hx, hcell⟩
 ·simp at hcs
  subst hcs
  exact ⟨[], Rw.nil n f W none 0, by simp [maxLen], by simp⟩
 ·simp at hcs
  subst hcs
  simp only [if_true] at hmm
  subst hmm
  have each : ∀ i, i < m → ∃ q : α, Q q ∧ (f q).length = n ∧ ∀ j, j < n → W.cell? ((a.add (i * n)).add j) = (f q)[j]? := fun i hi => by
   obtain ⟨cs', h1, h2⟩ := hcell i hi
   rw [ce] at h1
   obtain ⟨q, rfl, hq⟩ := elem _ _ _ h2
   obtain ⟨_, hlen, hc⟩ := World.cells?_some h1
   exact ⟨q, hq, hlen, hc⟩
  obtain ⟨q, hq⟩ := Go.Deep.choose_lt each
  refine ⟨(List.range len').map q, ⟨some a, m, by simp, by simpa using hl, fun h0 => ?_⟩, by simp; omega, fun y hy => ?_⟩
  ·simp at h0
   obtain ⟨b, off, spot⟩ := a
   have h9 := (hq 0 (by omega)).2.2 0 hn
   rw [List.getElem?_eq_getElem (by rw [(hq 0 (by omega)).2.1]; exact hn)] at h9
   have hspot : spot = none := by simpa [Addr.add] using World.cell?_spot h9
   subst hspot
   refine ⟨b, off, rfl, fun j y hj i u hu => ?_⟩
   have hjl := (List.getElem?_eq_some_iff.1 hj).1
   simp at hjl
   rw [List.getElem?_map, List.getElem?_range hjl] at hj
   cases hj
   obtain ⟨_, hlen, hc⟩ := hq j (by omega)
   have hi : i < n := by have := (List.getElem?_eq_some_iff.1 hu).1; omega
   have := hc i hi
   rw [addr_add, addr_add, hu] at this
   exact this
  ·obtain ⟨j, hj, rfl⟩ := List.mem_map.1 hy
   exact (hq j (by have := List.mem_range.1 hj; omega)).1
set_option maxRecDepth 100000 in
theorem rows_of_arg {α : Type} [Inhabited α] {n : Nat} {f : α → List Value} {Q : α → Prop} {H : Type} {enc : TypeId × Value → H} {W : World} {r : Reach} {b0 : Nat} {t e : TypeId} {v : Value} {d : DataW H} {p : List MemPlace}
 (ht : Tryz.prog.underlying t = some (.slice e)) (ce : Tryz.prog.cellsOf e = n) (hn : 0 < n)
 (elem : ∀ (k : Nat) (cs : List Value) (y : DataW H × List MemPlace), DataW.trod enc Tryz.prog W 0 (fun _ => true) true k e cs = some y → ∃ q : α, cs = f q ∧ Q q)
 (hval : Value.okWide Tryz.prog W r b0 t v) (hd : DataW.Trod enc Tryz.prog W 0 (fun _ => true) true t v d p) : ∃ l : List α, Rw n f W v l ∧ l.length ≤ maxLen ∧ ∀ q ∈ l, Q q := by
 obtain ⟨a0, len, cap, rfl⟩ := okWide_slice ht hval
 obtain ⟨fuel, hf⟩ := hd
 exact rows_of_trod ht ce hn elem hf
end
end
section
section
set_option linter.unusedVariables false
set_option linter.unusedSimpArgs false
theorem ints_of_rw {W : World} {v : Value} {l : List Int} (h : Rw 1 nV W v l) : Ints W v l := by
 obtain ⟨a, cap, hv, hc, h⟩ := h
 refine ⟨a, cap, hv, hc, fun h0 => ?_⟩
 obtain ⟨b, off, ha, h⟩ := h h0
 refine ⟨b, off, ha, fun j hj => ?_⟩
 have := h j _ (List.getElem?_eq_getElem hj) 0 (.int .i64 l[j]) rfl
 rw [List.getElem?_eq_getElem hj]
 simpa using this
theorem int_of_trod {H : Type} {enc : TypeId × Value → H} {W : World} {k : Nat} {cs : List Value} {y : DataW H × List MemPlace}
 (h : DataW.trod enc Tryz.prog W 0 (fun _ => true) true k 3 cs = some y) : ∃ q : Int, cs = nV q ∧ True := by
 have hi : Tryz.prog.underlying 3 = some (.int .i64) := by kernel_rfl
 obtain ⟨i0, e0, _, _⟩ := DataW.trod_int hi h
 exact ⟨i0, e0, trivial⟩
set_option maxRecDepth 100000 in
theorem del_of_trod {H : Type} {enc : TypeId × Value → H} {W : World} {k : Nat} {cs : List Value} {y : DataW H × List MemPlace}
 (h : DataW.trod enc Tryz.prog W 0 (fun _ => true) true k 90 cs = some y) : ∃ q : P2, cs = pV q ∧ True := by
 have hi : Tryz.prog.underlying 3 = some (.int .i64) := by kernel_rfl
 have hc : Tryz.prog.cellsOf 3 = 1 := by kernel_rfl
 have hg : Tryz.prog.cellsOf 90 = 2 := by kernel_rfl
 obtain ⟨xs, n, _, _, hl, hlen, hf⟩ := DataW.trod_struct Tryz.underlying90 h
 rw [hg] at hl
 match cs, hl with
 | [c0, c1], _ =>
   match xs, hlen with
   | [y0, y1], _ =>
     have g0 := hf 0 _ rfl
     have g1 := hf 1 _ rfl
     simp only [hc, List.getElem?_cons_zero, List.getElem?_cons_succ] at g0 g1
     obtain ⟨i0, e0, _, _⟩ := DataW.trod_int hi g0
     obtain ⟨i1, e1, _, _⟩ := DataW.trod_int hi g1
     simp [hc] at e0 e1
     exact ⟨(i0, i1), by rw [e0, e1]; rfl, trivial⟩
set_option maxRecDepth 100000 in
theorem out_of_trod {H : Type} {enc : TypeId × Value → H} {W : World} {k : Nat} {cs : List Value} {y : DataW H × List MemPlace}
 (h : DataW.trod enc Tryz.prog W 0 (fun _ => true) true k 88 cs = some y) : ∃ q : I3, cs = iV q ∧ True := by
 have hi : Tryz.prog.underlying 3 = some (.int .i64) := by kernel_rfl
 have hc : Tryz.prog.cellsOf 3 = 1 := by kernel_rfl
 have hg : Tryz.prog.cellsOf 88 = 3 := by kernel_rfl
 obtain ⟨xs, n, _, _, hl, hlen, hf⟩ := DataW.trod_struct Tryz.underlying88 h
 rw [hg] at hl
 match cs, hl with
 | [c0, c1, c2], _ =>
   match xs, hlen with
   | [y0, y1, y2], _ =>
     have g0 := hf 0 _ rfl
     have g1 := hf 1 _ rfl
     have g2 := hf 2 _ rfl
     simp only [hc, List.getElem?_cons_zero, List.getElem?_cons_succ] at g0 g1 g2
     obtain ⟨i0, e0, _, _⟩ := DataW.trod_int hi g0
     obtain ⟨i1, e1, _, _⟩ := DataW.trod_int hi g1
     obtain ⟨i2, e2, _, _⟩ := DataW.trod_int hi g2
     simp [hc] at e0 e1 e2
     exact ⟨(i0, i1, i2), by rw [e0, e1, e2]; rfl, trivial⟩
set_option maxRecDepth 100000 in
theorem mod_of_trod {H : Type} {enc : TypeId × Value → H} {W : World} {k : Nat} {cs : List Value} {y : DataW H × List MemPlace}
 (h : DataW.trod enc Tryz.prog W 0 (fun _ => true) true k 143 cs = some y) : ∃ q : Mo, cs = mV q ∧ True := by
 have hi : Tryz.prog.underlying 3 = some (.int .i64) := by kernel_rfl
 have us : Tryz.prog.underlying 9 = some .string := by kernel_rfl
 have hc : Tryz.prog.cellsOf 3 = 1 := by kernel_rfl
 have hs : Tryz.prog.cellsOf 9 = 1 := by kernel_rfl
 have hg : Tryz.prog.cellsOf 143 = 4 := by kernel_rfl
 obtain ⟨xs, n, _, _, hl, hlen, hf⟩ := DataW.trod_struct Tryz.underlying143 h
 rw [hg] at hl
 match cs, hl with
 | [c0, c1, c2, c3], _ =>
   match xs, hlen with
   | [y0, y1, y2, y3], _ =>
     have g0 := hf 0 _ rfl
     have g1 := hf 1 _ rfl
     have g2 := hf 2 _ rfl
     have g3 := hf 3 _ rfl
     simp only [hc, hs, List.getElem?_cons_zero, List.getElem?_cons_succ] at g0 g1 g2 g3
     obtain ⟨s0, e0, _, _⟩ := DataW.trod_string us g0
     obtain ⟨i1, e1, _, _⟩ := DataW.trod_int hi g1
     obtain ⟨i2, e2, _, _⟩ := DataW.trod_int hi g2
     obtain ⟨i3, e3, _, _⟩ := DataW.trod_int hi g3
     simp [hc, hs] at e0 e1 e2 e3
     exact ⟨(s0, i1, i2, i3), by rw [e0, e1, e2, e3]; rfl, trivial⟩
instance : Inhabited Mo := ⟨(⟨#[]⟩, 0, 0, 0)⟩
set_option maxRecDepth 100000 in
theorem open_modsArg {H : Type} {enc : TypeId × Value → H} {W : World} {r : Reach} {b0 : Nat} {v : Value} {d : DataW H} {p : List MemPlace}
 (hval : Value.okWide Tryz.prog W r b0 48 v) (hd : DataW.Trod enc Tryz.prog W 0 (fun _ => true) true 48 v d p) : ∃ l : List Mo, Rw 4 mV W v l ∧ l.length ≤ maxLen := by
 obtain ⟨l, h, hl, _⟩ := rows_of_arg (n := 4) (f := mV) (Q := fun _ => True) Tryz.underlying48 (by kernel_rfl) (by decide) (fun k cs y h => mod_of_trod h) hval hd
 exact ⟨l, h, hl⟩
set_option maxRecDepth 100000 in
theorem open_outsArg {H : Type} {enc : TypeId × Value → H} {W : World} {r : Reach} {b0 : Nat} {v : Value} {d : DataW H} {p : List MemPlace}
 (hval : Value.okWide Tryz.prog W r b0 49 v) (hd : DataW.Trod enc Tryz.prog W 0 (fun _ => true) true 49 v d p) : ∃ l : List I3, Rw 3 iV W v l := by
 obtain ⟨l, h, _, _⟩ := rows_of_arg (n := 3) (f := iV) (Q := fun _ => True) Tryz.underlying49 (by kernel_rfl) (by decide) (fun k cs y h => out_of_trod h) hval hd
 exact ⟨l, h⟩
set_option maxRecDepth 100000 in
theorem open_plansArg {H : Type} {enc : TypeId × Value → H} {W : World} {r : Reach} {b0 : Nat} {v : Value} {d : DataW H} {p : List MemPlace}
 (hval : Value.okWide Tryz.prog W r b0 52 v) (hd : DataW.Trod enc Tryz.prog W 0 (fun _ => true) true 52 v d p) :
 ∃ (vp vq vd : Value) (pl ql : List Int) (ds : List P2), v = .agg #[vp, vq, vd] ∧ Ints W vp pl ∧ Ints W vq ql ∧ Prs W vd ds := by
 have hc : Tryz.prog.cellsOf 41 = 1 := by kernel_rfl
 have hc2 : Tryz.prog.cellsOf 50 = 1 := by kernel_rfl
 have hg : Tryz.prog.cellsOf 52 = 3 := by kernel_rfl
 simp only [Value.okWide, Tryz.underlying52] at hval
 obtain ⟨cs, rfl, _, _⟩ := hval
 obtain ⟨fuel, hf⟩ := hd
 simp only [Value.cells] at hf
 obtain ⟨xs, n, _, _, hl, hlen, hf⟩ := DataW.trod_struct Tryz.underlying52 hf
 rw [hg] at hl
 obtain ⟨l⟩ := cs
 match l, hl with
 | [c0, c1, c2], _ =>
   match xs, hlen with
   | [y0, y1, y2], _ =>
     have g0 := hf 0 _ rfl
     have g1 := hf 1 _ rfl
     have g2 := hf 2 _ rfl
     simp [hc, hc2] at g0 g1 g2
     obtain ⟨l0, h0, _, _⟩ := rows_of_trod (n := 1) (f := nV) (Q := fun _ => True) Tryz.underlying41 (by kernel_rfl) (by decide) (fun k cs y h => int_of_trod h) g0
     obtain ⟨l1, h1, _, _⟩ := rows_of_trod (n := 1) (f := nV) (Q := fun _ => True) Tryz.underlying41 (by kernel_rfl) (by decide) (fun k cs y h => int_of_trod h) g1
     obtain ⟨l2, h2, _, _⟩ := rows_of_trod (n := 2) (f := pV) (Q := fun _ => True) Tryz.underlying50 (by kernel_rfl) (by decide) (fun k cs y h => del_of_trod h) g2
     exact ⟨c0, c1, c2, l0, l1, l2, rfl, ints_of_rw h0, ints_of_rw h1, h2⟩
end
end
end Go.Proofs.YtjcmohfpenfepaaGreatDoor

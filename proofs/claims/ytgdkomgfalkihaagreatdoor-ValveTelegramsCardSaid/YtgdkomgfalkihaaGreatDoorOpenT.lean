/- An array of integers that came in: the numbers of the kind. -/
import Derived.Test.YtgdkomgfalkihaaGreatDoorVaA
import Derived.ProofKit
import Derived.OpenShut
import Derived.ChangeOld
import Derived.Test.YtgdkomgfalkihaaGreatDoorRowBaV
namespace Go.Proofs.YtgdkomgfalkihaaGreatDoor
open Go.ChangeShapes Go.WideShapes Go.ChangeAt Go.RowKit
theorem mapM_some {α β : Type} (g : α → Option β) (l : List α) (ys : List β) (h : l.mapM g = some ys) : ys.length = l.length ∧ ∀ (i : Nat) (x : α) (y : β), l[i]? = some x → ys[i]? = some y → g x = some y := by
 induction l generalizing ys with
 | nil => simp at h; subst h; exact ⟨rfl, fun i x y hx => by simp at hx⟩
 | cons a l ih =>
   rw [List.mapM_cons] at h
   simp only [bind, Option.bind_eq_some_iff, pure, Option.some.injEq] at h
   obtain ⟨b, hb, zs, hz, rfl⟩ := h
   obtain ⟨h1, h2⟩ := ih zs hz
   refine ⟨by simp [h1], fun i x y hx hy => ?_⟩
   cases i with
   | zero => simp at hx hy; subst hx hy; exact hb
   | succ i => exact h2 i x y (by simpa using hx) (by simpa using hy)
theorem open_arr {P : Program} {H : Type} {enc : TypeId × Value → H} {W : World} {b0 : Nat} {T E : TypeId} {k : IntKind} {n : Nat} {v : Value} {d : DataW H} {p : List MemPlace}
 (hT : P.underlying T = some (.array n E)) (hE : P.underlying E = some (.int k)) (hcT : P.cellsOf T = n) (hcE : P.cellsOf E = 1)
 (hval : Value.okWide P W .any b0 T v) (hd : DataW.Trod enc P W 0 (fun _ => true) true T v d p) :
 ∃ l : List Int, l.length = n ∧ v = .agg (l.map (Value.int k)).toArray ∧ p = [] ∧ ∀ x ∈ l, (Lit.int k x).wf = true := by
 simp only [Value.okWide, hT] at hval
 obtain ⟨cs, rfl, hc, _⟩ := hval
 rw [hcT] at hc
 obtain ⟨fuel, hf⟩ := hd
 cases fuel with
 | zero => simp [DataW.trod] at hf
 | succ m =>
   rw [DataW.trod_step] at hf
   unfold DataW.trodStep at hf
   simp only [hT, Value.cells] at hf
   rw [if_pos (by rw [hcT]; simpa using hc), hcE] at hf
   obtain ⟨ys, hy, e1⟩ := Option.map_eq_some_iff.1 hf
   obtain ⟨hyl, hyg⟩ := mapM_some _ _ _ hy
   rw [List.length_range] at hyl
   have key : ∀ i, i < n → ∃ a, cs.toList[i]? = some (.int k a) ∧ (∀ y, ys[i]? = some y → y.2 = []) ∧ (Lit.int k a).wf = true := fun i hi => by
    have h1 := hyg i i (ys[i]'(by omega)) (by simp [hi]) (List.getElem?_eq_getElem _)
    obtain ⟨a, ea, e2, wa⟩ := DataW.trod_int hE h1
    refine ⟨a, ?_, fun y hy => ?_, wa⟩
    ·have h2 : (List.take 1 (List.drop (i * 1) cs.toList))[0]? = some (.int k a) := by rw [ea]; rfl
     rw [List.getElem?_take, if_pos (by omega), List.getElem?_drop, Nat.mul_one, Nat.add_zero] at h2
     exact h2
    ·rw [List.getElem?_eq_getElem (by omega)] at hy
     cases hy
     rw [e2]
   have hall : ∀ x ∈ cs.toList, ∃ a, x = .int k a ∧ (Lit.int k a).wf = true := fun x hx => by
    obtain ⟨i, hi⟩ := List.mem_iff_getElem?.1 hx
    have hin : i < n := by have := (List.getElem?_eq_some_iff.1 hi).1; simp at this; omega
    obtain ⟨a, ha, _, wa⟩ := key i hin
    rw [hi] at ha; cases ha
    exact ⟨a, rfl, wa⟩
   let f : Value → Int := fun v => match v with | .int _ a => a | _ => 0
   refine ⟨cs.toList.map f, by simp [hc], ?_, ?_, ?_⟩
   ·congr 1
    apply Array.toList_inj.1
    rw [List.map_map]
    simp only
    conv => lhs; rw [← List.map_id cs.toList]
    apply List.map_congr_left
    intro x hx
    obtain ⟨a, rfl, _⟩ := hall x hx
    rfl
   ·simp only [Prod.mk.injEq] at e1
    rw [← e1.2, List.flatMap_eq_nil_iff]
    intro y hy
    obtain ⟨i, hi⟩ := List.mem_iff_getElem?.1 hy
    have hin : i < n := by have := (List.getElem?_eq_some_iff.1 hi).1; omega
    obtain ⟨a, _, h2, _⟩ := key i hin
    exact h2 y hi
   ·intro x hx
    obtain ⟨v, hv, rfl⟩ := List.mem_map.1 hx
    obtain ⟨a, rfl, wa⟩ := hall v hv
    exact wa
theorem open_arr2 {P : Program} {H : Type} {enc : TypeId × Value → H} {W : World} {b0 : Nat} {T E : TypeId} {k : IntKind} {v : Value} {d : DataW H} {p : List MemPlace}
 (hT : P.underlying T = some (.array 2 E)) (hE : P.underlying E = some (.int k)) (hcT : P.cellsOf T = 2) (hcE : P.cellsOf E = 1)
 (hval : Value.okWide P W .any b0 T v) (hd : DataW.Trod enc P W 0 (fun _ => true) true T v d p) :
 ∃ a b : Int, v = .agg #[.int k a, .int k b] ∧ p = [] ∧ (Lit.int k a).wf = true ∧ (Lit.int k b).wf = true := by
 obtain ⟨l, hl, hv, hp, hw⟩ := open_arr hT hE hcT hcE hval hd
 match l, hl with
 | [a, b], _ => exact ⟨a, b, hv, hp, hw a (by simp), hw b (by simp)⟩
section
section
set_option linter.unusedVariables false
set_option maxRecDepth 100000 in
theorem train_of_trod {H : Type} {enc : TypeId × Value → H} {W : World} {fuel : Nat} {v : Value} {x : DataW H × List MemPlace}
 (hf : DataW.trod enc Tryz.prog W 0 (fun _ => true) true fuel 22 [v] = some x) : ∃ l : List P2, Prs W v l := by
 have hi : Tryz.prog.underlying 3 = some (.int .i64) := by kernel_rfl
 have hc : Tryz.prog.cellsOf 3 = 1 := by kernel_rfl
 rcases Go.Deep.open_slice_pairs Tryz.underlying22 Tryz.underlying119 (by kernel_rfl) rfl rfl hc hc hf with ⟨hcs, hx⟩ | ⟨a, len', cap', m, n, V0, V1, D0, D1, P0, P1, hcs, _, hl, hm, hmm, hx, hcell⟩
 ·simp at hcs
  subst hcs
  exact ⟨[], Rw.nil 2 pV W none 0⟩
 ·simp at hcs
  subst hcs
  simp only [if_true] at hmm
  subst hmm
  have each : ∀ i, i < m → ∃ q : P2, W.cell? (a.add (i * 2)) = some (.int .i64 q.1) ∧ W.cell? (a.add (i * 2 + 1)) = some (.int .i64 q.2) := fun i hi' => by
   obtain ⟨e0, e1, t0, t1⟩ := hcell i hi'
   obtain ⟨x, x0, _, _⟩ := DataW.trod_int hi t0
   obtain ⟨y, y0, _, _⟩ := DataW.trod_int hi t1
   simp at x0 y0
   exact ⟨(x, y), by rw [e0, x0], by rw [e1, y0]⟩
  obtain ⟨q, hq⟩ := Go.Deep.choose_lt each
  refine ⟨(List.range len').map q, some a, m, by simp, by simpa using hl, fun h0 => ?_⟩
  simp at h0
  obtain ⟨b, off, spot⟩ := a
  have hspot : spot = none := by simpa [Addr.add] using World.cell?_spot (hq 0 (by omega)).1
  subst hspot
  refine ⟨b, off, rfl, fun j x hj => ?_⟩
  have hjl := (List.getElem?_eq_some_iff.1 hj).1
  simp at hjl
  rw [List.getElem?_map, List.getElem?_range hjl] at hj
  cases hj
  obtain ⟨h1, h2⟩ := hq j (by omega)
  rw [addr_add] at h1 h2
  intro i u hu
  match i, hu with
  | 0, hu => simp [pV] at hu; subst hu; rw [Nat.add_zero]; exact h1
  | 1, hu => simp [pV] at hu; subst hu; rw [← Nat.add_assoc] at h2; exact h2
  | i + 2, hu => simp [pV] at hu
set_option maxRecDepth 100000 in
theorem open_logArg {H : Type} {enc : TypeId × Value → H} {W : World} {r : Reach} {b0 : Nat} {v : Value} {d : DataW H} {p : List MemPlace}
 (hval : Value.okWide Tryz.prog W r b0 24 v) (hd : DataW.Trod enc Tryz.prog W 0 (fun _ => true) true 24 v d p) : ∃ (c : Int) (u : Value) (l : List P2), v = .agg #[.int .i64 c, u] ∧ Prs W u l := by
 have hi : Tryz.prog.underlying 3 = some (.int .i64) := by kernel_rfl
 have hc : Tryz.prog.cellsOf 3 = 1 := by kernel_rfl
 have hc2 : Tryz.prog.cellsOf 22 = 1 := by kernel_rfl
 have hg : Tryz.prog.cellsOf 24 = 2 := by kernel_rfl
 simp only [Value.okWide, Tryz.underlying24] at hval
 obtain ⟨cs, rfl, _, _⟩ := hval
 obtain ⟨fuel, hf⟩ := hd
 simp only [Value.cells] at hf
 obtain ⟨y0, y1, n, hx, hl, h0, h1⟩ := trod_struct2 Tryz.underlying24 hf
 rw [hg] at hl
 obtain ⟨l⟩ := cs
 match l, hl with
 | [c0, c1], _ =>
   simp only [hc, hc2] at h0 h1
   obtain ⟨i, e0, r0, w0⟩ := DataW.trod_int hi h0
   simp at e0 h1
   obtain ⟨L, hL⟩ := train_of_trod h1
   exact ⟨i, c1, L, by rw [e0], hL⟩
end
end
section
section
set_option linter.unusedVariables false
set_option linter.unusedSimpArgs false
set_option maxRecDepth 100000 in
theorem rows_of_trod {α : Type} [Inhabited α] {n : Nat} {f : α → List Value} {Q : α → Prop} {H : Type} {enc : TypeId × Value → H} {W : World} {fuel : Nat} {t e : TypeId} {v : Value} {x : DataW H × List MemPlace}
 (ht : Tryz.prog.underlying t = some (.slice e)) (ce : Tryz.prog.cellsOf e = n) (hn : 0 < n)
 (elem : ∀ (k : Nat) (cs : List Value) (y : DataW H × List MemPlace), DataW.trod enc Tryz.prog W 0 (fun _ => true) true k e cs = some y → ∃ q : α, cs = f q ∧ Q q)
 (h : DataW.trod enc Tryz.prog W 0 (fun _ => true) true fuel t [v] = some x) : ∃ l : List α, Rw n f W v l ∧ l.length ≤ maxLen ∧ ∀ q ∈ l, Q q := by
 rcases Go.Deep.open_slice ht h with ⟨hcs, hx⟩ | ⟨a, len', cap', m, k, D, Pl, hcs, _, hl, hm, hmm, hx, hcell⟩
 ·simp at hcs
  subst hcs
  exact ⟨[], Rw.nil n f W none 0, by simp [maxLen], by simp⟩
 ·simp at hcs
  subst hcs
  simp only [if_true] at hmm
  subst hmm
  have each : ∀ i, i < m → ∃ q : α, Q q ∧ (f q).length = n ∧ ∀ j, j < n → W.cell? ((a.add (i * n)).add j) = (f q)[j]? := fun i hi => by
   obtain ⟨cs', h1, h2⟩ := hcell i hi
   rw [ce] at h1
   obtain ⟨q, rfl, hq⟩ := elem _ _ _ h2
   obtain ⟨_, hlen, hc⟩ := World.cells?_some h1
   exact ⟨q, hq, hlen, hc⟩
  obtain ⟨q, hq⟩ := Go.Deep.choose_lt each
  refine ⟨(List.range len').map q, ⟨some a, m, by simp, by simpa using hl, fun h0 => ?_⟩, by simp; omega, fun y hy => ?_⟩
  ·simp at h0
   obtain ⟨b, off, spot⟩ := a
   have h9 := (hq 0 (by omega)).2.2 0 hn
   rw [List.getElem?_eq_getElem (by rw [(hq 0 (by omega)).2.1]; exact hn)] at h9
   have hspot : spot = none := by simpa [Addr.add] using World.cell?_spot h9
   subst hspot
   refine ⟨b, off, rfl, fun j y hj i u hu => ?_⟩
   have hjl := (List.getElem?_eq_some_iff.1 hj).1
   simp at hjl
   rw [List.getElem?_map, List.getElem?_range hjl] at hj
   cases hj
   obtain ⟨_, hlen, hc⟩ := hq j (by omega)
   have hi : i < n := by have := (List.getElem?_eq_some_iff.1 hu).1; omega
   have := hc i hi
   rw [addr_add, addr_add, hu] at this
   exact this
  ·obtain ⟨j, hj, rfl⟩ := List.mem_map.1 hy
   exact (hq j (by have := List.mem_range.1 hj; omega)).1
set_option maxRecDepth 100000 in
theorem rows_of_arg {α : Type} [Inhabited α] {n : Nat} {f : α → List Value} {Q : α → Prop} {H : Type} {enc : TypeId × Value → H} {W : World} {r : Reach} {b0 : Nat} {t e : TypeId} {v : Value} {d : DataW H} {p : List MemPlace}
 (ht : Tryz.prog.underlying t = some (.slice e)) (ce : Tryz.prog.cellsOf e = n) (hn : 0 < n)
 (elem : ∀ (k : Nat) (cs : List Value) (y : DataW H × List MemPlace), DataW.trod enc Tryz.prog W 0 (fun _ => true) true k e cs = some y → ∃ q : α, cs = f q ∧ Q q)
 (hval : Value.okWide Tryz.prog W r b0 t v) (hd : DataW.Trod enc Tryz.prog W 0 (fun _ => true) true t v d p) : ∃ l : List α, Rw n f W v l ∧ l.length ≤ maxLen ∧ ∀ q ∈ l, Q q := by
 obtain ⟨a0, len, cap, rfl⟩ := okWide_slice ht hval
 obtain ⟨fuel, hf⟩ := hd
 exact rows_of_trod ht ce hn elem hf
set_option maxRecDepth 100000 in
theorem tg_of_trod {H : Type} {enc : TypeId × Value → H} {W : World} {k : Nat} {cs : List Value} {y : DataW H × List MemPlace}
 (h : DataW.trod enc Tryz.prog W 0 (fun _ => true) true k 151 cs = some y) : ∃ q : Tg, cs = tV q ∧ True := by
 have hi : Tryz.prog.underlying 3 = some (.int .i64) := by kernel_rfl
 have ha : Tryz.prog.underlying 110 = some (.array 4 3) := by kernel_rfl
 have hc : Tryz.prog.cellsOf 3 = 1 := by kernel_rfl
 have hc4 : Tryz.prog.cellsOf 110 = 4 := by kernel_rfl
 have hg : Tryz.prog.cellsOf 151 = 6 := by kernel_rfl
 obtain ⟨xs, n, _, _, hl, hlen, hf⟩ := DataW.trod_struct Tryz.underlying151 h
 rw [hg] at hl
 match cs, hl with
 | [c0, c1, c2, c3, c4, c5], _ =>
   match xs, hlen with
   | [y0, y1, y2], _ =>
     have g0 := hf 0 _ rfl
     have g1 := hf 1 _ rfl
     have g2 := hf 2 _ rfl
     simp only [hc, hc4, List.getElem?_cons_zero, List.getElem?_cons_succ] at g0 g1 g2
     obtain ⟨i0, e0, _, _⟩ := DataW.trod_int hi g0
     obtain ⟨i1, e1, _, _⟩ := DataW.trod_int hi g1
     obtain ⟨zs, m, _, _, hl4, hn4, hel⟩ := DataW.trod_array ha g2
     rw [hc] at hel
     have hz : ∀ i, i < 4 → ∃ z, zs[i]? = some z := fun i h => ⟨_, List.getElem?_eq_getElem (by rw [hn4]; exact h)⟩
     obtain ⟨z0, hz0⟩ := hz 0 (by decide)
     obtain ⟨z1, hz1⟩ := hz 1 (by decide)
     obtain ⟨z2, hz2⟩ := hz 2 (by decide)
     obtain ⟨z3, hz3⟩ := hz 3 (by decide)
     have q0 := hel 0 (by decide)
     have q1 := hel 1 (by decide)
     have q2 := hel 2 (by decide)
     have q3 := hel 3 (by decide)
     rw [hz0] at q0
     rw [hz1] at q1
     rw [hz2] at q2
     rw [hz3] at q3
     obtain ⟨j0, r0, _, _⟩ := DataW.trod_int hi q0
     obtain ⟨j1, r1, _, _⟩ := DataW.trod_int hi q1
     obtain ⟨j2, r2, _, _⟩ := DataW.trod_int hi q2
     obtain ⟨j3, r3, _, _⟩ := DataW.trod_int hi q3
     simp [hc, hc4] at e0 e1 r0 r1 r2 r3
     exact ⟨(i0, i1, j0, j1, j2, j3), by rw [e0, e1, r0, r1, r2, r3]; rfl, trivial⟩
set_option maxRecDepth 100000 in
theorem open_tgArg {H : Type} {enc : TypeId × Value → H} {W : World} {r : Reach} {b0 : Nat} {v : Value} {d : DataW H} {p : List MemPlace}
 (hval : Value.okWide Tryz.prog W r b0 52 v) (hd : DataW.Trod enc Tryz.prog W 0 (fun _ => true) true 52 v d p) : ∃ l : List Tg, Rw 6 tV W v l := by
 obtain ⟨l, h, _, _⟩ := rows_of_arg (n := 6) (f := tV) (Q := fun _ => True) Tryz.underlying52 (by kernel_rfl) (by decide) (fun k cs y h => tg_of_trod h) hval hd
 exact ⟨l, h⟩
end
end
end Go.Proofs.YtgdkomgfalkihaaGreatDoor

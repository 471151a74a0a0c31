/- An array of integers that came in: the numbers of the kind. -/
import Derived.Test.YtgdkomgfalkihaaGreatDoorVaA
import Derived.ProofKit
import Derived.OpenShut
import Derived.ChangeOld
import Derived.Test.YtgdkomgfalkihaaGreatDoorRowBaV
import Derived.Test.YtgdkomgfalkihaaGreatDoorVhH
namespace Go.Proofs.YtgdkomgfalkihaaGreatDoor
open Go.ChangeShapes Go.WideShapes Go.ChangeAt Go.RowKit
section
section
set_option linter.unusedVariables false
end
end
section
section
set_option linter.unusedVariables false
set_option linter.unusedSimpArgs false
set_option maxRecDepth 100000 in
theorem rows_of_trod {α : Type} [Inhabited α] {n : Nat} {f : α → List Value} {Q : α → Prop} {H : Type} {enc : TypeId × Value → H} {W : World} {fuel : Nat} {t e : TypeId} {v : Value} {x : DataW H × List MemPlace}
 (ht : Tryz.prog.underlying t = some (.slice e)) (ce : Tryz.prog.cellsOf e = n) (hn : 0 < n)
 (elem : ∀ (k : Nat) (cs : List Value) (y : DataW H × List MemPlace), DataW.trod enc Tryz.prog W 0 (fun _ => true) true k e cs = some y → ∃ q : α, cs = f q ∧ Q q)
 (h : DataW.trod enc Tryz.prog W 0 (fun _ => true) true fuel t [v] = some x) : ∃ l : List α, Rw n f W v l ∧ l.length ≤ maxLen ∧ ∀ q ∈ l, Q q := by
 rcases Go.Deep.open_slice ht h with ⟨hcs, hx⟩ | ⟨a, len', cap', m, k, D, Pl, hcs, _, hl, hm, hmm, hx, hcell⟩
 ·simp at hcs
  subst hcs
  exact ⟨[], Rw.nil n f W none 0, by simp [maxLen], by simp⟩
 ·simp at hcs
  subst hcs
  simp only [if_true] at hmm
  subst hmm
  have each : ∀ i, i < m → ∃ q : α, Q q ∧ (f q).length = n ∧ ∀ j, j < n → W.cell? ((a.add (i * n)).add j) = (f q)[j]? := fun i hi => by
   obtain ⟨cs', h1, h2⟩ := hcell i hi
   rw [ce] at h1
   obtain ⟨q, rfl, hq⟩ := elem _ _ _ h2
   obtain ⟨_, hlen, hc⟩ := World.cells?_some h1
   exact ⟨q, hq, hlen, hc⟩
  obtain ⟨q, hq⟩ := Go.Deep.choose_lt each
  refine ⟨(List.range len').map q, ⟨some a, m, by simp, by simpa using hl, fun h0 => ?_⟩, by simp; omega, fun y hy => ?_⟩
  ·simp at h0
   obtain ⟨b, off, spot⟩ := a
   have h9 := (hq 0 (by omega)).2.2 0 hn
   rw [List.getElem?_eq_getElem (by rw [(hq 0 (by omega)).2.1]; exact hn)] at h9
   have hspot : spot = none := by simpa [Addr.add] using World.cell?_spot h9
   subst hspot
   refine ⟨b, off, rfl, fun j y hj i u hu => ?_⟩
   have hjl := (List.getElem?_eq_some_iff.1 hj).1
   simp at hjl
   rw [List.getElem?_map, List.getElem?_range hjl] at hj
   cases hj
   obtain ⟨_, hlen, hc⟩ := hq j (by omega)
   have hi : i < n := by have := (List.getElem?_eq_some_iff.1 hu).1; omega
   have := hc i hi
   rw [addr_add, addr_add, hu] at this
   exact this
  ·obtain ⟨j, hj, rfl⟩ := List.mem_map.1 hy
   exact (hq j (by have := List.mem_range.1 hj; omega)).1
set_option maxRecDepth 100000 in
theorem rows_of_arg {α : Type} [Inhabited α] {n : Nat} {f : α → List Value} {Q : α → Prop} {H : Type} {enc : TypeId × Value → H} {W : World} {r : Reach} {b0 : Nat} {t e : TypeId} {v : Value} {d : DataW H} {p : List MemPlace}
 (ht : Tryz.prog.underlying t = some (.slice e)) (ce : Tryz.prog.cellsOf e = n) (hn : 0 < n)
 (elem : ∀ (k : Nat) (cs : List Value) (y : DataW H × List MemPlace), DataW.trod enc Tryz.prog W 0 (fun _ => true) true k e cs = some y → ∃ q : α, cs = f q ∧ Q q)
 (hval : Value.okWide Tryz.prog W r b0 t v) (hd : DataW.Trod enc Tryz.prog W 0 (fun _ => true) true t v d p) : ∃ l : List α, Rw n f W v l ∧ l.length ≤ maxLen ∧ ∀ q ∈ l, Q q := by
 obtain ⟨a0, len, cap, rfl⟩ := okWide_slice ht hval
 obtain ⟨fuel, hf⟩ := hd
 exact rows_of_trod ht ce hn elem hf
end
end
section
section
set_option linter.unusedVariables false
set_option linter.unusedSimpArgs false
theorem trod_f32 {H : Type} {enc : TypeId × Value → H} {P : Program} {w : World} {base : Nat} {spare : Nat → Bool} {held : Bool} {fuel : Nat} {t : TypeId} {cs : List Value} {x : DataW H × List MemPlace} {k : FloatKind} (ht : P.underlying t = some (.float k))
 (h : DataW.trod enc P w base spare held fuel t cs = some x) : ∃ b, cs = [.float k b] ∧ x = (.lit (.float k b), []) := by
 cases fuel with
 | zero => simp [DataW.trod] at h
 | succ n =>
   unfold DataW.trod at h
   rw [ht] at h
   split at h <;> simp_all
theorem row_of_trod {α : Type} {g : α → Value} {f : Value → α} (hfg : ∀ a, f (g a) = a) {H : Type} {enc : TypeId × Value → H} {W : World} {fuel n : Nat} {T e : TypeId} {cs : List Value} {y : DataW H × List MemPlace}
 (hT : Tryz.prog.underlying T = some (.array n e)) (hc : Tryz.prog.cellsOf e = 1) (hq : Tryz.prog.cellsOf T = n)
 (elem : ∀ (k : Nat) (c : List Value) (z : DataW H × List MemPlace), DataW.trod enc Tryz.prog W 0 (fun _ => true) true k e c = some z → ∃ a, c = [g a])
 (h : DataW.trod enc Tryz.prog W 0 (fun _ => true) true fuel T cs = some y) : ∃ l : List α, l.length = n ∧ cs = l.map g := by
 obtain ⟨zs, m, _, _, hl, hn, hel⟩ := DataW.trod_array hT h
 rw [hq] at hl
 rw [hc] at hel
 have key : ∀ i, i < n → ∃ a, cs[i]? = some (g a) := fun i hi => by
  have h1 := hel i hi
  rw [List.getElem?_eq_getElem (by omega)] at h1
  obtain ⟨a, ea⟩ := elem _ _ _ h1
  refine ⟨a, ?_⟩
  have h2 : (List.take 1 (List.drop (i * 1) cs))[0]? = some (g a) := by rw [ea]; rfl
  rw [List.getElem?_take, if_pos (by omega), List.getElem?_drop, Nat.mul_one, Nat.add_zero] at h2
  exact h2
 refine ⟨cs.map f, by simp [hl], ?_⟩
 rw [List.map_map]
 apply List.ext_getElem?
 intro i
 rw [List.getElem?_map]
 by_cases hi : i < n
 ·obtain ⟨a, ha⟩ := key i hi
  rw [ha]
  simp [hfg]
 ·rw [List.getElem?_eq_none (by omega)]; rfl
set_option maxRecDepth 100000 in
theorem open_acksArg {H : Type} {enc : TypeId × Value → H} {W : World} {r : Reach} {b0 : Nat} {v : Value} {d : DataW H} {p : List MemPlace}
 (hval : Value.okWide Tryz.prog W r b0 82 v) (hd : DataW.Trod enc Tryz.prog W 0 (fun _ => true) true 82 v d p) : ∃ l : List P2, Prs W v l := by
 have hi : Tryz.prog.underlying 3 = some (.int .i64) := by kernel_rfl
 have hc : Tryz.prog.cellsOf 3 = 1 := by kernel_rfl
 have hg : Tryz.prog.cellsOf 170 = 2 := by kernel_rfl
 obtain ⟨l, h, _, _⟩ := rows_of_arg (n := 2) (f := pV) (Q := fun _ => True) Tryz.underlying82 hg (by decide) (fun k cs y h => by
  obtain ⟨y0, y1, n, hx, hl, h0, h1⟩ := trod_struct2 Tryz.underlying170 h
  rw [hg] at hl
  match cs, hl with
  | [c0, c1], _ =>
    simp only [hc] at h0 h1
    obtain ⟨i, e0, _, _⟩ := DataW.trod_int hi h0
    obtain ⟨j, e1, _, _⟩ := DataW.trod_int hi h1
    simp at e0 e1
    exact ⟨(i, j), by rw [e0, e1]; rfl, trivial⟩) hval hd
 exact ⟨l, h⟩
set_option maxRecDepth 100000 in
theorem open_lifeArg {H : Type} {enc : TypeId × Value → H} {W : World} {r : Reach} {b0 : Nat} {v : Value} {d : DataW H} {p : List MemPlace}
 (hval : Value.okWide Tryz.prog W r b0 87 v) (hd : DataW.Trod enc Tryz.prog W 0 (fun _ => true) true 87 v d p) :
 ∃ (ws : List Int) (xs : List Nat) (lim : Nat) (f s t late : Int), v = .agg (lifA ws xs lim f s t late) ∧ ws.length = 12 ∧ xs.length = 12 := by
 have hi : Tryz.prog.underlying 3 = some (.int .i64) := by kernel_rfl
 have hf32 : Tryz.prog.underlying 84 = some (.float .f32) := by kernel_rfl
 have hc : Tryz.prog.cellsOf 3 = 1 := by kernel_rfl
 have hcf : Tryz.prog.cellsOf 84 = 1 := by kernel_rfl
 have hcI : Tryz.prog.cellsOf 83 = 12 := by kernel_rfl
 have hcF : Tryz.prog.cellsOf 85 = 12 := by kernel_rfl
 have hg : Tryz.prog.cellsOf 87 = 29 := by kernel_rfl
 simp only [Value.okWide, Tryz.underlying87] at hval
 obtain ⟨cs, rfl, _, _⟩ := hval
 obtain ⟨fuel, hf⟩ := hd
 simp only [Value.cells] at hf
 obtain ⟨ys, n, _, _, hl, hlen, hel⟩ := DataW.trod_struct Tryz.underlying87 hf
 rw [hg] at hl
 obtain ⟨l⟩ := cs
 have hl : l.length = 29 := hl
 match ys, hlen with
 | [y0, y1, y2, y3, y4, y5, y6], _ =>
   have g0 := hel 0 _ rfl
   have g1 := hel 1 _ rfl
   have g2 := hel 2 _ rfl
   have g3 := hel 3 _ rfl
   have g4 := hel 4 _ rfl
   have g5 := hel 5 _ rfl
   have g6 := hel 6 _ rfl
   simp only [List.getElem?_cons_zero, List.getElem?_cons_succ] at g0 g1 g2 g3 g4 g5 g6
   obtain ⟨ws, hws, k0⟩ := row_of_trod (g := Value.int .i64) (f := fun v => match v with | .int _ a => a | _ => 0) (fun _ => rfl) Tryz.undA12 hc hcI (fun k c z h => by obtain ⟨a, e, _, _⟩ := DataW.trod_int hi h; exact ⟨a, e⟩) g0
   obtain ⟨xs, hxs, k1⟩ := row_of_trod (g := Value.float .f32) (f := fun v => match v with | .float _ a => a | _ => 0) (fun _ => rfl) Tryz.undF12 hcf hcF (fun k c z h => by obtain ⟨a, e, _⟩ := trod_f32 hf32 h; exact ⟨a, e⟩) g1
   obtain ⟨lim, k2, _⟩ := trod_f32 hf32 g2
   obtain ⟨f, k3, _, _⟩ := DataW.trod_int hi g3
   obtain ⟨s, k4, _, _⟩ := DataW.trod_int hi g4
   obtain ⟨t, k5, _, _⟩ := DataW.trod_int hi g5
   obtain ⟨late, k6, _, _⟩ := DataW.trod_int hi g6
   refine ⟨ws, xs, lim, f, s, t, late, ?_, hws, hxs⟩
   have e0 : (l.toArray).toList = l := rfl
   have key : l = l.take 12 ++ ((l.drop 12).take 12 ++ ((l.drop 24).take 1 ++ ((l.drop 25).take 1 ++ ((l.drop 26).take 1 ++ ((l.drop 27).take 1 ++ (l.drop 28).take 1))))) := by
    have s1 : l.drop 28 = (l.drop 28).take 1 := by rw [List.take_of_length_le (by simp [hl])]
    have s2 : ∀ (a b : Nat), l.drop a = (l.drop a).take b ++ l.drop (a + b) := fun a b => by
     rw [← List.drop_drop, List.take_append_drop]
    rw [← s1]
    have := s2 27 1
    rw [← this]
    have := s2 26 1
    rw [← this]
    have := s2 25 1
    rw [← this]
    have := s2 24 1
    rw [← this]
    have := s2 12 12
    rw [← this]
    exact (List.take_append_drop 12 l).symm
   have q0 : l.take 12 = ws.map (Value.int .i64) := by simpa [hc, hcf, hcI, hcF] using k0
   have q1 : (l.drop 12).take 12 = xs.map (Value.float .f32) := by simpa [hc, hcf, hcI, hcF] using k1
   have q2 : (l.drop 24).take 1 = [.float .f32 lim] := by simpa [hc, hcf, hcI, hcF] using k2
   have q3 : (l.drop 25).take 1 = [.int .i64 f] := by simpa [hc, hcf, hcI, hcF] using k3
   have q4 : (l.drop 26).take 1 = [.int .i64 s] := by simpa [hc, hcf, hcI, hcF] using k4
   have q5 : (l.drop 27).take 1 = [.int .i64 t] := by simpa [hc, hcf, hcI, hcF] using k5
   have q6 : (l.drop 28).take 1 = [.int .i64 late] := by simpa [hc, hcf, hcI, hcF] using k6
   rw [q0, q1, q2, q3, q4, q5, q6] at key
   unfold lifA lifV
   rw [key]
   rfl
end
end
end Go.Proofs.YtgdkomgfalkihaaGreatDoor

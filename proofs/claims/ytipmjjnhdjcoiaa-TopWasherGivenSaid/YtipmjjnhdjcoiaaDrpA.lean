/- The law TopWasherDroop: the lines that it makes. -/
import Derived.Test.YtipmjjnhdjcoiaaFlowE
import Derived.Test.YtipmjjnhdjcoiaaPairs
import Derived.Maps.AppendAt
import Derived.RegionTactic
namespace Go.Proofs.Ytipmjjnhdjcoiaa
set_option linter.unusedSimpArgs false
set_option linter.unusedVariables false
open Go.RowKit

/-- a slice of bytes. -/
def BytesIs (w : World) (v : Value) (l : List Int) : Prop := ∃ b off cap, v = .slice (some ⟨b, off, none⟩) l.length cap ∧ l.length ≤ cap ∧ ∀ (j : Nat) (x : Int), l[j]? = some x → w.cell? ⟨b, off + j, none⟩ = some (.int .u8 x)
theorem BytesIs.carry {w w' : World} {v : Value} {l : List Int} (h : BytesIs w v l) (hb : Below w.heap.size w w') : BytesIs w' v l := by
  obtain ⟨b, off, cap, e, hc, h⟩ := h
  exact ⟨b, off, cap, e, hc, fun j x hx => cellb (h j x hx) hb⟩
/-- the power of a line at 0. -/
def pow3 (p0 p1 p2 : Int) : Nat → Int
  | 0 => p0 | 1 => p1 | _ => p2
/-- the lines: the power at 0, and the fall. -/
def drpL (l : List Int) (p0 p1 p2 : Int) (k : Nat) : List (Int × Int) := upto (fun i => (pow3 p0 p1 p2 i, 1 + l[i]?.getD 0 % 5)) k

theorem Blk.own_kept {w w1 : World} {B base e size n : Nat} {T : TypeId} {vs xs : List Value} {v : Value} (h : Blk w B T vs) (ho : w.ownsRow base e size v n xs) (hT : T ≠ e) (hg : w.grownBy w1 v.ownBlock) : Blk w1 B T vs := by
  refine h.kept hg (fun hrow => ?_)
  obtain ⟨h1, h2⟩ := ho
  rcases h2 with ⟨rfl, h2⟩ | ⟨g, cap, cur, rfl, hg', hh, hr⟩
  · simp [Value.ownBlock] at hrow
  · simp [Value.ownBlock] at hrow
    subst hrow
    unfold Blk at h
    rw [hh] at h
    injection h with h
    injection h with _ h3 _
    exact hT h3.symm

theorem Blk.one {w : World} {G : Nat} {T : TypeId} {x : Value} (h : Blk w G T [x]) (j : Nat) (u : Value) (hj : [x][j]? = some u) : w.cell? ((⟨G, 0, none⟩ : Addr).add j) = some u := by
  rw [addr_add, Nat.zero_add]; exact h.cell hj
/-- the values of a list of lines, each with its block. -/
def EachL (w : World) (us : List Value) (l : List Int) (p0 p1 p2 : Int) : Prop := ∀ (j : Nat) (u : Value), us[j]? = some u → ∃ g, u = .slice (some ⟨g, 0, none⟩) 2 2 ∧ Blk w g 56 [.int .i64 0, .int .i64 (pow3 p0 p1 p2 j), .int .i64 100, .int .i64 (pow3 p0 p1 p2 j - 100 * (1 + l[j]?.getD 0 % 5))]
theorem EachL.carry {w w' : World} {us : List Value} {l : List Int} {p0 p1 p2 : Int} (h : EachL w us l p0 p1 p2) (hb : Below w.heap.size w w') : EachL w' us l p0 p1 p2 := fun j u hj => by
  obtain ⟨g, e, hg⟩ := h j u hj
  exact ⟨g, e, hg.carry hb⟩
theorem EachL.own_kept {w w1 : World} {us xs : List Value} {l : List Int} {p0 p1 p2 : Int} {base n : Nat} {v : Value} (h : EachL w us l p0 p1 p2) (ho : w.ownsRow base 58 1 v n xs) (hg : w.grownBy w1 v.ownBlock) : EachL w1 us l p0 p1 p2 := fun j u hj => by
  obtain ⟨g, e, hb⟩ := h j u hj
  exact ⟨g, e, hb.own_kept ho (by decide) hg⟩
theorem EachL.snoc {w : World} {us : List Value} {l : List Int} {p0 p1 p2 : Int} (h : EachL w us l p0 p1 p2) {g : Nat} {P Q : Int} (hb : Blk w g 56 [.int .i64 0, .int .i64 P, .int .i64 100, .int .i64 Q]) (hP : P = pow3 p0 p1 p2 us.length) (hQ : Q = P - 100 * (1 + l[us.length]?.getD 0 % 5)) : EachL w (us ++ [.slice (some ⟨g, 0, none⟩) 2 2]) l p0 p1 p2 := fun j u hj => by
  rcases Nat.lt_or_ge j us.length with hlt | hge
  · rw [List.getElem?_append_left hlt] at hj
    exact h j u hj
  · rw [List.getElem?_append_right hge] at hj
    have hjl : ¬ us.length < j := fun hne => by
      rw [List.getElem?_eq_none (by simp; omega)] at hj
      cases hj
    obtain rfl : j = us.length := by omega
    rw [Nat.sub_self] at hj
    cases hj
    subst hP hQ
    exact ⟨g, rfl, hb⟩
/-- a slice of lines that is owned. -/
def OwnL (base : Nat) (w : World) (v : Value) (us : List Value) : Prop := w.ownsRow base 58 1 v us.length us
theorem OwnL.carry {base : Nat} {w w' : World} {v : Value} {us : List Value} (h : OwnL base w v us) (hb : Below w.heap.size w w') : OwnL base w' v us := own_below h hb
theorem EachL.lines {w : World} {us : List Value} {l : List Int} {p0 p1 p2 : Int} {base : Nat} {v : Value} (h : EachL w us l p0 p1 p2) (ho : w.ownsRow base 58 1 v us.length us) (hl : us.length = l.length) (h0 : 1 ≤ l.length) : LinesIs w v 100 (drpL l p0 p1 p2 l.length) := by
  have hlen : (drpL l p0 p1 p2 l.length).length = l.length := upto_length _ _
  obtain ⟨a, cap, e, hcap, hv⟩ := Vals.of_own ho
  obtain ⟨b, off, rfl, hc⟩ := hv (by omega)
  refine ⟨b, off, cap, by rw [e, hlen, hl], by omega, fun j x hx => ?_⟩
  have hjl : j < l.length := by have := (List.getElem?_eq_some_iff.1 hx).1; omega
  obtain ⟨u, hu⟩ : ∃ u, us[j]? = some u := ⟨_, List.getElem?_eq_getElem (by omega)⟩
  obtain ⟨g, rfl, hb⟩ := h j u hu
  have hxe : x = (pow3 p0 p1 p2 j, 1 + l[j]?.getD 0 % 5) := by
    unfold drpL upto at hx
    rw [List.getElem?_map, List.getElem?_range hjl] at hx
    exact (Option.some.inj hx).symm
  subst hxe
  exact ⟨_, hc j _ hu, g, 0, 2, rfl, Nat.le_refl _, hb.cell rfl, hb.cell rfl, hb.cell rfl, hb.cell rfl⟩

theorem Try.infoLine : (Try.prog.info? 58).map (fun i => (i.zero, i.size, i.bytes)) = some (some (.slice none 0 0), 1, 24) := by kernel_rfl

end Go.Proofs.Ytipmjjnhdjcoiaa

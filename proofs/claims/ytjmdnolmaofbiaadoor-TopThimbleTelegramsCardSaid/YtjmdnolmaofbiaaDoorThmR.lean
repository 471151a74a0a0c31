/- The law's lists: three rows of the call's own that grow side by side. -/
import Derived.Test.YtjmdnolmaofbiaaDoorThmQ
import Derived.Maps.AppendAt
namespace Go.Proofs.YtjmdnolmaofbiaaDoor
set_option linter.unusedSimpArgs false
set_option linter.unusedVariables false
open Go.RowKit

/-- rows of six small integers. -/
def Rows8 (w : World) (v : Value) (l : List E3) : Prop :=
  ∃ a cap, v = .slice a l.length cap ∧ (0 < l.length → ∃ b off, a = some ⟨b, off, none⟩ ∧ ∀ (j : Nat) (x : E3), l[j]? = some x → w.cell? ⟨b, off + j * 6, none⟩ = some (.int .i8 x.1) ∧ w.cell? ⟨b, off + j * 6 + 1, none⟩ = some (.int .i8 x.2.1) ∧ w.cell? ⟨b, off + j * 6 + 2, none⟩ = some (.int .i8 x.2.2.1) ∧ w.cell? ⟨b, off + j * 6 + 3, none⟩ = some (.int .i8 x.2.2.2.1) ∧ w.cell? ⟨b, off + j * 6 + 4, none⟩ = some (.int .i8 x.2.2.2.2.1) ∧ w.cell? ⟨b, off + j * 6 + 5, none⟩ = some (.int .i8 x.2.2.2.2.2))
theorem Rows8.carry {w w' : World} {v : Value} {l : List E3} (h : Rows8 w v l) (hb : Below w.heap.size w w') : Rows8 w' v l := by
  obtain ⟨a, cap, hv, h⟩ := h
  refine ⟨a, cap, hv, fun hl => ?_⟩
  obtain ⟨b, off, ha, h⟩ := h hl
  refine ⟨b, off, ha, fun j x hj => ?_⟩
  obtain ⟨c0, c1, c2, c3, c4, c5⟩ := h j x hj
  exact ⟨cellb c0 hb, cellb c1 hb, cellb c2 hb, cellb c3 hb, cellb c4 hb, cellb c5 hb⟩
/-- what is sent of a row. -/
def phE (x : E3) : E3 := (x.1.tmod 101, x.2.1.tmod 101, x.2.2.1.tmod 101, x.2.2.2.1.tmod 101, x.2.2.2.2.1.tmod 101, x.2.2.2.2.2.tmod 101)
def I8 (x : Int) : Prop := -128 ≤ x ∧ x ≤ 127
def E8 (x : E3) : Prop := I8 x.1 ∧ I8 x.2.1 ∧ I8 x.2.2.1 ∧ I8 x.2.2.2.1 ∧ I8 x.2.2.2.2.1 ∧ I8 x.2.2.2.2.2
theorem phE_sml (x : E3) : SmlE 100 (phE x) := ⟨tm101 _, tm101 _, tm101 _, tm101 _, tm101 _, tm101 _⟩
/-- the telegram j. -/
def teleF (s : Nat → E3) (c0 : Int) (j : Nat) : Tg := if j % 2 = 0 then tg1 (s (j / 2)) (c0 + (j / 2 : Nat)) else tg2 (s (j / 2)) (c0 + (j / 2 : Nat))
theorem tg1_ok {x : E3} (h : SmlE 100 x) (n : Int) : TgOk (tg1 x n) := by
  obtain ⟨h0, h1, h2, h3, h4, h5⟩ := h
  simp only [TgOk, tg1]
  omega
theorem tg2_ok {x : E3} (h : SmlE 100 x) (n : Int) : TgOk (tg2 x n) := by
  obtain ⟨h0, h1, h2, h3, h4, h5⟩ := h
  simp only [TgOk, tg2]
  omega
theorem teleF_ok {s : Nat → E3} (h : ∀ k, SmlE 100 (s k)) (c0 : Int) (j : Nat) : TgOk (teleF s c0 j) := by
  unfold teleF
  split
  · exact tg1_ok (h _) _
  · exact tg2_ok (h _) _
theorem teleF_src (s : Nat → E3) (c0 : Int) (j : Nat) : (teleF s c0 j).1 = 5 := by
  unfold teleF
  split <;> rfl
theorem teleF_cnt (s : Nat → E3) (c0 : Int) (j : Nat) : (teleF s c0 j).2.1 = (2 * c0 + (j : Int)) % 65536 := by
  unfold teleF
  split
  · simp only [tg1]; omega
  · simp only [tg2]; omega
/-- the rows of six that are sent. -/
def e3V (x : E3) : List Value := [.int .i64 x.1, .int .i64 x.2.1, .int .i64 x.2.2.1, .int .i64 x.2.2.2.1, .int .i64 x.2.2.2.2.1, .int .i64 x.2.2.2.2.2]
def OwE (w : World) (base : Nat) (v : Value) (l : List E3) : Prop := w.ownsRow base 37 6 v l.length (l.flatMap e3V)
theorem own_keep {w w' : World} {row : Option Nat} {base e size n : Nat} {v : Value} {xs : List Value} (h : w.ownsRow base e size v n xs) (hg : w.grownBy w' row) (hne : ∀ b, v.ownBlock = some b → row ≠ some b) : w'.ownsRow base e size v n xs := by
  obtain ⟨h1, h2⟩ := h
  refine ⟨h1, ?_⟩
  rcases h2 with h2 | ⟨g, cap, cur, rfl, hg', hh, r⟩
  · exact .inl h2
  · exact .inr ⟨g, cap, cur, rfl, hg', (hg.block g (Array.getElem?_eq_some_iff.1 hh).1 (fun e => hne g rfl e.symm)).trans hh, r⟩
/-- a world behind another one. -/
structure Since (W0 W : World) : Prop where
  below : Below W0.heap.size W0 W
theorem Since.carry {W0 W W' : World} (h : Since W0 W) (hb : Below W.heap.size W W') : Since W0 W' := ⟨bthen h.below hb⟩
/-- three rows. -/
structure Bag (H : Nat) (W : World) (a b c : Value) (ls : List E3) (cs bs : List Int) : Prop where
  oS : OwE W H a ls
  oC : OwB W H b cs
  oN : OwN W H c bs
  sc : ApV a b
  sn : ApV a c
  cn : ApV b c
  hs : H ≤ W.heap.size
theorem Bag.carry {H : Nat} {W W' : World} {a b c : Value} {ls : List E3} {cs bs : List Int} (h : Bag H W a b c ls cs bs) (hb : Below W.heap.size W W') : Bag H W' a b c ls cs bs :=
  ⟨own_below h.oS hb, own_below h.oC hb, own_below h.oN hb, h.sc, h.sn, h.cn, Nat.le_trans h.hs hb.size⟩
theorem ap_new {W : World} {base e size n : Nat} {u v v' : Value} {xs : List Value} (hu : W.ownsRow base e size u n xs) (h : ApV u v) (hat : v'.ownBlock = v.ownBlock ∨ v'.ownBlock = some W.heap.size) : ApV u v' := fun g h1 h2 => by
  rcases hat with e | e
  · exact h g h1 (e ▸ h2)
  · have := (World.ownsRow.lt hu g h1).2
    rw [e] at h2
    cases h2
    omega
theorem ApV.symm {a b : Value} (h : ApV a b) : ApV b a := fun g h1 h2 => h g h2 h1
theorem ap_row {a b : Value} (h : ApV a b) : ∀ g, b.ownBlock = some g → a.ownBlock ≠ some g := h.symm
theorem Bag.addS {H : Nat} {W w1 : World} {a b c v' : Value} {ls ls' : List E3} {cs bs : List Int} (h : Bag H W a b c ls cs bs) (hg : W.grownBy w1 a.ownBlock) (ho : OwE w1 H v' ls') (hat : v'.ownBlock = a.ownBlock ∨ v'.ownBlock = some W.heap.size) : Bag H w1 v' b c ls' cs bs :=
  ⟨ho, own_keep h.oC hg (fun g e => ap_row h.sc g e), own_keep h.oN hg (fun g e => ap_row h.sn g e), (ap_new h.oC h.sc.symm hat).symm, (ap_new h.oN h.sn.symm hat).symm, h.cn, Nat.le_trans h.hs hg.size⟩
theorem Bag.addC {H : Nat} {W w1 : World} {a b c v' : Value} {ls : List E3} {cs cs' bs : List Int} (h : Bag H W a b c ls cs bs) (hg : W.grownBy w1 b.ownBlock) (ho : OwB w1 H v' cs') (hat : v'.ownBlock = b.ownBlock ∨ v'.ownBlock = some W.heap.size) : Bag H w1 a v' c ls cs' bs :=
  ⟨own_keep h.oS hg (fun g e e' => h.sc g e e'), ho, own_keep h.oN hg (fun g e => ap_row h.cn g e), ap_new h.oS h.sc hat, h.sn, (ap_new h.oN h.cn.symm hat).symm, Nat.le_trans h.hs hg.size⟩
theorem Bag.addN {H : Nat} {W w1 : World} {a b c v' : Value} {ls : List E3} {cs bs bs' : List Int} (h : Bag H W a b c ls cs bs) (hg : W.grownBy w1 c.ownBlock) (ho : OwN w1 H v' bs') (hat : v'.ownBlock = c.ownBlock ∨ v'.ownBlock = some W.heap.size) : Bag H w1 a b v' ls cs bs' :=
  ⟨own_keep h.oS hg (fun g e e' => h.sn g e e'), own_keep h.oC hg (fun g e e' => h.cn g e e'), ho, h.sc, ap_new h.oS h.sn hat, ap_new h.oC h.cn hat, Nat.le_trans h.hs hg.size⟩
theorem own_setF {w : World} {base e size n B j : Nat} {v x : Value} {xs : List Value} (h : w.ownsRow base e size v n xs) (hB : ∀ g, v.ownBlock = some g → g ≠ B) : (w.setCell ⟨B, j, none⟩ x).ownsRow base e size v n xs := by
  refine ⟨h.1, ?_⟩
  rcases h.2 with h1 | ⟨g, cap, cur, hv, hg, hh, hr⟩
  · exact .inl h1
  · exact .inr ⟨g, cap, cur, hv, hg, (Below.heap_setCell _ _ _ _ (hB g (by rw [hv]; rfl))).trans hh, hr⟩
theorem Bag.setF {H B : Nat} {W : World} {a b c : Value} {ls : List E3} {cs bs : List Int} (h : Bag H W a b c ls cs bs) (h1 : ∀ g, b.ownBlock = some g → g < B) (h2 : ∀ g, c.ownBlock = some g → g < B) (h0 : ∀ g, a.ownBlock = some g → g < B) (j : Nat) (x : Value) : Bag H (W.setCell ⟨B, j, none⟩ x) a b c ls cs bs :=
  ⟨own_setF h.oS (fun g e => Nat.ne_of_lt (h0 g e)), own_setF h.oC (fun g e => Nat.ne_of_lt (h1 g e)), own_setF h.oN (fun g e => Nat.ne_of_lt (h2 g e)), h.sc, h.sn, h.cn, by simpa using h.hs⟩
theorem badN_le (bd : Nat → Bool) (n : Nat) : (badN bd n).length ≤ n := by
  have := came_bad_len bd n
  omega
theorem below_grow {H : Nat} {W w1 : World} {e size n : Nat} {v : Value} {xs : List Value} (ho : W.ownsRow H e size v n xs) (hs : H ≤ W.heap.size) (hg : W.grownBy w1 v.ownBlock) : Below H W w1 :=
  (Below.refl H W).grown hg hs (fun k hk => (World.ownsRow.lt ho k hk).1)
/-- an element of a pair. -/
theorem Tryd.undA2T : Tryd.prog.underlying 41 = some (.array 2 40) := by kernel_rfl
theorem idxT0 (a0 a1 a2 a3 a4 a5 b0 b1 b2 b3 b4 b5 : Int) (w : World) : Sem.run Tryd.prog (Instr.index 41 (.agg #[.int .i64 a0, .int .i64 a1, .int .i64 a2, .int .i64 a3, .int .i64 a4, .int .i64 a5, .int .i64 b0, .int .i64 b1, .int .i64 b2, .int .i64 b3, .int .i64 b4, .int .i64 b5]) (.int .i64 0)) w = .ok (.agg #[.int .i64 a0, .int .i64 a1, .int .i64 a2, .int .i64 a3, .int .i64 a4, .int .i64 a5]) w := by kernel_rfl
theorem idxT1 (a0 a1 a2 a3 a4 a5 b0 b1 b2 b3 b4 b5 : Int) (w : World) : Sem.run Tryd.prog (Instr.index 41 (.agg #[.int .i64 a0, .int .i64 a1, .int .i64 a2, .int .i64 a3, .int .i64 a4, .int .i64 a5, .int .i64 b0, .int .i64 b1, .int .i64 b2, .int .i64 b3, .int .i64 b4, .int .i64 b5]) (.int .i64 1)) w = .ok (.agg #[.int .i64 b0, .int .i64 b1, .int .i64 b2, .int .i64 b3, .int .i64 b4, .int .i64 b5]) w := by kernel_rfl
end Go.Proofs.YtjmdnolmaofbiaaDoor

/- Package valve: ChangeOver. -/
import Derived.Test.YtpmngcffkhbofaaGreatDoorVaM
namespace Go.Proofs.YtpmngcffkhbofaaGreatDoor
set_option linter.unusedSimpArgs false
set_option linter.unusedVariables false
open Go.RowKit Go.Maps
attribute [local go_sem] Oper.semAt_some
/-- the run of agreeing ticks, and the tick that goes on. -/
def coS (fr : Int) (s : Int × Int) (x : P2 × P2) : Int × Int := (if (x.1 != x.2 || decide (x.1.1 < fr)) = true then 0 else (if x.1.1 = s.2 then s.1 else 0) + 1, x.1.1 + 1)
def coG (fr hd : Int) : Int × Int → List (P2 × P2) → Option Int
 | _, [] => none
 | s, x :: l => if (coS fr s x).1 = hd then some ((coS fr s x).2 - hd) else coG fr hd (coS fr s x) l
def coSt (fr : Int) (l : List (P2 × P2)) : Int × Int := l.foldl (coS fr) (0, -1)
theorem coG_append (fr hd : Int) : ∀ (l r : List (P2 × P2)) (s : Int × Int), coG fr hd s l = none → coG fr hd s (l ++ r) = coG fr hd (l.foldl (coS fr) s) r
 | [], r, s, _ => rfl
 | x :: l, r, s, h => by
   rw [coG] at h
   split at h
   ·cases h
   ·rename_i hne
    rw [List.cons_append, coG, if_neg hne, coG_append fr hd l r _ h]; rfl
theorem coG_snoc_none {fr hd : Int} {l : List (P2 × P2)} {x : P2 × P2} (h : coG fr hd (0, -1) l = none) (hx : (coS fr (coSt fr l) x).1 ≠ hd) : coG fr hd (0, -1) (l ++ [x]) = none := by
 unfold coSt at hx
 rw [coG_append fr hd l [x] _ h, coG]
 rw [if_neg hx]; rfl
theorem coG_snoc_some {fr hd : Int} {l post : List (P2 × P2)} {x : P2 × P2} (h : coG fr hd (0, -1) l = none) (hx : (coS fr (coSt fr l) x).1 = hd) : coG fr hd (0, -1) (l ++ x :: post) = some (x.1.1 + 1 - hd) := by
 unfold coSt at hx
 rw [coG_append fr hd l _ _ h, coG]
 rw [if_pos hx]; rfl
theorem coSt_snoc (fr : Int) (l : List (P2 × P2)) (x : P2 × P2) : coSt fr (l ++ [x]) = coS fr (coSt fr l) x := by simp [coSt]
theorem coSt_rng (fr : Int) (l : List (P2 × P2)) (hr : ∀ x ∈ l, 0 ≤ x.1.1 ∧ x.1.1 ≤ 1000000) : (0 ≤ (coSt fr l).1 ∧ (coSt fr l).1 ≤ l.length) ∧ (-1 ≤ (coSt fr l).2 ∧ (coSt fr l).2 ≤ 1000001) := by
 revert hr
 refine snoc_ind (p := fun l => (∀ x ∈ l, 0 ≤ x.1.1 ∧ x.1.1 ≤ 1000000) → (0 ≤ (coSt fr l).1 ∧ (coSt fr l).1 ≤ l.length) ∧ (-1 ≤ (coSt fr l).2 ∧ (coSt fr l).2 ≤ 1000001)) (fun _ => by simp [coSt]) (fun l x ih hr => ?_) l
 have h1 := ih fun y hy => hr y (by simp [hy])
 have h2 := hr x (by simp)
 rw [coSt_snoc]
 simp only [coS, List.length_append, List.length_singleton]
 constructor
 ·split
  ·omega
  ·split <;> omega
 ·omega
/-- what a round of ChangeOver's loop works on. -/
structure CoC (w0 : World) (n : Nat) (RB F H B8 B9 : Nat) (fr hd run nx x0 x1 y0 y1 : Int) (wb : World) (W : World) : Prop where
 run : BlkI W RB 3 [run]
 nx : BlkI W (RB + 1) 3 [nx]
 fr : BlkI W F 3 [fr]
 hd : BlkI W (F + 1) 3 [hd]
 r8 : BlkI W H 3 [0]
 r9 : BlkI W (H + 1) 27 [0]
 b8 : BlkI W B8 104 [x0, x1]
 b9 : BlkI W B9 104 [y0, y1]
 kp : KeepsOthers w0 W
 kl : ∀ b, b ≠ RB → b ≠ RB + 1 → W.heap[b]? = w0.heap[b]?
 bl : Below n wb W
 sz : W.heap.size = w0.heap.size
 od : n ≤ F ∧ F + 1 < H ∧ H + 1 < RB ∧ RB + 1 < B8 ∧ RB + 1 < B9
theorem CoC.setRun {w0 wb W : World} {n RB F H B8 B9 : Nat} {fr hd run nx x0 x1 y0 y1 : Int} (h : CoC w0 n RB F H B8 B9 fr hd run nx x0 x1 y0 y1 wb W) (v : Int) : CoC w0 n RB F H B8 B9 fr hd v nx x0 x1 y0 y1 wb (W.setCell ⟨RB, 0, none⟩ (.int .i64 v)) := by
 have hod := h.od
 exact ⟨BlkI.set h.run 0 v, Blk.other h.nx (by omega) _, Blk.other h.fr (by omega) _, Blk.other h.hd (by omega) _, Blk.other h.r8 (by omega) _, Blk.other h.r9 (by omega) _, Blk.other h.b8 (by omega) _, Blk.other h.b9 (by omega) _,
  h.kp.trans (KeepsOthers.setCell _ _ _), fun b h1 h2 => (Below.heap_setCell _ _ _ _ h1).trans (h.kl b h1 h2), h.bl.setCell (by simp; omega) _, by rw [← h.sz]; simp [World.setCell], hod⟩
theorem CoC.setNx {w0 wb W : World} {n RB F H B8 B9 : Nat} {fr hd run nx x0 x1 y0 y1 : Int} (h : CoC w0 n RB F H B8 B9 fr hd run nx x0 x1 y0 y1 wb W) (v : Int) : CoC w0 n RB F H B8 B9 fr hd run v x0 x1 y0 y1 wb (W.setCell ⟨RB + 1, 0, none⟩ (.int .i64 v)) := by
 have hod := h.od
 exact ⟨Blk.other h.run (by omega) _, BlkI.set h.nx 0 v, Blk.other h.fr (by omega) _, Blk.other h.hd (by omega) _, Blk.other h.r8 (by omega) _, Blk.other h.r9 (by omega) _, Blk.other h.b8 (by omega) _, Blk.other h.b9 (by omega) _,
  h.kp.trans (KeepsOthers.setCell _ _ _), fun b h1 h2 => (Below.heap_setCell _ _ _ _ h2).trans (h.kl b h1 h2), h.bl.setCell (by simp; omega) _, by rw [← h.sz]; simp [World.setCell], hod⟩
theorem BlkI.c0 {W : World} {B : Nat} {T : TypeId} {x : Int} (h : BlkI W B T [x]) : W.cell? ⟨B, 0, none⟩ = some (.int .i64 x) := BlkI.cell h (j := 0) (by simp)
theorem BlkI.d0 {W : World} {B : Nat} {T : TypeId} {x y : Int} (h : BlkI W B T [x, y]) : W.cell? ⟨B, 0, none⟩ = some (.int .i64 x) := BlkI.cell h (j := 0) (by simp)
theorem BlkI.d1 {W : World} {B : Nat} {T : TypeId} {x y : Int} (h : BlkI W B T [x, y]) : W.cell? ⟨B, 1, none⟩ = some (.int .i64 y) := BlkI.cell h (j := 1) (by simp)
def chE1 (ca cb : Int) (la lb : List P2) (fr hd : Int) : Int := firstE [logE ca la, logE cb lb, withinE fr 0 100000, withinE hd 1 16]
def chO (la lb : List P2) (fr hd : Int) : Option Int := coG fr hd (0, -1) (bothL la lb)
def chN (o : Option Int) : Int := match o with | some _ => 0 | none => 7
def chE (ca cb : Int) (la lb : List P2) (fr hd : Int) : Int := if chE1 ca cb la lb fr hd = 0 then (chN (chO la lb fr hd)) else chE1 ca cb la lb fr hd
def chT (ca cb : Int) (la lb : List P2) (fr hd : Int) : Int := if chE1 ca cb la lb fr hd = 0 then (chO la lb fr hd).getD 0 else 0
def CoI (w : World) (RB F H N : Nat) (fr hd : Int) (pre : List (P2 × P2)) (W : World) : Prop :=
 coG fr hd (0, -1) pre = none ∧ BlkI W RB 3 [(coSt fr pre).1] ∧ BlkI W (RB + 1) 3 [(coSt fr pre).2] ∧ BlkI W F 3 [fr] ∧ BlkI W (F + 1) 3 [hd] ∧ BlkI W H 3 [0] ∧ BlkI W (H + 1) 27 [0] ∧ Below w.heap.size w W ∧ N ≤ W.heap.size
def CoX (w : World) (H : Nat) (fr hd : Int) (L : List (P2 × P2)) (c : Code) (pre : List (P2 × P2)) (W : World) : Prop :=
 c = .ret ∧ ∃ t, coG fr hd (0, -1) L = some t ∧ BlkI W H 3 [t] ∧ BlkI W (H + 1) 27 [0] ∧ Below w.heap.size w W
theorem CoI.own (w : World) (RB F H N : Nat) (fr hd : Int) {B : Nat} (hB : w.heap.size ≤ B) : OwnFrom B (CoI w RB F H N fr hd) := by
 rintro pre A B' row ⟨h1, h2, h3, h4, h5, h6, h7, h8, h9⟩ hg hr
 have hb : ∀ {k : Nat} {T : TypeId} {vs : List Value}, Blk A k T vs → Blk B' k T vs := fun hk => blk_own hk hg (fun r e => ne_of_blk hk (hr r e).2)
 exact ⟨h1, hb h2, hb h3, hb h4, hb h5, hb h6, hb h7, below_grown h8 hg (fun r e => by have := (hr r e).1; omega) (Nat.le_refl _), Nat.le_trans h9 hg.size⟩
theorem CoX.own (w : World) (H : Nat) (fr hd : Int) (L : List (P2 × P2)) {B : Nat} (hB : w.heap.size ≤ B) (c : Code) : OwnFrom B (CoX w H fr hd L c) := by
 rintro pre A B' row ⟨h1, t, h2, h3, h4, h5⟩ hg hr
 have hb : ∀ {k : Nat} {T : TypeId} {vs : List Value}, Blk A k T vs → Blk B' k T vs := fun hk => blk_own hk hg (fun r e => ne_of_blk hk (hr r e).2)
 exact ⟨h1, t, h2, hb h3, hb h4, below_grown h5 hg (fun r e => by have := (hr r e).1; omega) (Nat.le_refl _)⟩
/-- two cells of results, set. -/
def setC (W : World) (H : Nat) (t e : Int) : World := (W.setCell ⟨H, 0, none⟩ (.int .i64 t)).setCell ⟨H + 1, 0, none⟩ (.int .i64 e)
theorem setC_facts {W : World} {H : Nat} {a b : Int} (h0 : BlkI W H 3 [a]) (h1 : BlkI W (H + 1) 27 [b]) (t e : Int) : BlkI (setC W H t e) H 3 [t] ∧ BlkI (setC W H t e) (H + 1) 27 [e] :=
 ⟨Blk.other (BlkI.set h0 0 t) (by omega) _, BlkI.set (Blk.other h1 (by omega) _) 0 e⟩
theorem setC_below {w W : World} {H n : Nat} (h : Below n w W) (hn : n ≤ H) (t e : Int) : Below n w (setC W H t e) := (h.setCell (by simpa using hn) _).setCell (by simp; omega) _
theorem setC_keeps (W : World) (H : Nat) (t e : Int) : KeepsOthers W (setC W H t e) := (KeepsOthers.setCell _ _ _).trans (KeepsOthers.setCell _ _ _)
set_option maxRecDepth 100000 in
set_option maxHeartbeats 8000000 in
theorem ChangeOver_any (ca cb fr hd : Int) (a1 a2 : Option Addr) (n1 c1 n2 c2 : Nat) (la lb : List P2) (w : World) (hla : la.length ≤ 500000) (hlb : lb.length ≤ 500000) (hva : Prs w (.slice a1 n1 c1) la) (hvb : Prs w (.slice a2 n2 c2) lb) :
 Calls Tryz.prog 22 #[.agg #[.int .i64 ca, .slice a1 n1 c1], .agg #[.int .i64 cb, .slice a2 n2 c2], .int .i64 fr, .int .i64 hd] w fun r w' => r = .returned (.tuple #[.int .i64 (chT ca cb la lb fr hd), .int .i64 (chE ca cb la lb fr hd)]) ∧ Below w.heap.size w w' := by
 have T0 := Lib.hid (fun W (h : Prs W (.slice a1 n1 c1) la) => logCheck_any ca a1 n1 c1 la W (by omega) h)
 have T1 := Lib.hid (fun W (h : Prs W (.slice a2 n2 c2) lb) => logCheck_any cb a2 n2 c2 lb W (by omega) h)
 have T2 := Lib.hid (fun W => within_any fr 0 100000 W)
 have T3 := Lib.hid (fun W => within_any hd 1 16 W)
 have hE : chE1 ca cb la lb fr hd = firstE [logE ca la, logE cb lb, withinE fr 0 100000, withinE hd 1 16] := rfl
 have hok : chE1 ca cb la lb fr hd = 0 → (TrOk la ∧ TrOk lb) ∧ (0 ≤ fr ∧ fr ≤ 100000) ∧ (1 ≤ hd ∧ hd ≤ 16) := fun h => by
  rw [hE, firstE_cons0, firstE_cons0, firstE_cons0, firstE_cons0, withinE_zero, withinE_zero] at h
  unfold logE at h
  rw [firstE_cons0, firstE_cons0, firstE_cons0, firstE_cons0] at h
  exact ⟨⟨trainE_ok h.1.2.1, trainE_ok h.2.1.2.1⟩, h.2.2.1, h.2.2.2.1⟩
 have hO0 : chE1 ca cb la lb fr hd ≠ 0 → chE ca cb la lb fr hd = chE1 ca cb la lb fr hd ∧ chT ca cb la lb fr hd = 0 := fun h => ⟨by unfold chE; rw [if_neg h], by unfold chT; rw [if_neg h]⟩
 have hO1 : chE1 ca cb la lb fr hd = 0 → chE ca cb la lb fr hd = (chN (chO la lb fr hd)) ∧ chT ca cb la lb fr hd = (chO la lb fr hd).getD 0 := fun h => ⟨by unfold chE; rw [if_pos h], by unfold chT; rw [if_pos h]⟩
 have HN1 := Lib.hid hva.len
 have HVA := Lib.hid hva
 obtain ⟨e0, he0⟩ : ∃ e, e = logE ca la := ⟨_, rfl⟩
 obtain ⟨e1, he1⟩ : ∃ e, e = logE cb lb := ⟨_, rfl⟩
 obtain ⟨e2, he2⟩ : ∃ e, e = withinE fr 0 100000 := ⟨_, rfl⟩
 obtain ⟨e3, he3⟩ : ∃ e, e = withinE hd 1 16 := ⟨_, rfl⟩
 rw [← he0] at T0 hE
 rw [← he1] at T1 hE
 rw [← he2] at T2 hE
 rw [← he3] at T3 hE
 have TF := Lib.hid (fun (u : Value) (W : World) (h : Ints W u [e0, e1, e2, e3]) => first_any u _ W (by simp [maxLen]) h)
 rw [← hE] at TF
 obtain ⟨E, hEE⟩ : ∃ E, E = chE1 ca cb la lb fr hd := ⟨_, rfl⟩
 obtain ⟨E2, hE2⟩ : ∃ E, E = chE ca cb la lb fr hd := ⟨_, rfl⟩
 obtain ⟨T2', hT2⟩ : ∃ E, E = chT ca cb la lb fr hd := ⟨_, rfl⟩
 rw [← hEE] at TF hok hO0 hO1
 rw [← hE2] at hO0 hO1 ⊢
 rw [← hT2] at hO0 hO1 ⊢
 have HOK := Lib.hid hok
 have HO0 := Lib.hid hO0
 have HO1 := Lib.hid hO1
 clear hE he0 he1 he2 he3 hEE hE2 hT2 hok hO0 hO1
 refine calls_of_postR Tryz.func22 rfl ?_
 simp only [Tryz.ntmps22, List.size_toArray, List.length_cons, List.length_nil, Nat.reduceAdd, Nat.reduceSub, Array.replicate_succ, Array.replicate_zero, List.push_toArray, List.append_toArray, List.nil_append, List.cons_append]
 go_upto_region 1 with fail
 obtain ⟨W1, hW1⟩ : ∃ v, v = World.alloc w (Obj.cells #[.int .i64 ca, .slice a1 n1 c1] 32) := ⟨_, rfl⟩
 have kW1 : Below w.heap.size w W1 := by rw [hW1]; exact below_new _ _
 have iW1 : Blk W1 (w.heap.size) 32 [.int .i64 ca, .slice a1 n1 c1] := by rw [hW1]; exact Blk.new _ _ _
 have sW1 : W1.heap.size = w.heap.size + 1 := by rw [hW1]; simp
 rw [← hW1]
 clear hW1
 obtain ⟨W2, hW2⟩ : ∃ v, v = World.alloc W1 (Obj.cells #[.int .i64 cb, .slice a2 n2 c2] 32) := ⟨_, rfl⟩
 have kW2 : Below W1.heap.size W1 W2 := by rw [hW2]; exact below_new _ _
 have iW2 : Blk W2 (w.heap.size + 1) 32 [.int .i64 cb, .slice a2 n2 c2] := by rw [hW2, ← sW1]; exact Blk.new _ _ _
 have sW2 : W2.heap.size = w.heap.size + 1 + 1 := by rw [hW2]; simp [sW1]
 rw [← hW2]
 clear hW2
 obtain ⟨W3, hW3⟩ : ∃ v, v = World.alloc W2 (Obj.cells #[.int .i64 fr] 3) := ⟨_, rfl⟩
 have kW3 : Below W2.heap.size W2 W3 := by rw [hW3]; exact below_new _ _
 have iW3 : Blk W3 (w.heap.size + 1 + 1) 3 [.int .i64 fr] := by rw [hW3, ← sW2]; exact Blk.new _ _ _
 have sW3 : W3.heap.size = w.heap.size + 1 + 1 + 1 := by rw [hW3]; simp [sW2]
 rw [← hW3]
 clear hW3
 obtain ⟨W4, hW4⟩ : ∃ v, v = World.alloc W3 (Obj.cells #[.int .i64 hd] 3) := ⟨_, rfl⟩
 have kW4 : Below W3.heap.size W3 W4 := by rw [hW4]; exact below_new _ _
 have iW4 : Blk W4 (w.heap.size + 1 + 1 + 1) 3 [.int .i64 hd] := by rw [hW4, ← sW3]; exact Blk.new _ _ _
 have sW4 : W4.heap.size = w.heap.size + 1 + 1 + 1 + 1 := by rw [hW4]; simp [sW3]
 rw [← hW4]
 clear hW4
 obtain ⟨W5, hW5⟩ : ∃ v, v = World.alloc W4 (Obj.cells #[.int .i64 0] 3) := ⟨_, rfl⟩
 have kW5 : Below W4.heap.size W4 W5 := by rw [hW5]; exact below_new _ _
 have iW5 : Blk W5 (w.heap.size + 1 + 1 + 1 + 1) 3 [.int .i64 0] := by rw [hW5, ← sW4]; exact Blk.new _ _ _
 have sW5 : W5.heap.size = w.heap.size + 1 + 1 + 1 + 1 + 1 := by rw [hW5]; simp [sW4]
 rw [← hW5]
 clear hW5
 obtain ⟨W6, hW6⟩ : ∃ v, v = World.alloc W5 (Obj.cells #[.int .i64 0] 27) := ⟨_, rfl⟩
 have kW6 : Below W5.heap.size W5 W6 := by rw [hW6]; exact below_new _ _
 have iW6 : Blk W6 (w.heap.size + 1 + 1 + 1 + 1 + 1) 27 [.int .i64 0] := by rw [hW6, ← sW5]; exact Blk.new _ _ _
 have sW6 : W6.heap.size = w.heap.size + 1 + 1 + 1 + 1 + 1 + 1 := by rw [hW6]; simp [sW5]
 rw [← hW6]
 clear hW6
 have kB := bthen (bthen kW3 kW4) (bthen kW5 kW6)
 have i1 := iW1.carry (bthen kW2 kB)
 have i2 := iW2.carry kB
 have i3 : BlkI W6 (w.heap.size + 1 + 1) 3 [fr] := iW3.carry (bthen kW4 (bthen kW5 kW6))
 have i4 : BlkI W6 (w.heap.size + 1 + 1 + 1) 3 [hd] := iW4.carry (bthen kW5 kW6)
 have i5 : BlkI W6 (w.heap.size + 1 + 1 + 1 + 1) 3 [0] := iW5.carry kW6
 have i6 : BlkI W6 (w.heap.size + 1 + 1 + 1 + 1 + 1) 27 [0] := iW6
 have hB := bthen (bthen kW1 kW2) kB
 have a0 := i1.cell (j := 0) (v := .int .i64 ca) rfl
 have a1' := i1.cell (j := 1) (v := .slice a1 n1 c1) rfl
 have b0 := i2.cell (j := 0) (v := .int .i64 cb) rfl
 have b1 := i2.cell (j := 1) (v := .slice a2 n2 c2) rfl
 replace hva := hva.carry hB
 replace hvb := hvb.carry hB
 clear iW1 sW1 kW1 iW2 sW2 kW2 iW3 sW3 kW3 iW4 sW4 kW4 iW5 sW5 kW5 iW6 sW6 kW6 kB i1 i2
 have d3 := BlkI.c0 i3
 have d4 := BlkI.c0 i4
 refine wp_region_E 10 (by kernel_rfl) ?_
 obtain ⟨wz, hwz⟩ : ∃ v, v = W6.drew := ⟨_, rfl⟩
 rw [← hwz]
 have hlz : Below W6.heap.size W6 wz := by rw [hwz]; exact (Below.refl _ _).drew
 have hbz := bthen hB hlz
 have a0 := cellb a0 hlz
 have a1' := cellb a1' hlz
 have b0 := cellb b0 hlz
 have b1 := cellb b1 hlz
 have d3 := cellb d3 hlz
 have d4 := cellb d4 hlz
 have hva := hva.carry hlz
 have hvb := hvb.carry hlz
 have i3 := i3.carry hlz
 have i4 := i4.carry hlz
 have i5 := i5.carry hlz
 have i6 := i6.carry hlz
 clear hwz hlz
 refine zV 0 ⟨some 15, .load 32 (.tmp 4), 32, "valve.go:157", #[], none⟩ rfl ?_ (hv := fun w hE => by have a0 := cellb a0 hE; have a1' := cellb a1' hE; have b0 := cellb b0 hE; have b1 := cellb b1 hE; have d3 := cellb d3 hE; have d4 := cellb d4 hE; (try dsimp only); go_simp; try rfl)
 simp only [Act.put, zS]
 refine zV 2 ⟨some 17, .load 32 (.tmp 5), 32, "valve.go:157", #[], none⟩ rfl ?_ (hv := fun w hE => by have a0 := cellb a0 hE; have a1' := cellb a1' hE; have b0 := cellb b0 hE; have b1 := cellb b1 hE; have d3 := cellb d3 hE; have d4 := cellb d4 hE; (try dsimp only); go_simp; try rfl)
 simp only [Act.put, zS]
 refine zV 4 ⟨some 19, .load 3 (.tmp 6), 3, "valve.go:157", #[], none⟩ rfl ?_ (hv := fun w hE => by have a0 := cellb a0 hE; have a1' := cellb a1' hE; have b0 := cellb b0 hE; have b1 := cellb b1 hE; have d3 := cellb d3 hE; have d4 := cellb d4 hE; (try dsimp only); go_simp; try rfl)
 simp only [Act.put, zS]
 refine zV 6 ⟨some 21, .load 3 (.tmp 7), 3, "valve.go:157", #[], none⟩ rfl ?_ (hv := fun w hE => by have a0 := cellb a0 hE; have a1' := cellb a1' hE; have b0 := cellb b0 hE; have b1 := cellb b1 hE; have d3 := cellb d3 hE; have d4 := cellb d4 hE; (try dsimp only); go_simp; try rfl)
 simp only [Act.put, zS]
 refine zB 1 ⟨some 16, .call ⟨.value (.func 42), #[.tmp 15], #[32]⟩, 27, "valve.go:157", #[⟨0, .data⟩], none⟩ (fun w hE => T0.out w (hva.carry hE)) rfl ?_
 simp only [Act.put, zS]
 refine zB 3 ⟨some 18, .call ⟨.value (.func 42), #[.tmp 17], #[32]⟩, 27, "valve.go:157", #[⟨2, .data⟩, ⟨1, .chain⟩], none⟩ (fun w hE => T1.out w (hvb.carry hE)) rfl ?_
 simp only [Act.put, zS]
 refine zB 5 ⟨some 20, .call ⟨.value (.func 59), #[.tmp 19, .const (.int .i64 0), .const (.int .i64 100000)], #[3, 3, 3]⟩, 27, "valve.go:157", #[⟨4, .data⟩, ⟨3, .chain⟩], none⟩ (fun w hE => ofPure (T2.out w)) rfl ?_
 simp only [Act.put, zS]
 refine zB 7 ⟨some 22, .call ⟨.value (.func 59), #[.tmp 21, .const (.int .i64 1), .const (.int .i64 16)], #[3, 3, 3]⟩, 27, "valve.go:157", #[⟨6, .data⟩, ⟨5, .chain⟩], none⟩ (fun w hE => ofPure (T3.out w)) rfl ?_
 simp only [Act.put, zS]
 refine wpAnyE_one (i := 8) (o := ⟨some 23, .buildSlice 150 4 #[(0, .tmp 16), (1, .tmp 18), (2, .tmp 20), (3, .tmp 22)], 150, "valve.go:157", #[⟨1, .data⟩, ⟨3, .data⟩, ⟨5, .data⟩, ⟨7, .data⟩], none⟩) (by kernel_rfl) rfl (fun wy1 hE K hK => ?_)
 have a0 := cellb a0 hE
 have a1' := cellb a1' hE
 have b0 := cellb b0 hE
 have b1 := cellb b1 hE
 have d3 := cellb d3 hE
 have d4 := cellb d4 hE
 have hva := hva.carry hE
 have hvb := hvb.carry hE
 have i3 := i3.carry hE
 have i4 := i4.carry hE
 have i5 := i5.carry hE
 have i6 := i6.carry hE
 have hbz1 := bthen hbz hE
 clear hE
 go_simp
 obtain ⟨wx1, hwz⟩ : ∃ v, v = wy1.alloc (Obj.cells #[.int .i64 e0, .int .i64 e1, .int .i64 e2, .int .i64 e3] 27) := ⟨_, rfl⟩
 rw [← hwz]
 have hl : Below wy1.heap.size wy1 wx1 := by rw [hwz]; exact below_new _ _
 have hcz1 := bthen hbz1 hl
 have iN : BlkI wx1 wy1.heap.size 27 [e0, e1, e2, e3] := by rw [hwz]; exact Blk.new _ _ _
 generalize wy1.heap.size = G at iN ⊢
 have a0 := cellb a0 hl
 have a1' := cellb a1' hl
 have b0 := cellb b0 hl
 have b1 := cellb b1 hl
 have d3 := cellb d3 hl
 have d4 := cellb d4 hl
 have hva := hva.carry hl
 have hvb := hvb.carry hl
 have i3 := i3.carry hl
 have i4 := i4.carry hl
 have i5 := i5.carry hl
 have i6 := i6.carry hl
 clear hwz
 refine hK _ _ (fun _ => hl) ?_
 clear hK K hl
 try simp only [Act.put, zS]
 refine zB 9 ⟨some 24, .call ⟨.value (.func 46), #[.tmp 23], #[150]⟩, 27, "valve.go:157", #[⟨8, .data⟩, ⟨7, .chain⟩], none⟩ (fun w hE => ofPure (TF.out _ w ((BlkI.ints iN rfl).carry hE))) rfl ?_
 simp only [Act.put, zS]
 refine wpAnyE_one (i := 10) (o := ⟨some 10, .assign (.tmp 24), 27, "valve.go:157", #[⟨9, .data⟩, ⟨9, .chain⟩, ⟨0, .phase⟩, ⟨1, .phase⟩, ⟨2, .phase⟩, ⟨3, .phase⟩, ⟨4, .phase⟩, ⟨5, .phase⟩, ⟨6, .phase⟩, ⟨7, .phase⟩, ⟨8, .phase⟩, ⟨9, .phase⟩], none⟩) (by kernel_rfl) rfl (fun wy2 hE K hK => ?_)
 have a0 := cellb a0 hE
 have a1' := cellb a1' hE
 have b0 := cellb b0 hE
 have b1 := cellb b1 hE
 have d3 := cellb d3 hE
 have d4 := cellb d4 hE
 have hva := hva.carry hE
 have hvb := hvb.carry hE
 have i3 := i3.carry hE
 have i4 := i4.carry hE
 have i5 := i5.carry hE
 have i6 := i6.carry hE
 have hbz2 := bthen hcz1 hE
 go_simp
 refine hK _ _ (fun _ => Below.refl _ _) ?_
 clear hK K hE
 try simp only [Act.put, zS]
 refine wpAnyE_done (by kernel_rfl) (fun wy3 hE => ?_) _
 have hbz3 := bthen hbz2 hE
 have a0 := cellb a0 hE
 have a1' := cellb a1' hE
 have b0 := cellb b0 hE
 have b1 := cellb b1 hE
 have d3 := cellb d3 hE
 have d4 := cellb d4 hE
 have hva := hva.carry hE
 have hvb := hvb.carry hE
 have i3 := i3.carry hE
 have i4 := i4.carry hE
 have i5 := i5.carry hE
 have i6 := i6.carry hE
 clear hE
 have hB := hbz3
 obtain ⟨W9, hW9⟩ : ∃ v, v = wy3 := ⟨_, rfl⟩
 rw [← hW9] at hB a0 a1' b0 b1 hva hvb i3 i4 i5 i6 ⊢
 clear hW9
 have hH6 := Blk.lt i6
 obtain ⟨F, hFe⟩ : ∃ F, F = w.heap.size + 1 + 1 := ⟨_, rfl⟩
 rw [← hFe] at i3 i4 i5 i6 hH6 ⊢
 obtain ⟨H, hHe⟩ : ∃ H, H = F + 1 + 1 := ⟨_, rfl⟩
 rw [← hHe] at i5 i6 hH6 ⊢
 have hFw : w.heap.size ≤ F := by omega
 have hFH : F + 1 < H := by omega
 have hHw : w.heap.size ≤ H := by omega
 clear hFe hHe d3 d4
 by_cases h0 : E = 0
 ·subst h0
  obtain ⟨⟨hoka, hokb⟩, hfr, hhd⟩ := HOK.out (by trivial)
  obtain ⟨rfl, rfl⟩ := HO1.out (by trivial)
  have TB := Lib.hid (fun W (h : Prs W (.slice a2 n2 c2) lb) => both_any ca cb a1 a2 n1 c1 n2 c2 lb W hokb h)
  have HRG := Lib.hid (fun x (hx : x ∈ la) => show 0 ≤ x.1 ∧ x.1 ≤ 1000000 by have := (hoka.mem hx).1; omega)
  clear T0 T1 T2 T3 TF HO0 HO1 HOK hoka hokb
  go_upto_region 5 with fail
  obtain ⟨U1, hU1⟩ : ∃ v, v = World.alloc W9 (Obj.cells #[.int .i64 0] 3) := ⟨_, rfl⟩
  have kU1 : Below W9.heap.size W9 U1 := by rw [hU1]; exact below_new _ _
  have iU1 : Blk U1 (W9.heap.size) 3 [.int .i64 0] := by rw [hU1]; exact Blk.new _ _ _
  have sU1 : U1.heap.size = W9.heap.size + 1 := by rw [hU1]; simp
  rw [← hU1]
  clear hU1
  obtain ⟨U2, hU2⟩ : ∃ v, v = World.alloc U1 (Obj.cells #[.int .i64 (-1)] 3) := ⟨_, rfl⟩
  have kU2 : Below U1.heap.size U1 U2 := by rw [hU2]; exact below_new _ _
  have iU2 : Blk U2 (W9.heap.size + 1) 3 [.int .i64 (-1)] := by rw [hU2, ← sU1]; exact Blk.new _ _ _
  have sU2 : U2.heap.size = W9.heap.size + 1 + 1 := by rw [hU2]; simp [sU1]
  rw [← hU2]
  clear hU2
  have kU := bthen kU1 kU2
  have j1 : BlkI U2 W9.heap.size 3 [0] := iU1.carry kU2
  have j2 : BlkI U2 (W9.heap.size + 1) 3 [-1] := iU2
  replace i3 := Blk.carry i3 kU
  replace i4 := Blk.carry i4 kU
  replace i5 := Blk.carry i5 kU
  replace i6 := Blk.carry i6 kU
  replace hva := hva.carry kU
  replace hvb := hvb.carry kU
  replace hB := bthen hB kU
  have a0 := cellb a0 kU
  have a1' := cellb a1' kU
  have b0 := cellb b0 kU
  have b1 := cellb b1 kU
  obtain ⟨RB, hRB⟩ : ∃ RB, RB = W9.heap.size := ⟨_, rfl⟩
  rw [← hRB] at j1 j2 hH6 ⊢
  clear hRB kU kU1 kU2 iU1 iU2 sU1 sU2
  go_wp2_with fail
  refine (TB.out U2 hvb).mono ?_
  rintro e V ⟨⟨A, M, R, rfl, iA, iM, hR, nA, nM, nR⟩, hbV⟩
  have hBV := bthen hB hbV
  replace i3 := Blk.carry i3 hbV
  replace i4 := Blk.carry i4 hbV
  replace i5 := Blk.carry i5 hbV
  replace i6 := Blk.carry i6 hbV
  replace j1 := Blk.carry j1 hbV
  have hABM : RB + 1 < U2.heap.size := Blk.lt j2
  replace j2 := Blk.carry j2 hbV
  obtain ⟨tb, htb, hseq⟩ := both_seq 4 (by omega) A M R n1 c1 n2 ca a1 la lb w V hBV HVA.out (by have := HN1.out; omega) HRG.out iA iM hR
  have hRV : RB + 1 < V.heap.size := Blk.lt j2
  have HSEQ := Lib.hid hseq
  have hbl : ∀ b ∈ [A, M, R, tb], b < V.heap.size ∧ (b < w.heap.size ∨ RB + 1 < b) := by
   intro b hb
   have := Blk.lt iA
   have := Blk.lt iM
   have := hR.lt
   have := hBV.size
   simp at hb
   omega
  have HBL := Lib.hid hbl
  have hHRB : H + 1 < RB := hH6
  clear a0 a1' b0 b1 hva hvb TB hseq hB hbl iA iM hR nA nM nR htb hABM hbV hH6
  go_wp2_with fail
  refine wp_rangeP (s := 13) (r := 14) (T := 104) (gf := 124) (lb := #[.pointer (some ⟨A, 0, none⟩), .pointer (some ⟨M, 0, none⟩)]) (X := fun pre x => ∃ post, bothL la lb = pre ++ x :: post) rfl (enters_of Tryz.func124 (by kernel_rfl) rfl)
   HSEQ.out KpL.trans (fun W l o o' hl h h1 _ b hb => World.putObj_heap_other (by have := HBL.out b hb; omega)) (Below.refl _ _)
   (CoI w RB F H V.heap.size fr hd) (CoX w H fr hd (bothL la lb)) (CoI.own w RB F H _ fr hd hBV.size) (fun c => CoX.own w H fr hd _ hBV.size c)
   ⟨rfl, j1, j2, i3, i4, i5, i6, hBV, Nat.le_refl _⟩
   (fun pre W W' hI hb => KpL.of_below hb (fun b hb2 => by have := HBL.out b hb2; have := hI.2.2.2.2.2.2.2.2; omega))
   ?assign ?body (fun pre W hI => hI.2.2.2.2.2.2.2.2) ?done ?stop
  case assign =>
   clear i3 i4 i5 i6 j1 j2
   intro l x W K hK
   obtain ⟨⟨x0, x1⟩, ⟨y0, y1⟩⟩ := x
   simp only at hK ⊢
   have HK := Lib.hid hK
   clear hK
   gi_upto_region 7 with fail
   obtain ⟨V1, hV1⟩ : ∃ v, v = World.alloc W (Obj.cells #[.int .i64 x0, .int .i64 x1] 104) := ⟨_, rfl⟩
   have kV1 : Below W.heap.size W V1 := by rw [hV1]; exact below_new _ _
   have iV1 : Blk V1 (W.heap.size) 104 [.int .i64 x0, .int .i64 x1] := by rw [hV1]; exact Blk.new _ _ _
   have sV1 : V1.heap.size = W.heap.size + 1 := by rw [hV1]; simp
   rw [← hV1]
   clear hV1
   clear sV1
   gi_wp2
   have k2 := below_new V1 (.cells #[.int .i64 y0, .int .i64 y1] 104)
   exact HK.out W.heap.size V1.heap.size _ (bthen kV1 k2) (Blk.carry iV1 k2) (BlkI.new V1 104 [y0, y1]) (Nat.le_refl _) kV1.size
  case body =>
   clear i3 i4 i5 i6 j1 j2
   rintro ll pre ⟨⟨x0, x1⟩, ⟨y0, y1⟩⟩ B8 B9 W ⟨hnone, j1, j2, i3, i4, i5, i6, hBW, hsz⟩ ⟨post, hpost⟩ h8 h9 n8 n9
   simp only at h8 h9
   simp only [List.setIfInBounds_toArray, List.set_cons_succ, List.set_cons_zero]
   have hwf : ∀ f, (Fence.wide.inRound ll).fn f := fun _ => trivial
   have hmem : ∀ x ∈ pre ++ [((x0, x1), (y0, y1))], 0 ≤ x.1.1 ∧ x.1.1 ≤ 1000000 := fun x hx => by
    have hm : x ∈ bothL la lb := by rw [hpost]; rw [List.mem_append] at hx ⊢; rcases hx with h | h; exact .inl h; exact .inr (by rw [List.mem_singleton] at h; rw [h]; exact List.mem_cons_self)
    unfold bothL at hm
    rw [List.mem_filterMap] at hm
    obtain ⟨p, hp, he⟩ := hm
    unfold bothF at he
    rw [Option.map_eq_some_iff] at he
    obtain ⟨v, -, rfl⟩ := he
    exact HRG.out p hp
   have hplen : pre.length ≤ 500000 := by
    have h1 := congrArg List.length hpost
    have h2 : (bothL la lb).length ≤ la.length := List.length_filterMap_le _ _
    rw [List.length_append, List.length_cons] at h1
    omega
   obtain ⟨hr1, hr2⟩ := coSt_rng fr pre (fun x hx => hmem x (by simp [hx]))
   have hx0 : 0 ≤ x0 ∧ x0 ≤ 1000000 := hmem ((x0, x1), (y0, y1)) (by simp)
   have HST := Lib.hid (coSt_snoc fr pre ((x0, x1), (y0, y1)))
   have HNO := Lib.hid (fun hne => coG_snoc_none (hd := hd) (x := ((x0, x1), (y0, y1))) hnone hne)
   have HYE := Lib.hid (fun he => (show coG fr hd (0, -1) (bothL la lb) = some (x0 + 1 - hd) by rw [hpost]; exact coG_snoc_some (hd := hd) (post := post) (x := ((x0, x1), (y0, y1))) hnone he))
   obtain ⟨s, hs⟩ : ∃ s, s = coSt fr pre := ⟨_, rfl⟩
   rw [← hs] at HST HNO HYE hr1 hr2 j1 j2
   obtain ⟨run, nx⟩ := s
   simp only at hr1 hr2 j1 j2
   have hC : CoC W w.heap.size RB F H B8 B9 fr hd run nx x0 x1 y0 y1 w W := ⟨j1, j2, i3, i4, i5, i6, h8, h9, KeepsOthers.refl W, fun _ _ _ => rfl, hBW, rfl, hFw, hFH, hHRB, by omega, by omega⟩
   have nq := fun W => neqP x0 x1 y0 y1 W
   have d8 := BlkI.d0 h8
   have d12 := BlkI.c0 j2
   have d11 := BlkI.c0 j1
   have f11 := Blk.frozen j1 0
   clear hmem hpost hnone hs j1 j2 i3 i4 i5 i6 h8 h9
   gi_upto_if 36 with fail
   gi_cut [] from 37 (fun wn => CoC W w.heap.size RB F H B8 B9 fr hd (if x0 = nx then run else 0) nx x0 x1 y0 y1 w wn)
   case first =>
    by_cases hx : x0 = nx
    ·have hb : (x0 != nx) = false := by simpa using hx
     rw [if_pos hx] at *
     clear hx
     gi_wp2
     gi_meet
     exact hC
    ·have hb : (x0 != nx) = true := by simpa using hx
     have HX := Lib.hid hx
     clear hx
     gi_wp2
     gi_meet
     rw [if_neg HX.out]
     exact hC.setRun 0
   case rest =>
    obtain ⟨r1, hr1e⟩ : ∃ r, r = if x0 = nx then run else 0 := ⟨_, rfl⟩
    rw [← hr1e] at hcut
    have hr1r : 0 ≤ r1 ∧ r1 ≤ 500000 := by rw [hr1e]; split <;> omega
    have HR1 := Lib.hid hr1e
    have q1 : IntKind.i64.wrap (x0 + 1) = x0 + 1 := IntWalk.i64_in _ (by omega)
    have q2 : IntKind.i64.wrap (r1 + 1) = r1 + 1 := IntWalk.i64_in _ (by omega)
    have d8 := BlkI.d0 hcut.b8
    have d12 := BlkI.c0 hcut.nx
    have f12 := Blk.frozen hcut.nx 0
    clear hC d11 f11 hr1e hr1 hr2 hplen
    gi_upto_region 11 with fail
    obtain ⟨X1, hX1⟩ : ∃ v, v = World.setCell wc ⟨RB + 1, 0, none⟩ (.int .i64 (x0 + 1)) := ⟨_, rfl⟩
    have hC1 := hcut.setNx (x0 + 1)
    rw [← hX1] at hC1 ⊢
    clear hX1 hcut d8 d12 f12
    have d11 := BlkI.c0 hC1.run
    have f11 := Blk.frozen hC1.run 0
    gi_upto_region 12 with fail
    obtain ⟨X2, hX2⟩ : ∃ v, v = World.setCell X1 ⟨RB, 0, none⟩ (.int .i64 (r1 + 1)) := ⟨_, rfl⟩
    have hC2 := hC1.setRun (r1 + 1)
    rw [← hX2] at hC2 ⊢
    clear hX2 hC1 d11 f11 q1 q2
    have d8 := BlkI.d0 hC2.b8
    have d8' := BlkI.d1 hC2.b8
    have d9 := BlkI.d0 hC2.b9
    have d9' := BlkI.d1 hC2.b9
    have d6 := BlkI.c0 hC2.fr
    have d11 := BlkI.c0 hC2.run
    have f11 := Blk.frozen hC2.run 0
    obtain ⟨cnd, hcnd⟩ : ∃ c, c = ((x0, x1) != (y0, y1) || decide (x0 < fr)) := ⟨_, rfl⟩
    have HCN := Lib.hid hcnd
    clear hcnd
    gi_upto_region 12 with fail
    gi_cut [50] from 42 (fun u50 wn => u50 = .bool cnd ∧ wn = X2)
    case first =>
     by_cases hx : (x0, x1) = (y0, y1)
     ·have nb : ((x0, x1) != (y0, y1)) = false := by simpa using hx
      have hcn := HCN.out
      rw [nb, Bool.false_or] at hcn
      rw [nb] at nq
      clear hx nb
      gi_wp2
      all_goals gi_meet
      all_goals exact ⟨by simp [*], rfl⟩
     ·have nb : ((x0, x1) != (y0, y1)) = true := by simpa using hx
      have hcn := HCN.out
      rw [nb, Bool.true_or] at hcn
      rw [nb] at nq
      clear hx nb
      gi_wp2
      gi_meet
      exact ⟨by rw [hcn], rfl⟩
    case rest =>
     obtain ⟨rfl, rfl⟩ := hcut
     gi_upto_if 50 with fail
     gi_cut [] from 51 (fun wn => CoC W w.heap.size RB F H B8 B9 fr hd (if cnd = true then 0 else r1 + 1) (x0 + 1) x0 x1 y0 y1 w wn)
     case first =>
      cases cnd with
      | true =>
        gi_wp2
        gi_meet
        exact hC2.setRun 0
      | false =>
        gi_wp2
        gi_meet
        exact hC2
     case rest =>
      obtain ⟨r3, hr3⟩ : ∃ r, r = if cnd = true then 0 else r1 + 1 := ⟨_, rfl⟩
      rw [← hr3] at hcut
      have hC := hcut
      have hod := hC.od
      have hs3 : coS fr (run, nx) ((x0, x1), (y0, y1)) = (r3, x0 + 1) := by
       rw [hr3, HR1.out]
       unfold coS
       simp only
       rw [← HCN.out]
      have HS3 := Lib.hid hs3
      have d11 := BlkI.c0 hC.run
      have d12 := BlkI.c0 hC.nx
      have d7 := BlkI.c0 hC.hd
      have e8 := BlkI.c0 hC.r8
      have e9 := BlkI.c0 hC.r9
      have g8 := Blk.frozen hC.r8 0
      have g9 := Blk.frozen hC.r9 0
      have q3 : IntKind.i64.wrap (x0 + 1 - hd) = x0 + 1 - hd := IntWalk.i64_in _ (by omega)
      clear hr3 hs3 hcut hC2 d8 d8' d9 d9' d6 nq hr1r
      by_cases hh : r3 = hd
      ·have HYE2 := Lib.hid (HYE.out (by rw [HS3.out]; exact hh))
       have hb : (r3 == hd) = true := by simpa using hh
       clear hh
       gi_wp2
       obtain ⟨s8, s9⟩ := setC_facts hC.r8 hC.r9 (x0 + 1 - hd) 0
       exact ⟨(hC.kp.trans (setC_keeps wc H _ _)).from _, rfl, _, HYE2.out, s8, s9, setC_below hC.bl (by omega) _ _⟩
      ·have HNO2 := Lib.hid (HNO.out (by rw [HS3.out]; exact hh))
       have hb : (r3 == hd) = false := by simpa using hh
       clear hh
       gi_wp2
       refine ⟨hC.kp.from _, fun b hb2 => hC.kl b (by have := HBL.out b hb2; omega) (by have := HBL.out b hb2; omega), HNO2.out, ?_, ?_, hC.fr, hC.hd, hC.r8, hC.r9, hC.bl, by have := hC.sz; omega⟩
       ·rw [HST.out, HS3.out]; exact hC.run
       ·rw [HST.out, HS3.out]; exact hC.nx
  case done =>
   clear i3 i4 i5 i6 j1 j2
   rintro D ys W hD hS ⟨hnone, -, -, -, -, i5, i6, hBW, hsz⟩ hK
   subst hS
   have HG := Lib.hid (show chO la lb fr hd = none from hnone)
   have d5 := BlkI.c0 i5
   have d6 := BlkI.c0 i6
   have f5 := Blk.frozen i5 0
   have f6 := Blk.frozen i6 0
   obtain ⟨g5, g6⟩ := setC_facts i5 i6 0 7
   have hk2 : (setC W H 0 7).heap[D]? = some (.deferred (some [])) := (Below.heap_setCell _ _ _ _ (by simp; omega)).trans ((Below.heap_setCell _ _ _ _ (by simp; omega)).trans hK)
   have e5 := BlkI.c0 (blk_own g5 (grownBy_putObj' _ D (.deferred none)) (fun r e => by cases e; omega))
   have e6 := BlkI.c0 (blk_own g6 (grownBy_putObj' _ D (.deferred none)) (fun r e => by cases e; omega))
   have hB9 := setC_below hBW hHw 0 7
   unfold setC at e5 e6 hk2 hB9
   clear hnone i5 i6 g5 g6
   go_wp2
   refine postR_mark (v := .tuple #[.int .i64 0, .int .i64 7]) hk2 rfl ?_ ⟨by rw [HG.out]; rfl, hB9.trans (belowK_b (w := w) (Nat.le_refl _) _ D _ _ (by have := hBV.size; omega) hk2 rfl rfl)⟩
   simp [results, Tryz.f22, go_sem, e5, e6]
  case stop =>
   clear i3 i4 i5 i6 j1 j2
   rintro D c pre W hD - ⟨rfl, t, ht, i5, i6, hBW⟩ hK
   have HG := Lib.hid (show chO la lb fr hd = some t from ht)
   have e5 := BlkI.c0 (blk_own i5 (grownBy_putObj' _ D (.deferred none)) (fun r e => by cases e; omega))
   have e6 := BlkI.c0 (blk_own i6 (grownBy_putObj' _ D (.deferred none)) (fun r e => by cases e; omega))
   clear ht i5 i6
   go_wp2
   refine postR_mark (v := .tuple #[.int .i64 t, .int .i64 0]) hK rfl ?_ ⟨by rw [HG.out]; rfl, hBW.trans (belowK_b (w := w) (Nat.le_refl _) _ D _ _ (by have := hBV.size; omega) hK rfl rfl)⟩
   simp [results, Tryz.f22, go_sem, e5, e6]
 ·have z : (E == 0) = false := by rw [beq_eq_false_iff_ne]; exact h0
  obtain ⟨rfl, rfl⟩ := HO0.out h0
  have d5 := BlkI.c0 i5
  have d6 := BlkI.c0 i6
  have f5 := Blk.frozen i5 0
  have f6 := Blk.frozen i6 0
  obtain ⟨g5, g6⟩ := setC_facts i5 i6 0 E2
  have e5 := BlkI.c0 g5
  have e6 := BlkI.c0 g6
  unfold setC at e5 e6
  clear HO0 HO1 g5 g6 i3 i4 i5 i6
  go_wp2
  refine postR_ret (v := .tuple #[.int .i64 0, .int .i64 E2]) ?_ rfl ⟨rfl, ?_⟩
  ·simp [results, Tryz.f22, go_sem, e5, e6]
  ·exact setC_below hB hHw 0 E2
end Go.Proofs.YtpmngcffkhbofaaGreatDoor

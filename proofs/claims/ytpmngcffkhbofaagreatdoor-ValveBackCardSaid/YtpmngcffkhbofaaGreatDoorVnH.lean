/- Texts of logs: the program's taker of numbers. -/
import Derived.Test.YtpmngcffkhbofaaGreatDoorVnC
namespace Go.Proofs.YtpmngcffkhbofaaGreatDoor
section
set_option linter.unusedSimpArgs false
set_option linter.unusedVariables false
open Go.RowKit
/-- a number is taken. -/
def NumPost (B b0 : Nat) (wr : Bool) (p : List UInt8) (ws : List (List UInt8)) (W : World) (e : Ending) (W' : World) : Prop :=
 ∃ (n : Int) (u : Value), e = .returned (.int .i64 n) ∧ (digOk p = true → n = valD p) ∧ Blk W' B 191 [u, .bool (wr || !digOk p)] ∧ Vals W' u (ws.map strV) ∧ (∀ b off c, u = .slice (some ⟨b, off, none⟩) ws.length c → b = b0) ∧ Keep (fun k => k = B) W W'
set_option maxRecDepth 100000 in
set_option maxHeartbeats 4000000 in
theorem number_any (B b off cp : Nat) (wr : Bool) (p : List UInt8) (ws : List (List UInt8)) (W : World) (hB : Blk W B 191 [.slice (some ⟨b, off, none⟩) (ws.length + 1) cp, .bool wr])
 (hv : Vals W (.slice (some ⟨b, off, none⟩) (ws.length + 1) cp) (strV p :: ws.map strV)) (hp : p.length ≤ 1000000) (hnb : b ≠ B) :
 Calls Tryz.prog 115 #[.pointer (some ⟨B, 0, none⟩)] W (NumPost B b wr p ws W) := by
 have c0 := hB.cell (j := 0) (v := .slice (some ⟨b, off, none⟩) (ws.length + 1) cp) rfl
 have c1 := hB.cell (j := 1) (v := .bool wr) rfl
 have f0 := hB.frozen 0
 have f1 := hB.frozen 1
 obtain ⟨b', off', cp', he', hcs⟩ := hv.head (by simp)
 simp only [List.length_cons, List.length_map, Value.slice.injEq, Option.some.injEq, Addr.mk.injEq, and_true, true_and] at he'
 obtain ⟨⟨rfl, rfl⟩, rfl⟩ := he'
 have w0 : W.cell? ⟨b, off, none⟩ = some (.string ⟨p.toArray⟩) := hcs 0 (strV p) rfl
 have hI := integer_any ⟨p.toArray⟩ W (by rw [mk_size]; exact hp)
 have HV := Lib.hid hv
 have HB := Lib.hid hB
 clear hv hcs hB
 go_enter Tryz.func115, Tryz.ntmps115
 go_wp2_with fail
 refine hI.mono ?_
 rintro e W1 ⟨⟨n, rfl, hn⟩, hb⟩
 have i1 := HB.out.carry hb
 have c0 := i1.cell (j := 0) (v := .slice (some ⟨b, off, none⟩) (ws.length + 1) cp) rfl
 have c1 := i1.cell (j := 1) (v := .bool wr) rfl
 have f0 := i1.frozen 0
 have f1 := i1.frozen 1
 have HN := Lib.hid hn
 clear hn hI
 obtain ⟨ok, hok⟩ : ∃ ok, ok = digOk (⟨p.toArray⟩ : ByteArray).data.toList := ⟨_, rfl⟩
 rw [← hok] at HN ⊢
 have HOK := Lib.hid hok
 clear hok
 have HN2 := Lib.hid (fun h : digOk p = true => HN.out (HOK.out.trans h))
 have hk : digOk p = ok := HOK.out.symm
 have HK := Lib.hid hk
 clear hk HN HOK
 have hcp : ws.length + 1 ≤ cp := by
  obtain ⟨a', c', e', h1, _⟩ := HV.out
  simp only [Value.slice.injEq] at e'
  rw [e'.2.2]; simpa using h1
 have HBL := Lib.hid (fun x y => show Keep (fun k => k = B) W ((W1.setCell ⟨B, 0, none⟩ x).setCell ⟨B, 1, none⟩ y) from Keep.setCell (S := fun k => k = B) (Keep.setCell (S := fun k => k = B) (Keep.of_below hb) i1 rfl x) (i1.set 0 x) rfl y)
 by_cases hc1 : cp = 1
 ·obtain rfl : ws = [] := List.length_eq_zero_iff.1 (by omega)
  subst hc1
  clear hcp HV
  cases wr <;> cases ok
  all_goals go_wp2_with fail
  all_goals go_ret
  all_goals refine ⟨n, _, rfl, HN2.out, ?_, ⟨some ⟨b, off, none⟩, 0, rfl, Nat.zero_le _, fun h => absurd h (by simp)⟩, (fun b' o' c' e => by simp only [Value.slice.injEq, Option.some.injEq, Addr.mk.injEq] at e; exact e.1.1.symm), HBL.out _ _⟩
  all_goals rw [HK.out]
  all_goals exact (i1.set 0 _).set 1 _
 ·have hv1 : Vals W1 (.slice (some ⟨b, off + 1, none⟩) ws.length (cp - 1)) (ws.map strV) := Vals.tail (HV.out.carry hb) (List.length_map ..)
  have HV1 := Lib.hid (fun x y => (hv1.set (B := B) (o := 0) (x := x) (fun b' o' c' e => by simp only [Value.slice.injEq, Option.some.injEq, Addr.mk.injEq] at e; rw [← e.1.1]; exact hnb)).set (B := B) (o := 1) (x := y) (fun b' o' c' e => by simp only [Value.slice.injEq, Option.some.injEq, Addr.mk.injEq] at e; rw [← e.1.1]; exact hnb))
  have hc2 : cp - 1 ≠ 0 := by omega
  have hc3 : ¬ cp ≤ 1 := by omega
  have HCP := Lib.hid hcp
  clear hv1 HV hcp
  cases wr <;> cases ok
  all_goals go_wp2_with fail
  all_goals go_ret
  all_goals refine ⟨n, _, rfl, HN2.out, ?_, HV1.out _ _, (fun b' o' c' e => by simp only [Value.slice.injEq, Option.some.injEq, Addr.mk.injEq] at e; exact e.1.1.symm), HBL.out _ _⟩
  all_goals rw [HK.out]
  all_goals exact (i1.set 0 _).set 1 _
end
section
set_option linter.unusedSimpArgs false
set_option linter.unusedVariables false
open Go.RowKit
/-- the error, the line, the controller and the train that Parse tells. -/
def parE (L : List UInt8) : Int := if 4096 < L.length then 26 else if L = [] then 25 else match badN (linesL L) with
 | some _ => 25
 | none => logE (ctlL (linesL L)) (trnT (linesL L))
def parN (L : List UInt8) : Int := if 4096 < L.length then 0 else if L = [] then 0 else match badN (linesL L) with
 | some n => (n : Int)
 | none => if logE (ctlL (linesL L)) (trnT (linesL L)) = 0 then 0 else ((linesL L).length : Int)
def parC (L : List UInt8) : Int := if parE L = 0 then ctlL (linesL L) else 0
def parT (L : List UInt8) : List P2 := if parE L = 0 then trnT (linesL L) else []
theorem par_long {L : List UInt8} (h : 4096 < L.length) : parE L = 26 ∧ parN L = 0 ∧ parC L = 0 ∧ parT L = [] := by
 have e : parE L = 26 := by unfold parE; rw [if_pos h]
 have n : parN L = 0 := by unfold parN; rw [if_pos h]
 exact ⟨e, n, by unfold parC; rw [e]; rfl, by unfold parT; rw [e]; rfl⟩
theorem par_nil {L : List UInt8} (h : L = []) : parE L = 25 ∧ parN L = 0 ∧ parC L = 0 ∧ parT L = [] := by
 subst h
 exact ⟨rfl, rfl, rfl, rfl⟩
theorem par_bad {L : List UInt8} {n : Nat} (h : ¬ 4096 < L.length) (h0 : L ≠ []) (hb : badN (linesL L) = some n) : parE L = 25 ∧ parN L = (n : Int) ∧ parC L = 0 ∧ parT L = [] := by
 have e : parE L = 25 := by unfold parE; rw [if_neg h, if_neg h0, hb]
 have n : parN L = (n : Int) := by unfold parN; rw [if_neg h, if_neg h0, hb]
 exact ⟨e, n, by unfold parC; rw [e]; rfl, by unfold parT; rw [e]; rfl⟩
theorem par_no {L : List UInt8} {c : Int} {l : List P2} {m : Nat} {E : Int} (h : ¬ 4096 < L.length) (h0 : L ≠ []) (hb : badN (linesL L) = none) (hc : ctlL (linesL L) = c) (hl : trnT (linesL L) = l) (hm : (linesL L).length = m) (hE : E = logE c l) (hE0 : E ≠ 0) :
 parE L = E ∧ parN L = (m : Int) ∧ parC L = 0 ∧ parT L = [] := by
 have e : parE L = E := by unfold parE; rw [if_neg h, if_neg h0, hb]; simp only; rw [hc, hl, hE]
 have n : parN L = (m : Int) := by unfold parN; rw [if_neg h, if_neg h0, hb]; simp only; rw [hc, hl, ← hE, if_neg hE0, hm]
 exact ⟨e, n, by unfold parC; rw [e, if_neg hE0], by unfold parT; rw [e, if_neg hE0]⟩
theorem par_ok {L : List UInt8} {c : Int} {l : List P2} (h : ¬ 4096 < L.length) (h0 : L ≠ []) (hb : badN (linesL L) = none) (hc : ctlL (linesL L) = c) (hl : trnT (linesL L) = l) (hE : logE c l = 0) :
 parE L = 0 ∧ parN L = 0 ∧ parC L = c ∧ parT L = l := by
 have e : parE L = 0 := by unfold parE; rw [if_neg h, if_neg h0, hb]; simp only; rw [hc, hl, hE]
 have n : parN L = 0 := by unfold parN; rw [if_neg h, if_neg h0, hb]; simp only; rw [hc, hl, if_pos hE]
 exact ⟨e, n, by unfold parC; rw [e, if_pos rfl, hc], by unfold parT; rw [e, if_pos rfl, hl]⟩
/-- what Parse tells of a text. -/
def ParsePost (L : List UInt8) (e : Ending) (W' : World) : Prop :=
 ∃ a n cap, e = .returned (.tuple #[.agg #[.int .i64 (parC L), .slice a n cap], .int .i64 (parN L), .int .i64 (parE L)]) ∧ Prs W' (.slice a n cap) (parT L)
theorem ParsePost.zero {L : List UInt8} {n E : Int} (h : parE L = E ∧ parN L = n ∧ parC L = 0 ∧ parT L = []) (W' : World) : ParsePost L (.returned (.tuple #[.agg #[.int .i64 0, .slice none 0 0], .int .i64 n, .int .i64 E])) W' := by
 obtain ⟨h1, h2, h3, h4⟩ := h
 refine ⟨none, 0, 0, by rw [h1, h2, h3], ?_⟩
 rw [h4]
 exact Rw.nil 2 pV W' none 0
end
section
set_option linter.unusedSimpArgs false
set_option linter.unusedVariables false
open Go.RowKit
theorem Ints.at {w : World} {b off cap : Nat} {l : List Int} {n : Nat} (h : Ints w (.slice (some ⟨b, off, none⟩) n cap) l) (j : Nat) (x : Int) (hj : l[j]? = some x) : w.cell? ⟨b, off + j, none⟩ = some (.int .i64 x) := by
 have hl := (List.getElem?_eq_some_iff.1 hj).1
 obtain ⟨b', off', cap', he, hcs⟩ := h.head (by omega)
 simp only [Value.slice.injEq, Option.some.injEq, Addr.mk.injEq, and_true] at he
 obtain ⟨⟨rfl, rfl⟩, _, _⟩ := he
 have := hcs j hl
 rw [hj] at this
 exact this
set_option maxRecDepth 100000 in
set_option maxHeartbeats 4000000 in
theorem put1_any (F : Nat) (c : Int) (tv nv : Value) (x : Int) (W : World) (hF : Blk W F 32 [.int .i64 c, tv]) (hn : Ints W nv [x]) :
 Calls Tryz.prog 106 #[.pointer (some ⟨F, 0, none⟩), nv] W fun e W' => e = .returned (.tuple #[]) ∧ W.setCell ⟨F, 0, none⟩ (.int .i64 x) = W' := by
 obtain ⟨b, off, cap, rfl, hcs⟩ := hn.head (by simp)
 have c0 : W.cell? ⟨b, off, none⟩ = some (.int .i64 x) := hcs 0 (by simp)
 have cF := hF.cell (j := 0) (v := .int .i64 c) rfl
 have fF := hF.frozen 0
 have hlen : ([x] : List Int).length = 1 := rfl
 rw [hlen]
 go_enter Tryz.func106, Tryz.ntmps106
 go_wp2_with fail
 go_end0
 exact ⟨rfl, rfl⟩
theorem Keep.carry {S : Nat → Prop} {A B C : World} (h : Keep S A B) (hb : Below B.heap.size B C) : Keep S A C := h.trans (Keep.of_below hb)
/-- a row of integers as a block. -/
theorem OwnI.blk {e base : Nat} {w : World} {v : Value} {l : List Int} (h : OwnI e base w v l) (h0 : 0 < l.length) : ∃ G cap sp, v = .slice (some ⟨G, 0, none⟩) l.length cap ∧ base ≤ G ∧ Blk w G e (l.map (Value.int .i64) ++ sp) := by
 rcases h.2 with ⟨hv, hn⟩ | ⟨g, cap, cur, hv, hb, hg, hc, hcm, hcs, ht⟩
 ·omega
 ·refine ⟨g, cap, cur.toList.drop (l.length * 1), hv, hb, ?_⟩
  unfold Blk
  rw [← ht, List.take_append_drop]
  simpa using hg
/-- the takers outside F stand. -/
def TKeep (F : Nat) (W W' : World) : Prop := ∀ B vs, B ≠ F → Blk W B 191 vs → Blk W' B 191 vs
theorem TKeep.carry {F : Nat} {A B C : World} (h : TKeep F A B) (hb : Below B.heap.size B C) : TKeep F A C := fun b vs hne h0 => (h b vs hne h0).carry hb
theorem OwR.snoc {w : World} {base e : Nat} {a : Option Addr} {c : Nat} {tl : List P2} {x y : Int} (h : w.ownsRow base e 2 (.slice a (tl.length + 1) c) (tl.length + 1) (tl.flatMap pV ++ [.int .i64 x, .int .i64 y])) : OwR w base e 2 pV (.slice a (tl.length + 1) c) (tl ++ [(x, y)]) := by
 unfold OwR
 rw [List.length_append, List.length_singleton, List.flatMap_append]
 exact h
set_option maxRecDepth 100000 in
set_option maxHeartbeats 4000000 in
theorem put2_any (base F : Nat) (c : Int) (tv nv : Value) (tl : List P2) (x y : Int) (W : World) (hF : Blk W F 32 [.int .i64 c, tv]) (hFb : F < base) (hbs : base ≤ W.heap.size)
 (ho : OwR W base 104 2 pV tv tl) (htl : tl.length ≤ 1000000) (bn : Nat) (hn : OwnI 3 bn W nv [x, y]) :
 Calls Tryz.prog 107 #[.pointer (some ⟨F, 0, none⟩), nv] W fun e W' => e = .returned (.tuple #[]) ∧ ∃ tv', Blk W' F 32 [.int .i64 c, tv'] ∧ OwR W' base 104 2 pV tv' (tl ++ [(x, y)]) ∧
  Keep (fun k => k = F ∨ base ≤ k) W W' ∧ TKeep F W W' := by
 obtain ⟨G0, cap, sp, rfl, -, nB⟩ := hn.blk (by simp)
 have hGF : G0 ≠ F := Blk.ne nB hF (by decide)
 have hlen : ([x, y] : List Int).length = 2 := rfl
 rw [hlen]
 obtain ⟨fa, fc, rfl⟩ := ownsRow_sl ho
 have cF := hF.cell (j := 1) (v := .slice fa tl.length fc) rfl
 obtain ⟨i0, hi, hz0, hz1, hz2⟩ := info_parts Tryz.infZvalvePulse
 obtain ⟨W0, hW0⟩ : ∃ v : World, v = { W with heap := #[] } := ⟨_, rfl⟩
 have hB0 : Below W0.heap.size W0 W := by rw [hW0]; exact ⟨rfl, rfl, rfl, Nat.zero_le _, fun k hk => absurd hk (Nat.not_lt_zero k)⟩
 have HZ0 := Lib.hid (show W0.heap.size = 0 by rw [hW0]; rfl)
 have hK0 : Keep (fun k => k = F ∨ base ≤ k) W W := Keep.refl _ _
 have hT0 : TKeep F W W := fun _ _ _ h => h
 clear hn hW0 hlen
 go_enter Tryz.func107, Tryz.ntmps107
 clear cF
 refine wp_region_held_drew (S := (fun W => Blk W G0 3 (([x, y] : List Int).map (Value.int .i64) ++ sp))) (by kernel_rfl) nB (fun hHeld0 => ?_)
 obtain ⟨wzd, hwz⟩ : ∃ v, v = W.drew := ⟨_, rfl⟩
 rw [← hwz] at hHeld0 ⊢
 have hbzd : Below W0.heap.size W0 wzd := by rw [hwz]; exact hB0.drew
 have hlzd : Below W.heap.size W wzd := by rw [hwz]; exact (Below.refl _ _).drew
 have hF := hF.carry hlzd
 have ho := ho.carry hlzd
 have hK0 := hK0.carry hlzd
 have hT0 := hT0.carry hlzd
 have nB := nB.carry hlzd
 clear hwz hlzd
 refine zH 0 ⟨some 4, .move (.tmp 0), 114, "plan.go:248", #[], none⟩ rfl ?_
 simp only [Act.put, zS]
 refine zH 1 ⟨some 5, .move (.tmp 0), 114, "plan.go:248", #[], none⟩ rfl ?_
 simp only [Act.put, zS]
 refine zH 2 ⟨some 6, .nilCheck (.tmp 5), 0, "plan.go:248", #[⟨1, .data⟩], none⟩ rfl ?_
 simp only [Act.put, zS]
 refine zH 3 ⟨some 7, .fieldAddr 32 (.tmp 6) 1, 0, "plan.go:248", #[⟨2, .data⟩], none⟩ rfl ?_
 simp only [Act.put, zS]
 refine zH 5 ⟨some 9, .move (.tmp 1), 63, "plan.go:248", #[], none⟩ rfl ?_
 simp only [Act.put, zS]
 refine zH 6 ⟨some 10, .indexAddr 63 (.tmp 9) (.const (.int .i64 0)), 0, "plan.go:248", #[⟨5, .data⟩], none⟩ rfl ?_
 simp only [Act.put, zS]
 refine zH 7 ⟨some 11, .load 3 (.tmp 10), 3, "plan.go:248", #[⟨6, .data⟩], none⟩ rfl ?_ (hv := fun w hSw => by (try dsimp only at hSw); have q0 := Blk.cell hSw (j := 0) (v := .int .i64 x) rfl; clear hSw; go_simp; try rfl)
 simp only [Act.put, zS]
 refine zH 8 ⟨some 12, .move (.tmp 1), 63, "plan.go:248", #[], none⟩ rfl ?_
 simp only [Act.put, zS]
 refine zH 9 ⟨some 13, .indexAddr 63 (.tmp 12) (.const (.int .i64 1)), 0, "plan.go:248", #[⟨8, .data⟩], none⟩ rfl ?_
 simp only [Act.put, zS]
 refine zH 10 ⟨some 14, .load 3 (.tmp 13), 3, "plan.go:248", #[⟨9, .data⟩], none⟩ rfl ?_ (hv := fun w hSw => by (try dsimp only at hSw); have q0 := Blk.cell hSw (j := 1) (v := .int .i64 y) rfl; clear hSw; go_simp; try rfl)
 simp only [Act.put, zS]
 refine zH 11 ⟨some 15, .build 104 #[(0, .tmp 11), (1, .tmp 14)], 104, "plan.go:248", #[⟨7, .data⟩, ⟨10, .data⟩], none⟩ rfl ?_
 simp only [Act.put, zS]
 refine wpAnyH_ready (rs := [4, 12]) (by kernel_rfl) (by simp) ?_
 refine (AllReadyH.cons (o := ⟨some 8, .load 30 (.tmp 7), 30, "plan.go:248", #[⟨3, .data⟩], none⟩) rfl (fun K hK => ?_) (AllReadyH.cons (o := ⟨some 16, .buildSlice 30 1 #[(0, .tmp 15)], 30, "plan.go:248", #[⟨11, .data⟩], none⟩) rfl (fun K hK => ?_) AllReadyH.nil))
 ·have cF := hF.cell (j := 1) (v := .slice fa tl.length fc) rfl
  go_simp
  clear cF
  refine hK.out _ _ nB (fun hHeld1 => ?_)
  clear hK K hHeld0
  try simp only [Act.put, zS]
  refine wpAnyH_ready (rs := [12]) (by kernel_rfl) (by simp) ?_
  refine (AllReadyH.cons (o := ⟨some 16, .buildSlice 30 1 #[(0, .tmp 15)], 30, "plan.go:248", #[⟨11, .data⟩], none⟩) rfl (fun K hK => ?_) AllReadyH.nil)
  go_simp
  obtain ⟨wz12, hwz⟩ : ∃ v, v = wzd.alloc (Obj.cells #[.int .i64 x, .int .i64 y] 104) := ⟨_, rfl⟩
  rw [← hwz]
  have hl : Below wzd.heap.size wzd wz12 := by rw [hwz]; exact below_new _ _
  have hbz12 := bthen hbzd hl
  have iN : Blk wz12 wzd.heap.size 104 [.int .i64 x, .int .i64 y] := by rw [hwz]; exact Blk.new _ _ _
  generalize wzd.heap.size = G at iN ⊢
  clear hwz
  have hF := hF.carry hl
  have ho := ho.carry hl
  have hK0 := hK0.carry hl
  have hT0 := hT0.carry hl
  have nB := nB.carry hl
  clear hl
  refine hK.out _ _ nB (fun hHeld2 => ?_)
  clear hK K hHeld1
  try simp only [Act.put, zS]
  refine wpAnyH_ready (rs := [13]) (by kernel_rfl) (by simp) ?_
  refine (AllReadyH.cons (o := ⟨some 17, .call ⟨.builtin .append, #[.tmp 8, .tmp 16], #[30, 30]⟩, 30, "plan.go:248", #[⟨4, .data⟩, ⟨12, .data⟩], none⟩) rfl (fun K hK => ?_) AllReadyH.nil)
  have hsz : base ≤ wz12.heap.size := Nat.le_trans hbs hK0.size
  refine wp_append_own wz12 (.tmp 8) (.tmp 16) 30 rfl base 104 i0 (.agg #[.int .i64 0, .int .i64 0]) 2 16 Tryz.undZvalvePulse hi hz0 hz1 hz2 rfl (by decide) (.slice fa tl.length fc) tl.length _ rfl ho ⟨G, 0, none⟩ 1 1 [.int .i64 x, .int .i64 y] rfl rfl iN.news (by simp [Value.oneCell']) (by unfold maxLen; omega) (by omega) hsz ?_
  intro v9 wz13 hown9 hgrow9 _
  have hbz13 : Below W0.heap.size W0 wz13 := (hbz12).trans (below_gr hgrow9 (fun r _ => by rw [HZ0.out]; omega) (by rw [HZ0.out]; omega))
  replace hF := Blk.own_kept hF ho (by decide) hgrow9
  replace nB := Blk.own_kept nB ho (by decide) hgrow9
  have hK9 := hK0.grown hgrow9 (fun b hb => ⟨.inr (World.ownsRow.lt ho b hb).1, fun o ho' => ownsRow_cellsT ho hb ho'⟩)
  have hT9 : TKeep F W wz13 := fun B vs hne hB => Blk.own_kept (hT0 B vs hne hB) ho (by decide) hgrow9
  obtain ⟨va, vc, rfl⟩ := ownsRow_sl hown9
  have hO9 := OwR.snoc hown9
  refine hK.out _ _ nB (fun hHeld3 => ?_)
  clear hK K hHeld2
  try simp only [Act.put, zS]
  refine zH 14 ⟨some 18, .nilCheck (.tmp 4), 0, "plan.go:248", #[⟨0, .data⟩, ⟨0, .phase⟩, ⟨1, .phase⟩, ⟨2, .phase⟩, ⟨3, .phase⟩, ⟨4, .phase⟩, ⟨5, .phase⟩, ⟨6, .phase⟩, ⟨7, .phase⟩, ⟨8, .phase⟩, ⟨9, .phase⟩, ⟨10, .phase⟩, ⟨11, .phase⟩, ⟨12, .phase⟩, ⟨13, .phase⟩], none⟩ rfl ?_
  simp only [Act.put, zS]
  refine zH 15 ⟨some 19, .fieldAddr 32 (.tmp 18) 1, 0, "plan.go:248", #[⟨14, .data⟩, ⟨0, .phase⟩, ⟨1, .phase⟩, ⟨2, .phase⟩, ⟨3, .phase⟩, ⟨4, .phase⟩, ⟨5, .phase⟩, ⟨6, .phase⟩, ⟨7, .phase⟩, ⟨8, .phase⟩, ⟨9, .phase⟩, ⟨10, .phase⟩, ⟨11, .phase⟩, ⟨12, .phase⟩, ⟨13, .phase⟩], none⟩ rfl ?_
  simp only [Act.put, zS]
  refine wpAnyH_ready (rs := [16]) (by kernel_rfl) (by simp) ?_
  refine (AllReadyH.cons (o := ⟨none, .store 30 (.tmp 19) (.tmp 17), 0, "plan.go:248", #[⟨15, .data⟩, ⟨13, .data⟩, ⟨13, .chain⟩, ⟨0, .phase⟩, ⟨1, .phase⟩, ⟨2, .phase⟩, ⟨3, .phase⟩, ⟨4, .phase⟩, ⟨5, .phase⟩, ⟨6, .phase⟩, ⟨7, .phase⟩, ⟨8, .phase⟩, ⟨9, .phase⟩, ⟨10, .phase⟩, ⟨11, .phase⟩, ⟨12, .phase⟩, ⟨13, .phase⟩], none⟩) rfl (fun K hK => ?_) AllReadyH.nil)
  have fF := hF.frozen 1
  have cF := hF.cell (j := 1) (v := .slice fa tl.length fc) rfl
  go_simp
  obtain ⟨wz16, hwz⟩ : ∃ v, v = wz13.setCell ⟨F, 1, none⟩ (.slice va (tl.length + 1) vc) := ⟨_, rfl⟩
  rw [← hwz]
  have hbz16 : Below W0.heap.size W0 wz16 := by rw [hwz]; exact (hbz13).setCell (by rw [HZ0.out]; omega) _
  have hF2 := hF.set 1 (.slice va (tl.length + 1) vc)
  rw [← hwz] at hF2
  have hO2 : OwR _ base 104 2 pV _ _ := ownsRow_setO (j := 1) (x := .slice va (tl.length + 1) vc) hO9 hFb
  rw [← hwz] at hO2
  have hK2 := hK9.setCell (o := 1) hF (.inl rfl) (.slice va (tl.length + 1) vc)
  rw [← hwz] at hK2
  have hT2 : TKeep F W wz16 := fun B vs hne hB => by rw [hwz]; exact Blk.other (hT9 B vs hne hB) hne _
  have nB := Blk.other (j := 1) nB hGF (.slice va (tl.length + 1) vc)
  rw [← hwz] at nB
  clear hwz
  refine hK.out _ _ nB (fun hHeld4 => ?_)
  clear hK K hHeld3
  try simp only [Act.put, zS]
  refine wpAnyH_done (by kernel_rfl) ?_ _
  clear hHeld4
  go_end0
  exact ⟨rfl, _, hF2, hO2, hK2, hT2⟩
 ·go_simp
  obtain ⟨wz12, hwz⟩ : ∃ v, v = wzd.alloc (Obj.cells #[.int .i64 x, .int .i64 y] 104) := ⟨_, rfl⟩
  rw [← hwz]
  have hl : Below wzd.heap.size wzd wz12 := by rw [hwz]; exact below_new _ _
  have hbz12 := bthen hbzd hl
  have iN : Blk wz12 wzd.heap.size 104 [.int .i64 x, .int .i64 y] := by rw [hwz]; exact Blk.new _ _ _
  generalize wzd.heap.size = G at iN ⊢
  clear hwz
  have hF := hF.carry hl
  have ho := ho.carry hl
  have hK0 := hK0.carry hl
  have hT0 := hT0.carry hl
  have nB := nB.carry hl
  clear hl
  refine hK.out _ _ nB (fun hHeld1 => ?_)
  clear hK K hHeld0
  try simp only [Act.put, zS]
  refine wpAnyH_ready (rs := [4]) (by kernel_rfl) (by simp) ?_
  refine (AllReadyH.cons (o := ⟨some 8, .load 30 (.tmp 7), 30, "plan.go:248", #[⟨3, .data⟩], none⟩) rfl (fun K hK => ?_) AllReadyH.nil)
  have cF := hF.cell (j := 1) (v := .slice fa tl.length fc) rfl
  go_simp
  clear cF
  refine hK.out _ _ nB (fun hHeld2 => ?_)
  clear hK K hHeld1
  try simp only [Act.put, zS]
  refine wpAnyH_ready (rs := [13]) (by kernel_rfl) (by simp) ?_
  refine (AllReadyH.cons (o := ⟨some 17, .call ⟨.builtin .append, #[.tmp 8, .tmp 16], #[30, 30]⟩, 30, "plan.go:248", #[⟨4, .data⟩, ⟨12, .data⟩], none⟩) rfl (fun K hK => ?_) AllReadyH.nil)
  have hsz : base ≤ wz12.heap.size := Nat.le_trans hbs hK0.size
  refine wp_append_own wz12 (.tmp 8) (.tmp 16) 30 rfl base 104 i0 (.agg #[.int .i64 0, .int .i64 0]) 2 16 Tryz.undZvalvePulse hi hz0 hz1 hz2 rfl (by decide) (.slice fa tl.length fc) tl.length _ rfl ho ⟨G, 0, none⟩ 1 1 [.int .i64 x, .int .i64 y] rfl rfl iN.news (by simp [Value.oneCell']) (by unfold maxLen; omega) (by omega) hsz ?_
  intro v9 wz13 hown9 hgrow9 _
  have hbz13 : Below W0.heap.size W0 wz13 := (hbz12).trans (below_gr hgrow9 (fun r _ => by rw [HZ0.out]; omega) (by rw [HZ0.out]; omega))
  replace hF := Blk.own_kept hF ho (by decide) hgrow9
  replace nB := Blk.own_kept nB ho (by decide) hgrow9
  have hK9 := hK0.grown hgrow9 (fun b hb => ⟨.inr (World.ownsRow.lt ho b hb).1, fun o ho' => ownsRow_cellsT ho hb ho'⟩)
  have hT9 : TKeep F W wz13 := fun B vs hne hB => Blk.own_kept (hT0 B vs hne hB) ho (by decide) hgrow9
  obtain ⟨va, vc, rfl⟩ := ownsRow_sl hown9
  have hO9 := OwR.snoc hown9
  refine hK.out _ _ nB (fun hHeld3 => ?_)
  clear hK K hHeld2
  try simp only [Act.put, zS]
  refine zH 14 ⟨some 18, .nilCheck (.tmp 4), 0, "plan.go:248", #[⟨0, .data⟩, ⟨0, .phase⟩, ⟨1, .phase⟩, ⟨2, .phase⟩, ⟨3, .phase⟩, ⟨4, .phase⟩, ⟨5, .phase⟩, ⟨6, .phase⟩, ⟨7, .phase⟩, ⟨8, .phase⟩, ⟨9, .phase⟩, ⟨10, .phase⟩, ⟨11, .phase⟩, ⟨12, .phase⟩, ⟨13, .phase⟩], none⟩ rfl ?_
  simp only [Act.put, zS]
  refine zH 15 ⟨some 19, .fieldAddr 32 (.tmp 18) 1, 0, "plan.go:248", #[⟨14, .data⟩, ⟨0, .phase⟩, ⟨1, .phase⟩, ⟨2, .phase⟩, ⟨3, .phase⟩, ⟨4, .phase⟩, ⟨5, .phase⟩, ⟨6, .phase⟩, ⟨7, .phase⟩, ⟨8, .phase⟩, ⟨9, .phase⟩, ⟨10, .phase⟩, ⟨11, .phase⟩, ⟨12, .phase⟩, ⟨13, .phase⟩], none⟩ rfl ?_
  simp only [Act.put, zS]
  refine wpAnyH_ready (rs := [16]) (by kernel_rfl) (by simp) ?_
  refine (AllReadyH.cons (o := ⟨none, .store 30 (.tmp 19) (.tmp 17), 0, "plan.go:248", #[⟨15, .data⟩, ⟨13, .data⟩, ⟨13, .chain⟩, ⟨0, .phase⟩, ⟨1, .phase⟩, ⟨2, .phase⟩, ⟨3, .phase⟩, ⟨4, .phase⟩, ⟨5, .phase⟩, ⟨6, .phase⟩, ⟨7, .phase⟩, ⟨8, .phase⟩, ⟨9, .phase⟩, ⟨10, .phase⟩, ⟨11, .phase⟩, ⟨12, .phase⟩, ⟨13, .phase⟩], none⟩) rfl (fun K hK => ?_) AllReadyH.nil)
  have fF := hF.frozen 1
  have cF := hF.cell (j := 1) (v := .slice fa tl.length fc) rfl
  go_simp
  obtain ⟨wz16, hwz⟩ : ∃ v, v = wz13.setCell ⟨F, 1, none⟩ (.slice va (tl.length + 1) vc) := ⟨_, rfl⟩
  rw [← hwz]
  have hbz16 : Below W0.heap.size W0 wz16 := by rw [hwz]; exact (hbz13).setCell (by rw [HZ0.out]; omega) _
  have hF2 := hF.set 1 (.slice va (tl.length + 1) vc)
  rw [← hwz] at hF2
  have hO2 : OwR _ base 104 2 pV _ _ := ownsRow_setO (j := 1) (x := .slice va (tl.length + 1) vc) hO9 hFb
  rw [← hwz] at hO2
  have hK2 := hK9.setCell (o := 1) hF (.inl rfl) (.slice va (tl.length + 1) vc)
  rw [← hwz] at hK2
  have hT2 : TKeep F W wz16 := fun B vs hne hB => by rw [hwz]; exact Blk.other (hT9 B vs hne hB) hne _
  have nB := Blk.other (j := 1) nB hGF (.slice va (tl.length + 1) vc)
  rw [← hwz] at nB
  clear hwz
  refine hK.out _ _ nB (fun hHeld4 => ?_)
  clear hK K hHeld3
  try simp only [Act.put, zS]
  refine wpAnyH_done (by kernel_rfl) ?_ _
  clear hHeld4
  go_end0
  exact ⟨rfl, _, hF2, hO2, hK2, hT2⟩
end
section
set_option linter.unusedSimpArgs false
set_option linter.unusedVariables false
open Go.RowKit
theorem lineI_cons (wd : List UInt8) (c : Nat) (q : List UInt8) (r : List (List UInt8)) : lineI wd c (q :: r) = if q = wd ∧ r.length = c ∧ r.all digOk = true then some (r.map valD) else none := rfl
theorem Vals.split {w : World} {g n cap : Nat} {p : List UInt8} {wt : List (List UInt8)} (hc : ∀ j q, (p :: wt)[j]? = some q → w.cell? ⟨g, j, none⟩ = some (.string ⟨q.toArray⟩)) (hn : n = wt.length) (hcap : n ≤ cap) (o : Nat) (ho : n ≠ 0 → o = 1) :
 Vals w (.slice (some ⟨g, o, none⟩) n cap) (wt.map strV) := by
 subst hn
 refine ⟨_, cap, by rw [List.length_map], by rw [List.length_map]; exact hcap, fun h0 => ⟨g, o, rfl, fun j u hj => ?_⟩⟩
 rw [List.length_map] at h0
 obtain rfl := ho (by omega)
 rw [List.getElem?_map] at hj
 obtain ⟨q, hq, rfl⟩ := Option.map_eq_some_iff.1 hj
 have := hc (j + 1) q (by simpa using hq)
 rw [Nat.add_comm 1 j]
 exact this
/-- what reading a line tells. -/
def ReadPost (wd : List UInt8) (cnt : Nat) (bd : List UInt8) (Q : List Int → World → Prop) (W : World) (e : Ending) (W' : World) : Prop :=
 (e = .returned (.bool false) ∧ lineI wd cnt (splitC 32 bd) = none ∧ Below W.heap.size W W') ∨
   ∃ l ok, e = .returned (.bool ok) ∧ Q l W' ∧ (ok = true → lineI wd cnt (splitC 32 bd) = some l) ∧ (ok = false → lineI wd cnt (splitC 32 bd) = none)
set_option maxRecDepth 100000 in
set_option maxHeartbeats 8000000 in
theorem read_any (F g cnt : Nat) (wd bd : List UInt8) (Q : List Int → World → Prop) (W : World) (hl : bd.length ≤ 1000000) (hM : MaxL W) (hc1 : 1 ≤ cnt) (hc2 : cnt ≤ 2) (hF : F < W.heap.size)
 (eg : ∀ args w, (callFunc g args).run Tryz.prog w = .ok (.enter g args) w)
 (hput : ∀ (nv : Value) (l : List Int) (W1 : World) (bn : Nat), Below W.heap.size W W1 → OwnI 3 bn W1 nv l → l.length = cnt → Calls Tryz.prog g #[.pointer (some ⟨F, 0, none⟩), nv] W1 fun e W2 => e = .returned (.tuple #[]) ∧ Q l W2 ∧ TKeep F W1 W2) :
 Calls Tryz.prog 50 #[.agg #[.string ⟨wd.toArray⟩, .int .i64 (cnt : Int), .func (.func g) #[] #[]], .pointer (some ⟨F, 0, none⟩), .string ⟨bd.toArray⟩] W (ReadPost wd cnt bd Q W) := by
 have HM := Lib.hid hM
 have HWD := Lib.hid (fun W1 h => words_any bd W1 hl h)
 have hml := splitC_length 32 bd
 have hcl : bd.count 32 ≤ bd.length := List.count_le_length
 have HPL := Lib.hid (fun q (hq : q ∈ splitC 32 bd) => splitC_len 32 bd q hq)
 unfold ReadPost
 obtain ⟨ws, hws⟩ : ∃ ws, ws = splitC 32 bd := ⟨_, rfl⟩
 rw [← hws] at HWD HPL hml ⊢
 clear hws
 obtain ⟨p, wt, rfl⟩ : ∃ p wt, ws = p :: wt := by
  cases ws with
  | nil => simp at hml
  | cons q r => exact ⟨q, r, rfl⟩
 rw [List.length_cons] at hml HWD
 obtain ⟨n, hn⟩ : ∃ n, n = wt.length := ⟨_, rfl⟩
 have hn6 : n ≤ 1000000 := by omega
 rw [← hn] at HWD
 have HN := Lib.hid hn
 have HLC := Lib.hid (lineI_cons wd cnt p wt)
 have HPUT := Lib.hid hput
 obtain ⟨i0, hi, hz0, hz1, hz2⟩ := info_parts Tryz.infoInt
 clear hml hcl hn hput hM
 go_enter Tryz.func50, Tryz.ntmps50
 go_upto_region 1 with fail
 obtain ⟨W1, hW1⟩ : ∃ v, v = World.alloc W (Obj.cells #[.string ⟨wd.toArray⟩, .int .i64 (cnt : Int), .func (.func g) #[] #[]] 100) := ⟨_, rfl⟩
 have kW1 : Below W.heap.size W W1 := by rw [hW1]; exact below_new _ _
 have iW1 : Blk W1 (W.heap.size) 100 [.string ⟨wd.toArray⟩, .int .i64 (cnt : Int), .func (.func g) #[] #[]] := by rw [hW1]; exact Blk.new _ _ _
 have sW1 : W1.heap.size = W.heap.size + 1 := by rw [hW1]; simp
 rw [← hW1]
 clear hW1
 have hWD := HWD.out W1 (HM.out.carry kW1)
 unfold strV at hWD
 clear HWD HM
 go_wp2_with fail
 refine hWD.mono ?_
 rintro e W2 ⟨rfl, hbw, hb2⟩
 have iF := iW1.carry hb2
 have hB2 := bthen kW1 hb2
 have q0 := iF.cell (j := 0) (v := .string ⟨wd.toArray⟩) rfl
 have q1 := iF.cell (j := 1) (v := .int .i64 (cnt : Int)) rfl
 obtain ⟨G, hG⟩ : ∃ G, G = W1.heap.size := ⟨_, rfl⟩
 obtain ⟨D, hD⟩ : ∃ D, D = W.heap.size := ⟨_, rfl⟩
 have hGD : D < G := by omega
 rw [← hG] at hbw ⊢
 rw [← hD] at iF q0 q1 ⊢
 have HD := Lib.hid hD
 have hG2 := Blk.lt hbw
 have c0 : W2.cell? ⟨G, 0, none⟩ = some (.string ⟨p.toArray⟩) := hbw.cell (j := 0) rfl
 have HBW := Lib.hid hbw
 have HIF := Lib.hid iF
 have HB2 := Lib.hid hB2
 clear iW1 kW1 sW1 hb2 hWD hbw hG hD iF hB2
 have v0 : IntKind.i64.wrap (1 + (cnt : Int)) = 1 + (cnt : Int) := IntWalk.i64_in _ (by omega)
 go_upto_region 2 with fail
 by_cases hp : p = wd
 ·have hne : (p == wd) = true := by rw [hp]; exact beq_self_eq_true wd
  have HP := Lib.hid hp
  clear hp
  by_cases hcn : n = cnt
  ·subst hcn
   have hcb : (((n : Int) + 1) != 1 + (n : Int)) = false := by rw [bne_eq_false_iff_eq]; omega
   refine wp_region_held_drew (S := (fun w' => w'.cell? ⟨G, 0, none⟩ = some (.string ⟨p.toArray⟩) ∧ w'.cell? ⟨D, 0, none⟩ = some (.string ⟨wd.toArray⟩) ∧ w'.cell? ⟨D, 1, none⟩ = some (.int .i64 (n : Int)))) (by kernel_rfl) ?_ (fun hHeld0 => ?_)
   ·(try dsimp only); go_keep
   refine zH 0 ⟨some 14, .move (.tmp 7), 44, "plan.go:299", #[], none⟩ rfl ?_
   simp only [Act.put, zS]
   refine zH 1 ⟨some 15, .indexAddr 44 (.tmp 14) (.const (.int .i64 0)), 0, "plan.go:299", #[⟨0, .data⟩], none⟩ rfl ?_
   simp only [Act.put, zS]
   refine zH 2 ⟨some 16, .load 9 (.tmp 15), 9, "plan.go:299", #[⟨1, .data⟩], none⟩ rfl ?_
   simp only [Act.put, zS]
   refine zH 3 ⟨some 17, .fieldAddr 100 (.tmp 3) 0, 0, "plan.go:299", #[], none⟩ rfl ?_
   simp only [Act.put, zS]
   refine zH 4 ⟨some 18, .load 9 (.tmp 17), 9, "plan.go:299", #[⟨3, .data⟩], none⟩ rfl ?_
   simp only [Act.put, zS]
   refine zH 5 ⟨some 19, .binOp .neq 9 (.tmp 16) (.tmp 18) 9, 4, "plan.go:299", #[⟨2, .data⟩, ⟨4, .data⟩], none⟩ rfl ?_
   simp only [Act.put, zS]
   refine zH 6 ⟨some 20, .move (.tmp 19), 4, "plan.go:299", #[⟨5, .data⟩], none⟩ rfl ?_
   simp only [Act.put, zS]
   refine zH 7 ⟨some 21, .move (.tmp 7), 44, "plan.go:299", #[⟨6, .guard⟩], some (6, false)⟩ rfl ?_
   simp only [Act.put, zS]
   refine zH 8 ⟨some 22, .call ⟨.builtin .len, #[.tmp 21], #[44]⟩, 3, "plan.go:299", #[⟨7, .data⟩, ⟨6, .guard⟩], some (6, false)⟩ rfl ?_
   simp only [Act.put, zS]
   refine zH 9 ⟨some 23, .fieldAddr 100 (.tmp 3) 1, 0, "plan.go:299", #[⟨6, .guard⟩], some (6, false)⟩ rfl ?_
   simp only [Act.put, zS]
   refine zH 10 ⟨some 24, .load 3 (.tmp 23), 3, "plan.go:299", #[⟨9, .data⟩, ⟨6, .guard⟩], some (6, false)⟩ rfl ?_
   simp only [Act.put, zS]
   refine zH 11 ⟨some 25, .binOp .add 3 (.const (.int .i64 1)) (.tmp 24) 3, 3, "plan.go:299", #[⟨10, .data⟩, ⟨6, .guard⟩], some (6, false)⟩ rfl ?_
   simp only [Act.put, zS]
   refine zH 12 ⟨some 26, .binOp .neq 3 (.tmp 22) (.tmp 25) 3, 4, "plan.go:299", #[⟨8, .data⟩, ⟨11, .data⟩, ⟨6, .guard⟩], some (6, false)⟩ rfl ?_
   simp only [Act.put, zS]
   refine zH 13 ⟨some 27, .pick (.tmp 20) (.const (.bool true)) (.tmp 26), 4, "plan.go:299", #[⟨6, .data⟩, ⟨12, .data⟩], none⟩ rfl ?_
   simp only [Act.put, zS]
   refine wpAnyH_done (by kernel_rfl) ?_ _
   clear hHeld0
   skip
   clear c0 q0 q1 hcb hne
   obtain ⟨V, hV⟩ : ∃ v, v = W2.drew := ⟨_, rfl⟩
   rw [← hV]
   have kV : Below W2.heap.size W2 V := by rw [hV]; exact (Below.refl _ _).drew
   have iF := HIF.out.carry kV
   have hBV := bthen HB2.out kV
   have iW := HBW.out.carry kV
   have hGV := Blk.lt iW
   have hDV := Blk.lt iF
   obtain ⟨o, hto, ho1⟩ := tail_run G n
   obtain rfl : o = 1 := ho1 (by omega)
   have hVal : Vals V (.slice (some ⟨G, 1, none⟩) n n) (wt.map strV) := Vals.split (g := G) (p := p) (fun j q hq => iW.cell (by rw [List.getElem?_map, hq]; rfl)) HN.out (Nat.le_refl _) 1 (fun _ => rfl)
   clear hV kV HBW HIF HB2 iW ho1
   go_upto_region 5 with fail
   obtain ⟨W4, hW4⟩ : ∃ v, v = World.alloc V (Obj.cells #[.slice (some ⟨G, 1, none⟩) n n, .bool false] 191) := ⟨_, rfl⟩
   have kW4 : Below V.heap.size V W4 := by rw [hW4]; exact below_new _ _
   have iW4 : Blk W4 (V.heap.size) 191 [.slice (some ⟨G, 1, none⟩) n n, .bool false] := by rw [hW4]; exact Blk.new _ _ _
   have sW4 : W4.heap.size = V.heap.size + 1 := by rw [hW4]; simp
   rw [← hW4]
   clear hW4
   have q1 := (iF.carry kW4).cell (j := 1) (v := .int .i64 (n : Int)) rfl
   obtain ⟨T, hT⟩ : ∃ T, T = V.heap.size := ⟨_, rfl⟩
   rw [← hT] at iW4 sW4 hGV hDV ⊢
   have HT := Lib.hid hT
   have HIF := Lib.hid iF
   have HBV := Lib.hid hBV
   clear hT hto iF hBV
   go_wp2_with fail
   have HVAL := Lib.hid (hVal.carry kW4)
   have HS4 := Lib.hid sW4
   have k4 : Below V.heap.size V W4 := kW4
   clear q1 hVal kW4 sW4
   go_loopw [10, 36] (fun v10 i wr => ∃ (j : Nat) (u : Value) (l : List Int), j ≤ n ∧ i = .int .i64 j ∧ Blk wr T 191 [u, .bool (!(wt.take j).all digOk)] ∧ Vals wr u ((wt.drop j).map strV) ∧ (∀ b2 off2 c2, u = .slice (some ⟨b2, off2, none⟩) (wt.drop j).length c2 → b2 = G) ∧ l.length = j ∧
    OwnI 3 (T + 1) wr v10 l ∧ ((wt.take j).all digOk = true → l = (wt.take j).map valD) ∧ Below V.heap.size V wr) (fun _ i _ => n - (intOf i).toNat)
   case atStart => exact ⟨0, _, [], by omega, rfl, iW4, HVAL.out, fun b2 off2 c2 e => by simp only [Value.slice.injEq, Option.some.injEq, Addr.mk.injEq] at e; exact e.1.1.symm, rfl, World.ownsRow_nil _ _ _ _, fun _ => rfl, k4⟩
   case round =>
    clear iW4 k4 HVAL
    obtain ⟨j, u, l, hj, rfl, hbt, hu, hub, hlj, hown, hgood, hbr⟩ := hrel
    have HGD := Lib.hid hgood
    clear hgood
    by_cases hlt2 : j < n
    ·obtain ⟨q, hq⟩ : ∃ q, wt[j]? = some q := ⟨_, List.getElem?_eq_getElem (by rw [← HN.out]; exact hlt2)⟩
     have hdr : wt.drop j = q :: wt.drop (j + 1) := by
      rw [List.drop_eq_getElem_cons (by rw [← HN.out]; exact hlt2)]
      rw [List.getElem?_eq_getElem (by rw [← HN.out]; exact hlt2)] at hq
      rw [Option.some.inj hq]
     have hdl : (wt.drop (j + 1)).length = n - (j + 1) := by rw [List.length_drop, ← HN.out]
     rw [hdr] at hu hub
     obtain ⟨b9, o9, c9, hue, hcs9⟩ := hu.head (by simp)
     simp only [List.map_cons, List.length_cons, List.length_map] at hue
     subst hue
     obtain rfl : b9 = G := hub b9 o9 c9 rfl
     have hb9 : b9 ≠ T := by omega
     have NB := Lib.hid (number_any T b9 o9 c9 (!(wt.take j).all digOk) q (wt.drop (j + 1)) wr hbt hu (by have := HPL.out q (List.mem_cons_of_mem _ (List.mem_of_getElem? hq)); omega) hb9)
     have t0 := hbt.cell (j := 0) (v := .slice (some ⟨b9, o9, none⟩) ((wt.drop (j + 1)).length + 1) c9) rfl
     obtain ⟨pa, pc, hp10⟩ := ownsRow_sl hown
     rw [hlj] at hp10
     subst hp10
     have d0 : (j : Int) < (n : Int) := by omega
     have HTK := Lib.hid (show wt.take (j + 1) = wt.take j ++ [q] by rw [List.take_add_one, hq]; rfl)
     clear hu hub hdr hcs9 hq hbt
     go_wp2_with fail
     refine NB.out.mono ?_
     rintro e wx ⟨nq, u', rfl, hnq, hbt2, hu2, hub2, hk⟩
     have hsx := hk.size
     have hown1 : wr.ownsRow (T + 1) 3 1 (.slice pa j pc) j (l.map (Value.int .i64)) := by
      have h := hown
      unfold OwnI at h
      rw [hlj] at h
      exact h
     have hown2 : wx.ownsRow (T + 1) 3 1 (.slice pa j pc) j (l.map (Value.int .i64)) := hk.own hown1 (fun g hg e => by have := (World.ownsRow.lt hown1 g hg).1; omega)
     have hbr2 := hbr.trans (hk.below (base := V.heap.size) (fun k hk e => by have := HT.out; omega) hbr.size)
     have hHX := Lib.hid (show T < wx.heap.size from Blk.lt hbt2)
     have HU2 := Lib.hid hu2
     have HUB2 := Lib.hid hub2
     have HNQ := Lib.hid hnq
     have hs3y : T + 1 ≤ wx.heap.size := hHX.out
     have hjm : j ≤ 1000000 := by omega
     clear hu2 hub2 NB hown hown1 hk hnq t0
     go_wp2_with (at_builtin; refine wpList_append_own _ rfl _ _ 63 rfl (T + 1) 3 i0 (.int .i64 0) 1 8 Tryz.undZint hi hz0 hz1 hz2 rfl (by decide) _ _ _ rfl (hown2.alloc _) ⟨wx.heap.size, 0, none⟩ 1 1 [.int .i64 nq] rfl rfl (cell_one_new _ _ _) (by simp [Value.oneCell']) (by unfold maxLen; omega) (by omega) (by simp; omega) ?_; intro v' w5 hown5 hgrow5 _)
     have hba := below_new wx (Obj.cells #[.int .i64 nq] 3)
     have hoa := hown2.alloc (Obj.cells #[.int .i64 nq] 3)
     have hb5 : Below T (wx.alloc (Obj.cells #[.int .i64 nq] 3)) w5 := below_gr hgrow5 (fun r e => by have := (hoa.lt r e).1; omega) (by have := hba.size; omega)
     have hbt5 := Blk.own_kept (hbt2.carry hba) hoa (by decide) hgrow5
     have hv5 := (HU2.out.carry hba).low (fun b2 off2 c2 e => by rw [HUB2.out b2 off2 c2 (by simpa using e)]; omega) hb5
     have hbr5 : Below V.heap.size V w5 := hbr2.trans ((hba.mono (by have := HT.out; omega)).trans (by rw [← HT.out]; exact hb5))
     have hO5 : OwnI 3 (T + 1) w5 v' (l ++ [nq]) := by
      unfold OwnI
      rw [List.length_append, List.length_singleton, hlj, List.map_append]
      exact hown5
     clear hown5 hgrow5 hoa hba hb5 hown2 hbt2 hbr2
     go_wp2_with fail
     go_roundw
     case rel => exact ⟨j + 1, u', l ++ [nq], by omega, by go_num, by
      rw [HTK.out, List.all_append, List.all_cons, List.all_nil, Bool.and_true, Bool.not_and]
      exact hbt5, hv5, HUB2.out, by simp [hlj], hO5, fun h => by
      rw [HTK.out, List.all_append, Bool.and_eq_true] at h
      have hq1 : digOk q = true := by simpa using h.2
      rw [HTK.out, List.map_append, ← HGD.out h.1, HNQ.out hq1]; rfl, hbr5⟩
     case measure => simp [intOf]; omega
    ·obtain rfl : j = n := by omega
     have hta : wt.take j = wt := List.take_of_length_le (by rw [← HN.out]; exact Nat.le_refl _)
     rw [hta] at hbt HGD
     have hF9 := (HIF.out.carry hbr)
     have q2 := hF9.cell (j := 2) (v := .func (.func g) #[] #[]) rfl
     have PUT := Lib.hid (HPUT.out u10 l wr (T + 1) (bthen HBV.out hbr) hown hlj)
     have hTF : T ≠ F := by have := HBV.out.size; have := HT.out; omega
     have HNL := Lib.hid (fun h : wt.all digOk = true => show lineI wd j (p :: wt) = some l by
      rw [HLC.out, if_pos ⟨HP.out, HN.out.symm, h⟩, ← HGD.out h])
     have HNO := Lib.hid (fun h : wt.all digOk = false => show lineI wd j (p :: wt) = none by
      rw [HLC.out, if_neg]
      rintro ⟨_, _, h2⟩
      rw [h] at h2; cases h2)
     obtain ⟨ok, hok⟩ : ∃ b, b = wt.all digOk := ⟨_, rfl⟩
     rw [← hok] at hbt HNL HNO
     have HBT := Lib.hid hbt
     clear hta hok hbt hF9 hown hu hub HGD
     go_wp2_with fail
     refine PUT.out.mono ?_
     rintro e w9 ⟨rfl, hQ, hTK⟩
     have j9 := hTK T _ hTF HBT.out
     have t1 := j9.cell (j := 1) (v := .bool (!ok)) rfl
     clear j9 hTK HBT PUT q2
     cases ok with
     | false =>
       go_wp2
       go_ret
       exact .inr ⟨l, false, rfl, hQ, fun h => (by cases h), fun _ => HNO.out (by trivial)⟩
     | true =>
       go_wp2
       go_ret
       exact .inr ⟨l, true, rfl, hQ, fun _ => HNL.out (by trivial), fun h => (by cases h)⟩
  ·have hcb : (((n : Int) + 1) != 1 + (cnt : Int)) = true := by rw [bne_iff_ne]; omega
   have HNO := Lib.hid (show lineI wd cnt (p :: wt) = none by
    rw [HLC.out, if_neg]
    rintro ⟨_, h2, _⟩
    exact hcn (by rw [HN.out, h2]))
   refine wp_region_held_drew (S := (fun w' => w'.cell? ⟨G, 0, none⟩ = some (.string ⟨p.toArray⟩) ∧ w'.cell? ⟨D, 0, none⟩ = some (.string ⟨wd.toArray⟩) ∧ w'.cell? ⟨D, 1, none⟩ = some (.int .i64 (cnt : Int)))) (by kernel_rfl) ?_ (fun hHeld0 => ?_)
   ·(try dsimp only); go_keep
   refine zH 0 ⟨some 14, .move (.tmp 7), 44, "plan.go:299", #[], none⟩ rfl ?_
   simp only [Act.put, zS]
   refine zH 1 ⟨some 15, .indexAddr 44 (.tmp 14) (.const (.int .i64 0)), 0, "plan.go:299", #[⟨0, .data⟩], none⟩ rfl ?_
   simp only [Act.put, zS]
   refine zH 2 ⟨some 16, .load 9 (.tmp 15), 9, "plan.go:299", #[⟨1, .data⟩], none⟩ rfl ?_
   simp only [Act.put, zS]
   refine zH 3 ⟨some 17, .fieldAddr 100 (.tmp 3) 0, 0, "plan.go:299", #[], none⟩ rfl ?_
   simp only [Act.put, zS]
   refine zH 4 ⟨some 18, .load 9 (.tmp 17), 9, "plan.go:299", #[⟨3, .data⟩], none⟩ rfl ?_
   simp only [Act.put, zS]
   refine zH 5 ⟨some 19, .binOp .neq 9 (.tmp 16) (.tmp 18) 9, 4, "plan.go:299", #[⟨2, .data⟩, ⟨4, .data⟩], none⟩ rfl ?_
   simp only [Act.put, zS]
   refine zH 6 ⟨some 20, .move (.tmp 19), 4, "plan.go:299", #[⟨5, .data⟩], none⟩ rfl ?_
   simp only [Act.put, zS]
   refine zH 7 ⟨some 21, .move (.tmp 7), 44, "plan.go:299", #[⟨6, .guard⟩], some (6, false)⟩ rfl ?_
   simp only [Act.put, zS]
   refine zH 8 ⟨some 22, .call ⟨.builtin .len, #[.tmp 21], #[44]⟩, 3, "plan.go:299", #[⟨7, .data⟩, ⟨6, .guard⟩], some (6, false)⟩ rfl ?_
   simp only [Act.put, zS]
   refine zH 9 ⟨some 23, .fieldAddr 100 (.tmp 3) 1, 0, "plan.go:299", #[⟨6, .guard⟩], some (6, false)⟩ rfl ?_
   simp only [Act.put, zS]
   refine zH 10 ⟨some 24, .load 3 (.tmp 23), 3, "plan.go:299", #[⟨9, .data⟩, ⟨6, .guard⟩], some (6, false)⟩ rfl ?_
   simp only [Act.put, zS]
   refine zH 11 ⟨some 25, .binOp .add 3 (.const (.int .i64 1)) (.tmp 24) 3, 3, "plan.go:299", #[⟨10, .data⟩, ⟨6, .guard⟩], some (6, false)⟩ rfl ?_
   simp only [Act.put, zS]
   refine zH 12 ⟨some 26, .binOp .neq 3 (.tmp 22) (.tmp 25) 3, 4, "plan.go:299", #[⟨8, .data⟩, ⟨11, .data⟩, ⟨6, .guard⟩], some (6, false)⟩ rfl ?_
   simp only [Act.put, zS]
   refine zH 13 ⟨some 27, .pick (.tmp 20) (.const (.bool true)) (.tmp 26), 4, "plan.go:299", #[⟨6, .data⟩, ⟨12, .data⟩], none⟩ rfl ?_
   simp only [Act.put, zS]
   refine wpAnyH_done (by kernel_rfl) ?_ _
   clear hHeld0
   skip
   go_wp2
   go_ret
   exact .inl ⟨rfl, HNO.out, HB2.out.drew⟩
 ·have hne : (p == wd) = false := beq_eq_false_iff_ne.2 hp
  have HNO := Lib.hid (show lineI wd cnt (p :: wt) = none by
   rw [HLC.out, if_neg]
   rintro ⟨h2, _⟩
   exact hp h2)
  refine wp_region_held_drew (S := (fun w' => w'.cell? ⟨G, 0, none⟩ = some (.string ⟨p.toArray⟩) ∧ w'.cell? ⟨D, 0, none⟩ = some (.string ⟨wd.toArray⟩))) (by kernel_rfl) ?_ (fun hHeld0 => ?_)
  ·(try dsimp only); go_keep
  refine zH 0 ⟨some 14, .move (.tmp 7), 44, "plan.go:299", #[], none⟩ rfl ?_
  simp only [Act.put, zS]
  refine zH 1 ⟨some 15, .indexAddr 44 (.tmp 14) (.const (.int .i64 0)), 0, "plan.go:299", #[⟨0, .data⟩], none⟩ rfl ?_
  simp only [Act.put, zS]
  refine zH 2 ⟨some 16, .load 9 (.tmp 15), 9, "plan.go:299", #[⟨1, .data⟩], none⟩ rfl ?_
  simp only [Act.put, zS]
  refine zH 3 ⟨some 17, .fieldAddr 100 (.tmp 3) 0, 0, "plan.go:299", #[], none⟩ rfl ?_
  simp only [Act.put, zS]
  refine zH 4 ⟨some 18, .load 9 (.tmp 17), 9, "plan.go:299", #[⟨3, .data⟩], none⟩ rfl ?_
  simp only [Act.put, zS]
  refine zH 5 ⟨some 19, .binOp .neq 9 (.tmp 16) (.tmp 18) 9, 4, "plan.go:299", #[⟨2, .data⟩, ⟨4, .data⟩], none⟩ rfl ?_
  simp only [Act.put, zS]
  refine zH 6 ⟨some 20, .move (.tmp 19), 4, "plan.go:299", #[⟨5, .data⟩], none⟩ rfl ?_
  simp only [Act.put, zS]
  refine zL 7 ⟨some 21, .move (.tmp 7), 44, "plan.go:299", #[⟨6, .guard⟩], some (6, false)⟩ rfl ?_
  simp only [Act.put, zS]
  refine zL 8 ⟨some 22, .call ⟨.builtin .len, #[.tmp 21], #[44]⟩, 3, "plan.go:299", #[⟨7, .data⟩, ⟨6, .guard⟩], some (6, false)⟩ rfl ?_
  simp only [Act.put, zS]
  refine zL 9 ⟨some 23, .fieldAddr 100 (.tmp 3) 1, 0, "plan.go:299", #[⟨6, .guard⟩], some (6, false)⟩ rfl ?_
  simp only [Act.put, zS]
  refine zL 10 ⟨some 24, .load 3 (.tmp 23), 3, "plan.go:299", #[⟨9, .data⟩, ⟨6, .guard⟩], some (6, false)⟩ rfl ?_
  simp only [Act.put, zS]
  refine zL 11 ⟨some 25, .binOp .add 3 (.const (.int .i64 1)) (.tmp 24) 3, 3, "plan.go:299", #[⟨10, .data⟩, ⟨6, .guard⟩], some (6, false)⟩ rfl ?_
  simp only [Act.put, zS]
  refine zL 12 ⟨some 26, .binOp .neq 3 (.tmp 22) (.tmp 25) 3, 4, "plan.go:299", #[⟨8, .data⟩, ⟨11, .data⟩, ⟨6, .guard⟩], some (6, false)⟩ rfl ?_
  simp only [Act.put, zS]
  refine zH 13 ⟨some 27, .pick (.tmp 20) (.const (.bool true)) (.tmp 26), 4, "plan.go:299", #[⟨6, .data⟩, ⟨12, .data⟩], none⟩ rfl ?_
  simp only [Act.put, zS]
  refine wpAnyH_done (by kernel_rfl) ?_ _
  clear hHeld0
  skip
  go_wp2
  go_ret
  exact .inl ⟨rfl, HNO.out, HB2.out.drew⟩
end
end Go.Proofs.YtpmngcffkhbofaaGreatDoor

/- Texts of loops: the program's taker of numbers. -/
import Derived.Test.YtfdehcphmmhjaaaGreatDoorLopA
import Derived.Lib.AtoiErrMem
namespace Go.Proofs.YtfdehcphmmhjaaaGreatDoor
set_option linter.unusedSimpArgs false
set_option linter.unusedVariables false
open Go.RowKit

/-- the library's two errors are laid. -/
def Errs (W : World) : Prop := (∃ tp p, W.cell? ⟨3, 0, none⟩ = some (.iface tp p)) ∧ ∃ tp p, W.cell? ⟨4, 0, none⟩ = some (.iface tp p)
theorem Errs.carry {W W' : World} (h : Errs W) (hb : Below W.heap.size W W') : Errs W' := by
  obtain ⟨⟨a, b, h1⟩, c, d, h2⟩ := h
  exact ⟨⟨a, b, cellb h1 hb⟩, c, d, cellb h2 hb⟩
theorem Errs.low {W W' : World} (h : Errs W) (hb : Below 5 W W') : Errs W' := by
  obtain ⟨⟨a, b, h1⟩, c, d, h2⟩ := h
  exact ⟨⟨a, b, (hb.cell (p := ⟨3, 0, none⟩) (by decide)).trans h1⟩, c, d, (hb.cell (p := ⟨4, 0, none⟩) (by decide)).trans h2⟩
theorem Pows.low {w w' : World} (h : Pows w) (hb : Below 5 w w') : Pows w' := by
  have hg : Tryz.prog.globalNamed "internal/strconv.uint64pow10" = some 1 := by kernel_rfl
  unfold Pows Lib.TabIs World.var? at h ⊢
  rw [hg] at h ⊢
  simp only [Option.bind_some] at h ⊢
  rw [hb.block _ (by decide)]
  exact h
theorem MaxL.low {w w' : World} (h : MaxL w) (hb : Below 5 w w') : MaxL w' := by
  obtain ⟨m, hm⟩ := h
  exact ⟨m, (hb.cell (p := ⟨2, 0, none⟩) (by decide)).trans hm⟩
/-- what the library has laid. -/
structure Base (W : World) : Prop where
  pows : Pows W
  errs : Errs W
  maxl : MaxL W
theorem Base.low {W W' : World} (h : Base W) (hb : Below 5 W W') : Base W' := ⟨h.pows.low hb, h.errs.low hb, h.maxl.low hb⟩
theorem Base.size {W : World} (h : Base W) : 5 ≤ W.heap.size := by
  obtain ⟨_, c, d, h2⟩ := h.errs
  have := lt_of_cellSome h2
  omega
theorem Base.carry {W W' : World} (h : Base W) (hb : Below W.heap.size W W') : Base W' := h.low (hb.mono h.size)
/-- the number that Atoi returns. -/
def numV (p : List UInt8) : Int := match Lib.atoiAll p with
  | .ok v => v
  | .range => Lib.atoiSat p
  | _ => 0
theorem numV_bd (p : List UInt8) : -9223372036854775808 ≤ numV p ∧ numV p ≤ 9223372036854775807 := by
  unfold numV
  cases h : Lib.atoiAll p
  · exact Lib.atoiAll_bounds h
  · show (-9223372036854775808 : Int) ≤ 0 ∧ (0 : Int) ≤ 9223372036854775807
    decide
  · exact Lib.atoiSat_bounds p
theorem numV_ok {p : List UInt8} (h : sgOk p = true) : numV p = sgV p := by
  unfold numV
  rw [num_val h]
/-- Atoi tells an error. -/
def atoiBad (p : List UInt8) : Bool := match Lib.atoiAll p with
  | .ok _ => false
  | _ => true
theorem atoi_any (p : List UInt8) (w : World) (hp : p.length ≤ 1000000) (hE : Errs w) :
    Calls Tryz.prog 87 #[.string ⟨p.toArray⟩] w fun e w' => (∃ ev : Value, e = .returned (.tuple #[.int .i64 (numV p), ev]) ∧ ((atoiBad p = false ∧ ev = .nilIface) ∨ (atoiBad p = true ∧ ∃ tp q, ev = .iface tp q))) ∧ Below w.heap.size w w' := by
  obtain ⟨⟨a, b, h1⟩, c, d, h2⟩ := hE
  have hs : (⟨p.toArray⟩ : ByteArray).size = p.length := mk_size p
  unfold numV atoiBad
  cases h : Lib.atoiAll p
  · rename_i v
    refine (Tryz.strconv_Atoi_ok ⟨p.toArray⟩ (by omega) v h w).mono ?_
    rintro e w' ⟨rfl, hw⟩
    refine ⟨⟨_, rfl, .inl ⟨rfl, rfl⟩⟩, ?_⟩
    rcases hw with rfl | ⟨t, rfl⟩
    · exact Below.refl _ _
    · exact Lib.bytesWorld_below w _ _
  · refine (Tryz.strconv_Atoi_syntax ⟨p.toArray⟩ (by omega) h _ w h1 (.inr ⟨a, b, rfl⟩)).mono ?_
    rintro e w' ⟨N, rfl, _, _, hb⟩
    exact ⟨⟨_, rfl, .inr ⟨rfl, _, _, rfl⟩⟩, hb⟩
  · refine (Tryz.strconv_Atoi_range ⟨p.toArray⟩ (by omega) h _ w h2 (.inr ⟨c, d, rfl⟩)).mono ?_
    rintro e w' ⟨N, rfl, _, _, hb⟩
    exact ⟨⟨_, rfl, .inr ⟨rfl, _, _, rfl⟩⟩, hb⟩
theorem numBad_of (p : List UInt8) : numBad p = (atoiBad p || (decide (9 < (Lib.trimPrefix p [45]).length) || decide (Lib.itoa (numV p) ≠ p))) := by
  unfold numBad atoiBad numV
  cases h : Lib.atoiAll p <;> simp
theorem trim_any (p : List UInt8) (w : World) :
    Calls Tryz.prog 88 #[.string ⟨p.toArray⟩, .string ⟨#[45]⟩] w fun e w' => e = .returned (.string ⟨(Lib.trimPrefix p [45]).toArray⟩) ∧ w' = w := Tryz.strings_TrimPrefix ⟨p.toArray⟩ ⟨#[45]⟩ w
/-- a number is taken. -/
def NumPost (B b0 : Nat) (wr : Bool) (p : List UInt8) (ws : List (List UInt8)) (W : World) (e : Ending) (W' : World) : Prop :=
  ∃ (u : Value), e = .returned (.int .i64 (numV p)) ∧ Blk W' B 106 [u, .bool (wr || !sgOk p)] ∧ Vals W' u (ws.map strV) ∧ (∀ b off c, u = .slice (some ⟨b, off, none⟩) ws.length c → b = b0) ∧ Keep (fun k => k = B) W W'
theorem word_eq (n : Int) (p : List UInt8) : ((word n) == (⟨p.toArray⟩ : ByteArray)) = decide (Lib.itoa n = p) := by
  rw [beq_data]
  have e : (word n = (⟨p.toArray⟩ : ByteArray)) ↔ Lib.itoa n = p := by
    constructor
    · intro h
      have := congrArg (fun b : ByteArray => b.data.toList) h
      simpa [word] using this
    · rintro rfl; rfl
  exact decide_eq_decide.2 e
set_option maxRecDepth 100000 in
set_option maxHeartbeats 4000000 in
theorem number_any (B : Nat) (b off cp : Nat) (wr : Bool) (p : List UInt8) (ws : List (List UInt8)) (W : World) (hB : Blk W B 106 [.slice (some ⟨b, off, none⟩) (ws.length + 1) cp, .bool wr])
    (hv : Vals W (.slice (some ⟨b, off, none⟩) (ws.length + 1) cp) (strV p :: ws.map strV)) (hp : p.length ≤ 1000000) (hnb : b ≠ B) (hW : Base W) (hB5 : 5 ≤ B) :
    Calls Tryz.prog 43 #[.pointer (some ⟨B, 0, none⟩)] W (NumPost B b wr p ws W) := by
  have c0 := hB.cell (j := 0) (v := .slice (some ⟨b, off, none⟩) (ws.length + 1) cp) rfl
  have f0 := hB.frozen 0
  obtain ⟨b', off', cp', hvv, hcs⟩ := hv.head (by simp)
  simp only [List.length_cons, List.length_map, Value.slice.injEq, Option.some.injEq, Addr.mk.injEq, and_true, true_and] at hvv
  obtain ⟨⟨rfl, rfl⟩, rfl⟩ := hvv
  have w0 : W.cell? ⟨b, off, none⟩ = some (.string ⟨p.toArray⟩) := hcs 0 (strV p) rfl
  have hcp : ws.length + 1 ≤ cp := by
    obtain ⟨a', c', e', h1, _⟩ := id hv
    simp only [Value.slice.injEq] at e'
    rw [e'.2.2]; simpa using h1
  -- behind the store of the tail u
  have REST := Lib.hid (fun (u : Value) (hu : Vals W u (ws.map strV)) (hub : ∀ b2 off2 c2, u = .slice (some ⟨b2, off2, none⟩) ws.length c2 → b2 = b) => by
    have hb1 : Blk (W.setCell ⟨B, 0, none⟩ u) B 106 [u, .bool wr] := hB.set 0 u
    have hk1 : Keep (fun k => k = B) W (W.setCell ⟨B, 0, none⟩ u) := Keep.setCell (S := fun k => k = B) (Keep.refl _ W) hB rfl u
    have hu1 : Vals (W.setCell ⟨B, 0, none⟩ u) u (ws.map strV) := hu.set (fun b2 off2 c2 e => by rw [hub b2 off2 c2 (by simpa using e)]; exact hnb)
    have hW1 : Base (W.setCell ⟨B, 0, none⟩ u) := hW.low ((Below.refl 5 W).setCell hB5 u)
    exact And.intro hb1 (And.intro hk1 (And.intro hu1 (And.intro (atoi_any p _ hp hW1.errs) hW1))))
  have FIN := Lib.hid (fun (u : Value) (hub : ∀ b2 off2 c2, u = .slice (some ⟨b2, off2, none⟩) ws.length c2 → b2 = b) (W2 : World) (i2 : Blk W2 B 106 [u, .bool wr]) (k2 : Keep (fun k => k = B) W W2) (u2 : Vals W2 u (ws.map strV)) (x : Bool) (hx : x = (wr || !sgOk p)) =>
    show NumPost B b wr p ws W (.returned (.int .i64 (numV p))) (W2.setCell ⟨B, 1, none⟩ (.bool x)) from
      ⟨u, rfl, by rw [← hx]; exact i2.set 1 (.bool x), u2.set (fun b2 off2 c2 e => by rw [hub b2 off2 c2 (by simpa using e)]; exact hnb), hub, Keep.setCell (S := fun k => k = B) k2 i2 rfl _⟩)
  obtain ⟨sp, hsp⟩ : ∃ sp, sp = (⟨p.toArray⟩ : ByteArray) := ⟨_, rfl⟩
  rw [← hsp] at w0
  have HSP := Lib.hid hsp
  clear hsp
  have HN := Lib.hid (numBad_of p)
  have HNE := Lib.hid (numBad_eq p)
  have HBD := Lib.hid (numV_bd p)
  have HV := Lib.hid hv
  clear hW hB hcs hv
  have KEY := Lib.hid (fun (u : Value) (hub : ∀ b2 off2 c2, u = .slice (some ⟨b2, off2, none⟩) ws.length c2 → b2 = b) => FIN.out u hub)
  go_enter Tryz.func43, Tryz.ntmps43
  by_cases hc1 : cp = 1
  · obtain rfl : ws = [] := List.length_eq_zero_iff.1 (by omega)
    subst hc1
    obtain ⟨u, hu⟩ : ∃ u : Value, u = .slice (some ⟨b, off, none⟩) 0 0 := ⟨_, rfl⟩
    have hut : Vals W u (([] : List (List UInt8)).map strV) := ⟨some ⟨b, off, none⟩, 0, hu, Nat.zero_le _, fun h => absurd h (by simp)⟩
    have hub : ∀ b2 off2 c2, u = .slice (some ⟨b2, off2, none⟩) ([] : List (List UInt8)).length c2 → b2 = b := fun b2 off2 c2 e => by
      rw [hu] at e
      simp only [Value.slice.injEq, Option.some.injEq, Addr.mk.injEq] at e; exact e.1.1.symm
    obtain ⟨i1, k1, u1, AT, hW1⟩ := REST.out u hut hub
    have HF := Lib.hid (FIN.out u hub)
    have HU := Lib.hid hu
    rw [← HSP.out] at AT
    have HAT := Lib.hid AT
    clear REST FIN KEY hut hub AT hu HV
    go_wp2_with fail
    all_goals rw [← HU.out]
    refine HAT.out.mono ?_
    rintro e W2 ⟨⟨ev, rfl, hev⟩, hb2⟩
    have i2 := i1.carry hb2
    have FIN2 := Lib.hid (HF.out W2 i2 (k1.trans (Keep.of_below hb2)) (u1.carry hb2))
    have FIN3 := Lib.hid (fun (W3 : World) (hb3 : Below W2.heap.size W2 W3) => HF.out W3 (i2.carry hb3) ((k1.trans (Keep.of_below hb2)).trans (Keep.of_below hb3)) ((u1.carry hb2).carry hb3))
    have I2 := Lib.hid i2
    have c1 := i2.cell (j := 1) (v := .bool wr) rfl
    have f1 := i2.frozen 1
    have hW2 := hW1.carry hb2
    clear i1 i2 k1 u1 hW1 HAT HF c0 f0 w0
    cases wr with
    | true =>
      go_wp2
      go_ret
      exact FIN2.out true (by simp)
    | false =>
      rcases hev with ⟨hab, rfl⟩ | ⟨hab, tp, q, rfl⟩
      · have HT := Lib.hid (trim_any p W2)
        have hts := mk_size (Lib.trimPrefix p [45])
        obtain ⟨tl, htl⟩ : ∃ tl, tl = Lib.trimPrefix p [45] := ⟨_, rfl⟩
        have HTL := Lib.hid htl
        rw [← htl] at HT hts
        rw [← HSP.out] at HT
        clear htl
        by_cases h9 : 9 < tl.length
        · have h9' : 9 < (tl.length : Int) := by omega
          have HX := Lib.hid (show true = (false || !sgOk p) by
            rw [← HNE.out, HN.out, ← HTL.out, decide_eq_true h9]; simp)
          go_wp2_with fail
          refine HT.out.mono ?_
          rintro e w1 ⟨rfl, rfl⟩
          go_wp2
          go_ret
          exact FIN2.out true HX.out
        · have h9' : decide (9 < (tl.length : Int)) = false := decide_eq_false (by omega)
          have HI := Lib.hid (Itoa_any (numV p) HBD.out.1 HBD.out.2 W2 hW2.pows)
          have HX := Lib.hid (show (!((word (numV p)).toList == sp.toList)) = (false || !sgOk p) by
            rw [HSP.out, word, ByteArray.toList_mk, ByteArray.toList_mk, ← HNE.out, HN.out, ← HTL.out, decide_eq_false h9, hab]
            by_cases hz : Lib.itoa (numV p) = p
            · rw [hz]; simp
            · simp [hz])
          go_wp2_with fail
          refine HT.out.mono ?_
          rintro e w1 ⟨rfl, rfl⟩
          go_wp2_with fail
          refine HI.out.mono ?_
          rintro e W3 ⟨rfl, hb3⟩
          have i3 := I2.out.carry hb3
          have f1 := i3.frozen 1
          have c1 := i3.cell (j := 1) (v := .bool false) rfl
          go_wp2
          go_ret
          exact FIN3.out W3 hb3 _ (by first | exact HX.out | (rw [h9', Bool.false_or]; exact HX.out))
      · have HX := Lib.hid (show true = (false || !sgOk p) by
          rw [← HNE.out, HN.out, hab]; simp)
        go_wp2
        go_ret
        exact FIN2.out true HX.out
  · have hc3 : ¬ cp ≤ 1 := by omega
    have hc2 : cp - 1 ≠ 0 := by omega
    obtain ⟨u, hu⟩ : ∃ u : Value, u = .slice (some ⟨b, off + 1, none⟩) ws.length (cp - 1) := ⟨_, rfl⟩
    have hut : Vals W u (ws.map strV) := by rw [hu]; exact Vals.tail HV.out (List.length_map ..)
    have hub : ∀ b2 off2 c2, u = .slice (some ⟨b2, off2, none⟩) ws.length c2 → b2 = b := fun b2 off2 c2 e => by
      rw [hu] at e
      simp only [Value.slice.injEq, Option.some.injEq, Addr.mk.injEq] at e; exact e.1.1.symm
    obtain ⟨i1, k1, u1, AT, hW1⟩ := REST.out u hut hub
    have HF := Lib.hid (FIN.out u hub)
    have HU := Lib.hid hu
    rw [← HSP.out] at AT
    have HAT := Lib.hid AT
    clear REST FIN KEY hut hub AT hu HV
    go_wp2_with fail
    all_goals rw [← HU.out]
    refine HAT.out.mono ?_
    rintro e W2 ⟨⟨ev, rfl, hev⟩, hb2⟩
    have i2 := i1.carry hb2
    have FIN2 := Lib.hid (HF.out W2 i2 (k1.trans (Keep.of_below hb2)) (u1.carry hb2))
    have FIN3 := Lib.hid (fun (W3 : World) (hb3 : Below W2.heap.size W2 W3) => HF.out W3 (i2.carry hb3) ((k1.trans (Keep.of_below hb2)).trans (Keep.of_below hb3)) ((u1.carry hb2).carry hb3))
    have I2 := Lib.hid i2
    have c1 := i2.cell (j := 1) (v := .bool wr) rfl
    have f1 := i2.frozen 1
    have hW2 := hW1.carry hb2
    clear i1 i2 k1 u1 hW1 HAT HF c0 f0 w0
    cases wr with
    | true =>
      go_wp2
      go_ret
      exact FIN2.out true (by simp)
    | false =>
      rcases hev with ⟨hab, rfl⟩ | ⟨hab, tp, q, rfl⟩
      · have HT := Lib.hid (trim_any p W2)
        have hts := mk_size (Lib.trimPrefix p [45])
        obtain ⟨tl, htl⟩ : ∃ tl, tl = Lib.trimPrefix p [45] := ⟨_, rfl⟩
        have HTL := Lib.hid htl
        rw [← htl] at HT hts
        rw [← HSP.out] at HT
        clear htl
        by_cases h9 : 9 < tl.length
        · have h9' : 9 < (tl.length : Int) := by omega
          have HX := Lib.hid (show true = (false || !sgOk p) by
            rw [← HNE.out, HN.out, ← HTL.out, decide_eq_true h9]; simp)
          go_wp2_with fail
          refine HT.out.mono ?_
          rintro e w1 ⟨rfl, rfl⟩
          go_wp2
          go_ret
          exact FIN2.out true HX.out
        · have h9' : decide (9 < (tl.length : Int)) = false := decide_eq_false (by omega)
          have HI := Lib.hid (Itoa_any (numV p) HBD.out.1 HBD.out.2 W2 hW2.pows)
          have HX := Lib.hid (show (!((word (numV p)).toList == sp.toList)) = (false || !sgOk p) by
            rw [HSP.out, word, ByteArray.toList_mk, ByteArray.toList_mk, ← HNE.out, HN.out, ← HTL.out, decide_eq_false h9, hab]
            by_cases hz : Lib.itoa (numV p) = p
            · rw [hz]; simp
            · simp [hz])
          go_wp2_with fail
          refine HT.out.mono ?_
          rintro e w1 ⟨rfl, rfl⟩
          go_wp2_with fail
          refine HI.out.mono ?_
          rintro e W3 ⟨rfl, hb3⟩
          have i3 := I2.out.carry hb3
          have f1 := i3.frozen 1
          have c1 := i3.cell (j := 1) (v := .bool false) rfl
          go_wp2
          go_ret
          exact FIN3.out W3 hb3 _ (by first | exact HX.out | (rw [h9', Bool.false_or]; exact HX.out))
      · have HX := Lib.hid (show true = (false || !sgOk p) by
          rw [← HNE.out, HN.out, hab]; simp)
        go_wp2
        go_ret
        exact FIN2.out true HX.out
end Go.Proofs.YtfdehcphmmhjaaaGreatDoor

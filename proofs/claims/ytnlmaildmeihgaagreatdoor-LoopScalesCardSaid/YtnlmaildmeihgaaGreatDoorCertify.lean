/- Certify. -/
import Derived.Test.YtnlmaildmeihgaaGreatDoorCheckBox
namespace Go.Proofs.YtnlmaildmeihgaaGreatDoor
open Go.RowKit Go.Shelf

attribute [local go_sem] Oper.semAt_some

theorem checkBoxE_ok {a b c d : List Int} {bx : List (Int × Int)} (h : checkBoxE a b c d bx = 0) : box1E a b c d bx = 0 ∧ box2E bx = 0 ∧ ∀ p ∈ membersW bx, (closedW p b c d).any largeB = false := by
  unfold checkBoxE at h
  split at h
  · exact absurd h (by assumption)
  · split at h
    · exact absurd h (by assumption)
    · split at h
      · cases h
      · rename_i h1 h2 h3
        refine ⟨by simpa using h1, by simpa using h2, fun p hp => ?_⟩
        cases hc : (closedW p b c d).any largeB with
        | false => rfl
        | true => exact absurd (List.any_eq_true.2 ⟨p, hp, hc⟩) h3

/-- the first member whose loop is not stable. -/
def certW (b c d : List Int) (bx : List (Int × Int)) : Option (List Int) := (membersW bx).find? (fun p => !stableB (closedW p b c d))
def certR (a b c d : List Int) (bx : List (Int × Int)) : Option (List Int) := if checkBoxE a b c d bx ≠ 0 then none else certW b c d bx

theorem find_prefix {α : Type} {g : α → Bool} {l pre : List α} {x : α} (h : pre ++ [x] <+: l) (hp : ∀ y ∈ pre, g y = false) (hx : g x = true) : l.find? g = some x := by
  obtain ⟨t, rfl⟩ := h
  rw [List.append_assoc, List.find?_append]
  have : pre.find? g = none := by rw [List.find?_eq_none]; intro y hy; rw [hp y hy]; simp
  rw [this]
  simp [hx]

set_option maxRecDepth 100000 in
set_option maxHeartbeats 4000000 in
theorem Certify_any (va vb vc vd vx : Value) (a b c d : List Int) (bx : List (Int × Int)) (w : World) (ha : Ints w va a) (hb : Ints w vb b) (hc : Ints w vc c) (hd : Ints w vd d) (hx : Pairs w vx bx)
    (ha2 : a.length ≤ 100000) (hb2 : b.length ≤ 100000) (hc2 : c.length ≤ 100000) (hd2 : d.length ≤ 100000) (hx2 : bx.length ≤ 100000) :
    Calls Tryz.prog 36 #[.agg #[va, vb, vc, vd], vx] w fun e w' => (∃ u, e = .returned (.tuple #[u, .bool (certR a b c d bx).isSome, .int .i64 (checkBoxE a b c d bx)]) ∧ Ints w' u ((certR a b c d bx).getD [])) ∧ Below w.heap.size w w' := by
  obtain ⟨xa, ca, rfl, _⟩ := id ha
  obtain ⟨xb, cb, rfl, _⟩ := id hb
  obtain ⟨xc, cc, rfl, _⟩ := id hc
  obtain ⟨xd, cd, rfl, _⟩ := id hd
  obtain ⟨xx, cx, rfl, _⟩ := id hx
  refine calls_of_postR Tryz.func36 rfl ?_
  simp only [Tryz.ntmps36, List.size_toArray, List.length_cons, List.length_nil, Nat.reduceAdd, Nat.reduceSub, Array.replicate_succ, Array.replicate_zero, List.push_toArray, List.append_toArray, List.nil_append, List.cons_append]
  go_wp2_with fail
  obtain ⟨w1, hw1⟩ : ∃ v, v = w.alloc (Obj.cells #[.slice xa a.length ca, .slice xb b.length cb, .slice xc c.length cc, .slice xd d.length cd] 44) := ⟨_, rfl⟩
  have hb1 : Below w.heap.size w w1 := by rw [hw1]; exact below_new _ _
  have z1 : Blk w1 w.heap.size 44 [.slice xa a.length ca, .slice xb b.length cb, .slice xc c.length cc, .slice xd d.length cd] := by rw [hw1]; exact Blk.new _ _ _
  rw [← hw1]
  clear hw1
  have q0 := z1.cell (j := 0) rfl
  have q1 := z1.cell (j := 1) rfl
  have q2 := z1.cell (j := 2) rfl
  have q3 := z1.cell (j := 3) rfl
  go_step3
  go_wp2_with fail
  clear q0 q1 q2 q3
  refine (CheckBox_any _ _ _ _ _ a b c d bx w1 (ha.carry hb1) (hb.carry hb1) (hc.carry hb1) (hd.carry hb1) (hx.carry hb1) ha2 hb2 hc2 hd2 hx2).mono ?_
  rintro e w2 ⟨rfl, hb2'⟩
  have hB2 := bthen hb1 hb2'
  have z2 := z1.carry hb2'
  clear z1 hb2' hb1
  by_cases he : checkBoxE a b c d bx = 0
  · have hce : certR a b c d bx = certW b c d bx := by rw [certR, if_neg (by rw [he]; simp)]
    obtain ⟨e1, _, _⟩ := checkBoxE_ok he
    obtain ⟨e1, e2, e3⟩ := box1E_ok e1
    replace e3 := intervalsE_ok e3
    obtain ⟨⟨a1, a5⟩, ⟨bb1, b5⟩, ⟨c1, c5⟩, ⟨d1, d5⟩⟩ := checkLoopE_len e1
    rw [he]
    have HCE := Lib.hid hce
    have HE := Lib.hid he
    have HI := Lib.hid e3
    have HL := Lib.hid e2
    clear e1 e2 e3 he hce
    have hxl : 0 < bx.length := by rw [HL.out]; omega
    go_wp2_with fail
    have hb3 := below_new w2 (.cells #[.slice none 0 0] 26)
    have y3 := Blk.new w2 26 [.slice none 0 0]
    obtain ⟨w3, hw3⟩ : ∃ v, v = w2.alloc (.cells #[.slice none 0 0] 26) := ⟨_, rfl⟩
    have y3' : Blk w3 w2.heap.size 26 [.slice none 0 0] := by rw [hw3]; exact y3
    have s3 : w3.heap.size = w2.heap.size + 1 := by rw [hw3]; simp
    rw [← hw3] at hb3 ⊢
    clear hw3 y3
    have z3 := z2.carry hb3
    have hB3 := bthen hB2 hb3
    have hs2 := hB2.size
    have hz2 := z2.lt
    go_step3
    go_wp2_with fail
    refine (members_any _ _ _ _).mono ?_
    rintro e w' ⟨rfl, rfl⟩
    have hcb := cell_new w3 #[.slice xx bx.length cx] 67 0
    have hB6 := below_new w3 (.cells #[.slice xx bx.length cx] 67)
    obtain ⟨Wr, hWr⟩ : ∃ v, v = w3.alloc (.cells #[.slice xx bx.length cx] 67) := ⟨_, rfl⟩
    have hsW : Wr.heap.size = w3.heap.size + 1 := by rw [hWr]; simp
    rw [← hWr] at hcb hB6 ⊢
    clear hWr
    rw [s3] at hcb hsW
    have z := z3.carry hB6
    have y := y3'.carry hB6
    have hV := bthen hB3 hB6
    clear z2 z3 y3' hb3 hB6 hB3
    go_wp2_with fail
    refine wp_rangeS (s := 9) (gf := 148) (lb := #[.pointer (some ⟨w2.heap.size + 1, 0, none⟩)]) rfl (enters_of Tryz.func148 (by kernel_rfl) rfl)
      (members_seq 4 (by omega) w w.heap.size (w2.heap.size + 1) (.slice xx bx.length cx) bx (fun x hx => by have := HI.out x hx; omega) (by omega) hxl hx (Nat.le_refl _) Wr Wr.heap.size rfl (by omega) (by omega) hV hcb)
      KMem.trans (fun W l o o' hl h h1 _ => KMem.turn W l o o' (by omega) (by omega) h h1) (KMem.refl _ _ _) (Below.refl _ _)
      (fun pre W => (Blk W w.heap.size 44 [.slice xa a.length ca, .slice xb b.length cb, .slice xc c.length cc, .slice xd d.length cd] ∧ Blk W w2.heap.size 26 [.slice none 0 0]) ∧ (∀ x ∈ pre, stableB (closedW x.2 b c d) = true) ∧ Below w.heap.size Wr W)
      (fun co pre W => (co = .exit 0 ∧ ∃ (pre0 : List (Value × List Int)) (x : Value × List Int), pre = pre0 ++ [x] ∧ (∀ y ∈ pre0, stableB (closedW y.2 b c d) = true) ∧ stableB (closedW x.2 b c d) = false ∧ x.2.length = bx.length ∧ Blk W w2.heap.size 26 [x.1] ∧ OwnI 3 w.heap.size W x.1 x.2) ∧ Below w.heap.size Wr W)
      (StableFrom.and (StableFrom.and (Blk.stable (by omega) _ (fun _ => [_, _, _, _])) (Blk.stable (by omega) _ (fun _ => [_]))) (StableFrom.and (StableFrom.pure _ (fun pre : List (Value × List Int) => ∀ x ∈ pre, stableB (closedW x.2 b c d) = true)) (StableFrom.below (by omega) (by omega))))
      (fun co pre A B row ⟨⟨h1, pre0, x, h2, h3, h4, h5, h6, h7⟩, h8⟩ hg hr => ⟨⟨h1, pre0, x, h2, h3, h4, h5, h6.kept hg (fun e => by have := (hr _ e.symm).1; omega), h7.kint (kint_of_grown hg (fun r e => (hr r e).2))⟩, ownFrom_below (β := Unit) (by omega) (by omega) () A B row h8 hg hr⟩)
      ⟨⟨z, y⟩, fun x hx => by simp at hx, Below.refl _ _⟩ (fun pre _ A B row hs hg hr => ⟨hs.1.kint (kint_of_grown hg (fun r e => (hr r e).2)), hs.2⟩) ?assign ?body ?done ?stop
    case assign =>
      intro l v W K hK
      gi_wp2
      exact hK
    case body =>
      rintro l pre ⟨xv, xl⟩ W ⟨⟨z, y⟩, hall, hBr⟩ ⟨hx, hxn⟩
      have hB := hV.trans hBr
      have hsr := hBr.size
      simp only [List.setIfInBounds_toArray, List.set_cons_succ, List.set_cons_zero]
      have hwf : ∀ f, (Fence.wide.inRound l).fn f := fun _ => trivial
      have q0 := z.cell (j := 0) rfl
      have q1 := z.cell (j := 1) rfl
      have q2 := z.cell (j := 2) rfl
      have q3 := z.cell (j := 3) rfl
      have hcx := Lib.hid (closedW_length xl b c d)
      simp only at hxn
      have HW := Lib.hid (with_any _ _ _ _ _ xl a b c d W hx.ints (ha.carry hB) (hb.carry hB) (hc.carry hB) (hd.carry hB))
      obtain ⟨xa', xc', hxv, _⟩ := hx.ints
      simp only at hxv
      subst hxv
      have HN := Lib.hid hxn
      have hxl1 : 1 ≤ xl.length := by omega
      have hxl2 : xl.length ≤ 100000 := by omega
      clear hxn
      gi_wp2_with fail
      refine (((callsIn_wide (n := 2)).2 HW.out).inRound l).mono ?_
      rintro e w7 ⟨rfl, hb7⟩
      gi_wp2_with fail
      refine (((callsIn_wide (n := 2)).2 (closed_any _ _ _ _ xl b c d w7 (hx.carry hb7).ints (hb.carry (bthen hB hb7)) (hc.carry (bthen hB hb7)) (hd.carry (bthen hB hb7)) hxl1 bb1 c1 d1 hxl2 (by omega) (by omega) (by omega))).inRound l).mono ?_
      rintro e w8 ⟨⟨u, rfl, hu⟩, hb8⟩
      have hb78 := bthen hb7 hb8
      have HG := Lib.hid (isStable_any u (closedW xl b c d) w8 hu (by have := hcx.out; omega))
      have y8 := y.carry hb78
      have e0 := y8.cell (j := 0) rfl
      have f0 := y8.frozen 0
      clear q0 q1 q2 q3
      by_cases hg : stableB (closedW xl b c d) = true
      · rw [hg] at HG
        gi_wp2_with fail
        refine (((callsIn_wide (n := 2)).2 HG.out).inRound l).mono ?_
        rintro e w9 ⟨rfl, hb9⟩
        have hb79 := bthen hb78 hb9
        gi_wp2
        refine ⟨(keeps_of_below hb79).from _, KMem.below hb79 hB.size (by omega), ⟨z.carry hb79, y.carry hb79⟩, ?_, hBr.trans (hb79.mono (by omega))⟩
        intro x hx
        rcases List.mem_append.1 hx with hx | hx
        · exact hall x hx
        · obtain rfl := List.mem_singleton.1 hx
          exact hg
      · have hg' : stableB (closedW xl b c d) = false := by simpa using hg
        rw [hg'] at HG
        gi_wp2_with fail
        refine (((callsIn_wide (n := 2)).2 HG.out).inRound l).mono ?_
        rintro e w9 ⟨rfl, hb9⟩
        have hb79 := bthen hb78 hb9
        have y9 := y8.carry hb9
        clear e0 f0
        have e0 := y9.cell (j := 0) rfl
        have f0 := y9.frozen 0
        gi_wp2
        have hx9 := hx.carry hb79
        have hne := (KInt.below (Below.refl w9.heap.size w9)).set (o := 0) (y9 : w9.heap[w2.heap.size]? = _) (by decide) (.slice xa' xl.length xc')
        exact ⟨((keeps_of_below hb79).trans (KeepsOthers.setCell _ _ _)).from _, ⟨rfl, pre, _, rfl, hall, hg', HN.out, y9.set 0 _, hx9.kint hne⟩, (hBr.trans (hb79.mono (by omega))).setCell (by simp; omega) _⟩
    case done =>
      rintro D ys W hD hS ⟨⟨z, y⟩, hall, hBr⟩ hK
      have hB := hV.trans hBr
      have e0 := y.cell (j := 0) rfl
      have hcert : certW b c d bx = none := by
        rw [certW, ← hS, List.find?_eq_none]
        intro p hp
        obtain ⟨x, hx, rfl⟩ := List.mem_map.1 hp
        rw [hall x hx]; simp
      have HC := Lib.hid hcert
      clear hcert hS
      go_wp2_with fail
      refine wp_region_held_drew (S := (fun w' => w'.cell? ⟨w2.heap.size, 0, none⟩ = some (.slice none 0 0))) (by kernel_rfl) ?_ (fun hHeld0 => ?_)
      · (try dsimp only); go_keep
      refine wpAnyH_take (i := 0) (oi := { dst := some 26, op := Op.load 26 (Operand.tmp 8), type := 26, pos := "loop.go:405", after := #[], guard := none }) (v := ?_) rfl (by kernel_rfl) (by kernel_rfl) (by kernel_rfl) (fun _ _ _ h => h) (Or.inl ⟨by rfl, ?_⟩) (by assumption) ?_
      rotate_left
      · (intro w hSw; (try dsimp only at hSw); go_simp); (try with_reducible rfl)
      try simp only [Act.put, List.setIfInBounds_toArray, List.set_cons_zero, List.set_cons_succ]
      refine wpAnyH_take (i := 1) (oi := { dst := some 27, op := Op.load 26 (Operand.tmp 8), type := 26, pos := "loop.go:405", after := #[{ on := 3, ground := Ground.gcOnly Departure.lateStores }], guard := none }) (v := ?_) rfl (by kernel_rfl) (by kernel_rfl) (by kernel_rfl) (fun _ _ _ h => h) (Or.inl ⟨by rfl, ?_⟩) (by assumption) ?_
      rotate_left
      · (intro w hSw; (try dsimp only at hSw); go_simp); (try with_reducible rfl)
      try simp only [Act.put, List.setIfInBounds_toArray, List.set_cons_zero, List.set_cons_succ]
      refine wpAnyH_take (i := 2) (oi := { dst := some 28, op := Op.binOp BinOp.neq 26 (Operand.tmp 27) (Operand.const (Value.slice none 0 0)) 26, type := 4, pos := "loop.go:405", after := #[{ on := 1, ground := Ground.data }, { on := 3, ground := Ground.gcOnly Departure.lateStores }], guard := none }) (v := ?_) rfl (by kernel_rfl) (by kernel_rfl) (by kernel_rfl) (fun _ _ _ h => h) (Or.inl ⟨by rfl, ?_⟩) (by assumption) ?_
      rotate_left
      · (intro w hSw; (try dsimp only at hSw); go_simp); (try with_reducible rfl)
      try simp only [Act.put, List.setIfInBounds_toArray, List.set_cons_zero, List.set_cons_succ]
      refine wpAnyH_take (i := 3) (oi := { dst := some 4, op := Op.assign (Operand.tmp 26), type := 26, pos := "loop.go:405", after := #[{ on := 0, ground := Ground.data }, { on := 0, ground := Ground.phase }, { on := 1, ground := Ground.textOnly Departure.lateStores }, { on := 2, ground := Ground.textOnly Departure.lateStores }], guard := none }) (v := ?_) rfl (by kernel_rfl) (by kernel_rfl) (by kernel_rfl) (fun _ _ _ h => h) (Or.inl ⟨by rfl, ?_⟩) (by assumption) ?_
      rotate_left
      · (intro w hSw; (try dsimp only at hSw); go_simp); (try with_reducible rfl)
      try simp only [Act.put, List.setIfInBounds_toArray, List.set_cons_zero, List.set_cons_succ]
      refine wpAnyH_take (i := 4) (oi := { dst := some 5, op := Op.assign (Operand.tmp 28), type := 4, pos := "loop.go:405", after := #[{ on := 2, ground := Ground.data }, { on := 3, ground := Ground.chain }, { on := 0, ground := Ground.phase }, { on := 1, ground := Ground.phase }, { on := 2, ground := Ground.phase }, { on := 3, ground := Ground.phase }], guard := none }) (v := ?_) rfl (by kernel_rfl) (by kernel_rfl) (by kernel_rfl) (fun _ _ _ h => h) (Or.inl ⟨by rfl, ?_⟩) (by assumption) ?_
      rotate_left
      · (intro w hSw; (try dsimp only at hSw); go_simp); (try with_reducible rfl)
      try simp only [Act.put, List.setIfInBounds_toArray, List.set_cons_zero, List.set_cons_succ]
      refine wpAnyH_take (i := 5) (oi := { dst := some 6, op := Op.assign (Operand.const (Value.int IntKind.i64 0)), type := 27, pos := "loop.go:405", after := #[{ on := 4, ground := Ground.chain }, { on := 0, ground := Ground.phase }, { on := 1, ground := Ground.phase }, { on := 2, ground := Ground.phase }, { on := 3, ground := Ground.phase }, { on := 4, ground := Ground.phase }], guard := none }) (v := ?_) rfl (by kernel_rfl) (by kernel_rfl) (by kernel_rfl) (fun _ _ _ h => h) (Or.inl ⟨by rfl, ?_⟩) (by assumption) ?_
      rotate_left
      · (intro w hSw; (try dsimp only at hSw); go_simp); (try with_reducible rfl)
      try simp only [Act.put, List.setIfInBounds_toArray, List.set_cons_zero, List.set_cons_succ]
      refine wpAnyH_done (by kernel_rfl) ?_ _
      clear hHeld0
      go_wp2
      rw [Exit.noGoto_ret]
      refine postR_mark (v := .tuple #[.slice none 0 0, .bool false, .int .i64 0]) hK rfl ?_ ⟨⟨_, by rw [HCE.out, HC.out, HE.out]; rfl, by rw [HCE.out, HC.out]; exact Ints.nil _⟩, hB.drew.trans (belowK_b (w := w) (Nat.le_refl _) _ D _ _ (by omega) hK rfl rfl)⟩
      simp [results, Tryz.f36, go_sem]
    case stop =>
      rintro D co pre W hD hSp ⟨⟨rfl, pre0, ⟨xv, xl⟩, rfl, h3, h4, h5, h6, h7⟩, hBr⟩ hK
      have hB := hV.trans hBr
      have e0 := h6.cell (j := 0) rfl
      simp only at h4 h5 h7 e0
      have hcert : certW b c d bx = some xl := by
        rw [certW]
        rw [List.map_append] at hSp
        refine find_prefix hSp (fun y hy => ?_) (by rw [h4]; rfl)
        obtain ⟨x, hx, rfl⟩ := List.mem_map.1 hy
        rw [h3 x hx]; rfl
      obtain ⟨xb', xo, xc', rfl, _⟩ := h7.ints.head (by omega)
      have HC := Lib.hid hcert
      clear hcert hSp h3 h4 h5
      go_wp2_with fail
      refine wp_region_held_drew (S := (fun w' => w'.cell? ⟨w2.heap.size, 0, none⟩ = some (.slice (some ⟨xb', xo, none⟩) xl.length xc'))) (by kernel_rfl) ?_ (fun hHeld0 => ?_)
      · (try dsimp only); go_keep
      refine wpAnyH_take (i := 0) (oi := { dst := some 26, op := Op.load 26 (Operand.tmp 8), type := 26, pos := "loop.go:405", after := #[], guard := none }) (v := ?_) rfl (by kernel_rfl) (by kernel_rfl) (by kernel_rfl) (fun _ _ _ h => h) (Or.inl ⟨by rfl, ?_⟩) (by assumption) ?_
      rotate_left
      · (intro w hSw; (try dsimp only at hSw); go_simp); (try with_reducible rfl)
      try simp only [Act.put, List.setIfInBounds_toArray, List.set_cons_zero, List.set_cons_succ]
      refine wpAnyH_take (i := 1) (oi := { dst := some 27, op := Op.load 26 (Operand.tmp 8), type := 26, pos := "loop.go:405", after := #[{ on := 3, ground := Ground.gcOnly Departure.lateStores }], guard := none }) (v := ?_) rfl (by kernel_rfl) (by kernel_rfl) (by kernel_rfl) (fun _ _ _ h => h) (Or.inl ⟨by rfl, ?_⟩) (by assumption) ?_
      rotate_left
      · (intro w hSw; (try dsimp only at hSw); go_simp); (try with_reducible rfl)
      try simp only [Act.put, List.setIfInBounds_toArray, List.set_cons_zero, List.set_cons_succ]
      refine wpAnyH_take (i := 2) (oi := { dst := some 28, op := Op.binOp BinOp.neq 26 (Operand.tmp 27) (Operand.const (Value.slice none 0 0)) 26, type := 4, pos := "loop.go:405", after := #[{ on := 1, ground := Ground.data }, { on := 3, ground := Ground.gcOnly Departure.lateStores }], guard := none }) (v := ?_) rfl (by kernel_rfl) (by kernel_rfl) (by kernel_rfl) (fun _ _ _ h => h) (Or.inl ⟨by rfl, ?_⟩) (by assumption) ?_
      rotate_left
      · (intro w hSw; (try dsimp only at hSw); go_simp); (try with_reducible rfl)
      try simp only [Act.put, List.setIfInBounds_toArray, List.set_cons_zero, List.set_cons_succ]
      refine wpAnyH_take (i := 3) (oi := { dst := some 4, op := Op.assign (Operand.tmp 26), type := 26, pos := "loop.go:405", after := #[{ on := 0, ground := Ground.data }, { on := 0, ground := Ground.phase }, { on := 1, ground := Ground.textOnly Departure.lateStores }, { on := 2, ground := Ground.textOnly Departure.lateStores }], guard := none }) (v := ?_) rfl (by kernel_rfl) (by kernel_rfl) (by kernel_rfl) (fun _ _ _ h => h) (Or.inl ⟨by rfl, ?_⟩) (by assumption) ?_
      rotate_left
      · (intro w hSw; (try dsimp only at hSw); go_simp); (try with_reducible rfl)
      try simp only [Act.put, List.setIfInBounds_toArray, List.set_cons_zero, List.set_cons_succ]
      refine wpAnyH_take (i := 4) (oi := { dst := some 5, op := Op.assign (Operand.tmp 28), type := 4, pos := "loop.go:405", after := #[{ on := 2, ground := Ground.data }, { on := 3, ground := Ground.chain }, { on := 0, ground := Ground.phase }, { on := 1, ground := Ground.phase }, { on := 2, ground := Ground.phase }, { on := 3, ground := Ground.phase }], guard := none }) (v := ?_) rfl (by kernel_rfl) (by kernel_rfl) (by kernel_rfl) (fun _ _ _ h => h) (Or.inl ⟨by rfl, ?_⟩) (by assumption) ?_
      rotate_left
      · (intro w hSw; (try dsimp only at hSw); go_simp); (try with_reducible rfl)
      try simp only [Act.put, List.setIfInBounds_toArray, List.set_cons_zero, List.set_cons_succ]
      refine wpAnyH_take (i := 5) (oi := { dst := some 6, op := Op.assign (Operand.const (Value.int IntKind.i64 0)), type := 27, pos := "loop.go:405", after := #[{ on := 4, ground := Ground.chain }, { on := 0, ground := Ground.phase }, { on := 1, ground := Ground.phase }, { on := 2, ground := Ground.phase }, { on := 3, ground := Ground.phase }, { on := 4, ground := Ground.phase }], guard := none }) (v := ?_) rfl (by kernel_rfl) (by kernel_rfl) (by kernel_rfl) (fun _ _ _ h => h) (Or.inl ⟨by rfl, ?_⟩) (by assumption) ?_
      rotate_left
      · (intro w hSw; (try dsimp only at hSw); go_simp); (try with_reducible rfl)
      try simp only [Act.put, List.setIfInBounds_toArray, List.set_cons_zero, List.set_cons_succ]
      refine wpAnyH_done (by kernel_rfl) ?_ _
      clear hHeld0
      go_wp2
      rw [Exit.noGoto_ret]
      refine postR_mark (v := .tuple #[.slice (some ⟨xb', xo, none⟩) xl.length xc', .bool true, .int .i64 0]) hK rfl ?_ ⟨⟨_, by rw [HCE.out, HC.out, HE.out]; rfl, by rw [HCE.out, HC.out]; exact (h7.kint (KInt.turn _ _ _ (.deferred none) hK rfl)).ints⟩, hB.drew.trans (belowK_b (w := w) (Nat.le_refl _) _ D _ _ (by omega) hK rfl rfl)⟩
      simp [results, Tryz.f36, go_sem]
  · go_wp2
    have hR : certR a b c d bx = none := by rw [certR, if_pos he]
    rw [Exit.noGoto_ret]
    refine postR_ret (v := .tuple #[.slice none 0 0, .bool false, .int .i64 (checkBoxE a b c d bx)]) ?_ rfl ⟨⟨_, by rw [hR]; rfl, by rw [hR]; exact Ints.nil _⟩, hB2⟩
    simp [results, Tryz.f36, go_sem]

end Go.Proofs.YtnlmaildmeihgaaGreatDoor

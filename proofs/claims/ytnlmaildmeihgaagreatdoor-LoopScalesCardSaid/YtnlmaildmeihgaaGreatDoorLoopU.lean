/- Scaled, Within. -/
import Derived.Test.YtnlmaildmeihgaaGreatDoorLoopT
namespace Go.Proofs.YtnlmaildmeihgaaGreatDoor
open Go.RowKit

def scal1E (p : List Int) (num den : Int) : Int := firstE [checkPolyE p, ratioE num den]
theorem scal1E_ok {p : List Int} {num den : Int} (h : scal1E p num den = 0) : ScaleP p num den ∧ ScaleP p den num := by
  obtain ⟨h1, h⟩ := firstE_cons_ok h
  obtain ⟨h2, _⟩ := firstE_cons_ok h
  obtain ⟨h3, h2⟩ := firstE_cons_ok h2
  obtain ⟨h4, _⟩ := firstE_cons_ok h2
  exact ⟨⟨h1, withinE_ok h3, withinE_ok h4⟩, ⟨h1, withinE_ok h4, withinE_ok h3⟩⟩
def scaledE (p : List Int) (num den : Int) : Int := if scal1E p num den ≠ 0 then scal1E p num den else if (scaledW p num den).any largeB then 4 else 0
def scaledR (p : List Int) (num den : Int) : List Int := if scaledE p num den ≠ 0 then [] else scaledW p num den

set_option maxHeartbeats 2000000 in
theorem Scaled_any (v : Value) (p : List Int) (num den : Int) (w : World) (hv : Ints w v p) (hl : p.length ≤ 100000) (h1 : -9223372036854775808 ≤ num ∧ num ≤ 9223372036854775807) (h2 : -9223372036854775808 ≤ den ∧ den ≤ 9223372036854775807) :
    Calls Tryz.prog 19 #[v, .agg #[.int .i64 num, .int .i64 den]] w (GivesPoly w (scaledR p num den) (scaledE p num den)) := by
  have H1 := Lib.hid h1
  have H2 := Lib.hid h2
  clear h1 h2
  go_enter Tryz.func19, Tryz.ntmps19
  go_wp2_with fail
  have hB := below_new w (.cells #[.int .i64 num, .int .i64 den] 24)
  have hx := Box2.new w 24 (.int .i64 num) (.int .i64 den)
  obtain ⟨W, hW⟩ : ∃ W, W = w.alloc (.cells #[.int .i64 num, .int .i64 den] 24) := ⟨_, rfl⟩
  rw [← hW] at hB hx ⊢
  clear hW
  have HX := Lib.hid hx
  obtain ⟨c0, c1, _, _⟩ := hx
  have t1 := Lib.hid (CheckPoly_any v p W.drew (by omega) (hv.below hB).drew)
  refine wp_region_held_drew (S := (fun w' => w'.cell? ⟨w.heap.size, 0, none⟩ = some (.int .i64 num) ∧ w'.cell? ⟨w.heap.size, 1, none⟩ = some (.int .i64 den))) (by kernel_rfl) ?_ (fun hHeld0 => ?_)
  · (try dsimp only); (first | go_keep | exact ⟨(HX.out.below h2 HX.out.lt).c0, (HX.out.below h2 HX.out.lt).c1⟩ | exact ⟨(HX.out.below h3 HX.out.lt).c0, (HX.out.below h3 HX.out.lt).c1⟩)
  refine wpAnyH_take (i := 0) (oi := { dst := some 7, op := Op.move (Operand.tmp 0), type := 26, pos := "loop.go:314", after := #[], guard := none }) (v := ?_) rfl (by kernel_rfl) (by kernel_rfl) (by kernel_rfl) (fun _ _ _ h => h) (Or.inl ⟨by rfl, ?_⟩) (by assumption) ?_
  rotate_left
  · (intro w hSw; (try dsimp only at hSw); go_simp); (try with_reducible rfl)
  try simp only [Act.put, List.setIfInBounds_toArray, List.set_cons_zero, List.set_cons_succ]
  refine wpAnyH_take (i := 2) (oi := { dst := some 9, op := Op.load 24 (Operand.tmp 3), type := 24, pos := "loop.go:314", after := #[], guard := none }) (v := ?_) rfl (by kernel_rfl) (by kernel_rfl) (by kernel_rfl) (fun _ _ _ h => h) (Or.inl ⟨by rfl, ?_⟩) (by assumption) ?_
  rotate_left
  · (intro w hSw; (try dsimp only at hSw); go_simp); (try with_reducible rfl)
  try simp only [Act.put, List.setIfInBounds_toArray, List.set_cons_zero, List.set_cons_succ]
  refine wpAnyH_ready (rs := [1]) (by kernel_rfl) (by simp) ?_
  refine (AllReadyH.cons (o := { dst := some 8, op := Op.call { callee := Callee.value (Operand.func 72), args := #[Operand.tmp 7], argTypes := #[26] }, type := 27, pos := "loop.go:314", after := #[{ on := 0, ground := Ground.data }], guard := none }) rfl (fun K hK => ?_) AllReadyH.nil)
  go_simp
  (first | (go_at_call 72; (with_reducible refine t1.out.mono ?_); rintro e w2 ⟨rfl, h2'⟩; have h2 := below_drew h2'; clear h2') | (go_at_call 91; (with_reducible refine (checkRatio_any num den _ H1.out H2.out).mono ?_); rintro e w3 ⟨rfl, h3'⟩; have h3 := bthen h2 h3'; clear h3') | (go_at_call 90; (with_reducible refine (first2 _ _ _ _).mono ?_); rintro e w' ⟨rfl, rfl⟩))
  (try go_wp2_with fail)
  refine hK.out _ _ ?_ (fun hHeld1 => ?_)
  · (try dsimp only); (first | go_keep | exact ⟨(HX.out.below h2 HX.out.lt).c0, (HX.out.below h2 HX.out.lt).c1⟩ | exact ⟨(HX.out.below h3 HX.out.lt).c0, (HX.out.below h3 HX.out.lt).c1⟩)
  clear hK K hHeld0
  try simp only [Act.put, List.setIfInBounds_toArray, List.set_cons_zero, List.set_cons_succ]
  refine wpAnyH_ready (rs := [3]) (by kernel_rfl) (by simp) ?_
  refine (AllReadyH.cons (o := { dst := some 10, op := Op.call { callee := Callee.value (Operand.func 91), args := #[Operand.tmp 9], argTypes := #[24] }, type := 27, pos := "loop.go:314", after := #[{ on := 2, ground := Ground.data }, { on := 1, ground := Ground.chain }], guard := none }) rfl (fun K hK => ?_) AllReadyH.nil)
  go_simp
  (first | (go_at_call 72; (with_reducible refine t1.out.mono ?_); rintro e w2 ⟨rfl, h2'⟩; have h2 := below_drew h2'; clear h2') | (go_at_call 91; (with_reducible refine (checkRatio_any num den _ H1.out H2.out).mono ?_); rintro e w3 ⟨rfl, h3'⟩; have h3 := bthen h2 h3'; clear h3') | (go_at_call 90; (with_reducible refine (first2 _ _ _ _).mono ?_); rintro e w' ⟨rfl, rfl⟩))
  (try go_wp2_with fail)
  refine hK.out _ _ ?_ (fun hHeld2 => ?_)
  · (try dsimp only); (first | go_keep | exact ⟨(HX.out.below h2 HX.out.lt).c0, (HX.out.below h2 HX.out.lt).c1⟩ | exact ⟨(HX.out.below h3 HX.out.lt).c0, (HX.out.below h3 HX.out.lt).c1⟩)
  clear hK K hHeld1
  try simp only [Act.put, List.setIfInBounds_toArray, List.set_cons_zero, List.set_cons_succ]
  refine wpAnyH_ready (rs := [4]) (by kernel_rfl) (by simp) ?_
  refine (AllReadyH.cons (o := { dst := some 11, op := Op.buildSlice 174 2 #[(0, Operand.tmp 8), (1, Operand.tmp 10)], type := 174, pos := "loop.go:314", after := #[{ on := 1, ground := Ground.data }, { on := 3, ground := Ground.data }], guard := none }) rfl (fun K hK => ?_) AllReadyH.nil)
  go_simp
  refine hK.out _ _ ?_ (fun hHeld3 => ?_)
  · (try dsimp only); (first | go_keep | exact ⟨(HX.out.below h2 HX.out.lt).c0, (HX.out.below h2 HX.out.lt).c1⟩ | exact ⟨(HX.out.below h3 HX.out.lt).c0, (HX.out.below h3 HX.out.lt).c1⟩)
  clear hK K hHeld2
  try simp only [Act.put, List.setIfInBounds_toArray, List.set_cons_zero, List.set_cons_succ]
  refine wpAnyH_ready (rs := [5]) (by kernel_rfl) (by simp) ?_
  refine (AllReadyH.cons (o := { dst := some 12, op := Op.call { callee := Callee.value (Operand.func 90), args := #[Operand.tmp 11], argTypes := #[174] }, type := 27, pos := "loop.go:314", after := #[{ on := 4, ground := Ground.data }, { on := 3, ground := Ground.chain }], guard := none }) rfl (fun K hK => ?_) AllReadyH.nil)
  go_simp
  (first | (go_at_call 72; (with_reducible refine t1.out.mono ?_); rintro e w2 ⟨rfl, h2'⟩; have h2 := below_drew h2'; clear h2') | (go_at_call 91; (with_reducible refine (checkRatio_any num den _ H1.out H2.out).mono ?_); rintro e w3 ⟨rfl, h3'⟩; have h3 := bthen h2 h3'; clear h3') | (go_at_call 90; (with_reducible refine (first2 _ _ _ _).mono ?_); rintro e w' ⟨rfl, rfl⟩))
  (try go_wp2_with fail)
  refine hK.out _ _ ?_ (fun hHeld4 => ?_)
  · (try dsimp only); (first | go_keep | exact ⟨(HX.out.below h2 HX.out.lt).c0, (HX.out.below h2 HX.out.lt).c1⟩ | exact ⟨(HX.out.below h3 HX.out.lt).c0, (HX.out.below h3 HX.out.lt).c1⟩)
  clear hK K hHeld3
  try simp only [Act.put, List.setIfInBounds_toArray, List.set_cons_zero, List.set_cons_succ]
  refine wpAnyH_take (i := 6) (oi := { dst := some 6, op := Op.assign (Operand.tmp 12), type := 27, pos := "loop.go:314", after := #[{ on := 5, ground := Ground.data }, { on := 5, ground := Ground.chain }, { on := 0, ground := Ground.phase }, { on := 1, ground := Ground.phase }, { on := 2, ground := Ground.phase }, { on := 3, ground := Ground.phase }, { on := 4, ground := Ground.phase }, { on := 5, ground := Ground.phase }], guard := none }) (v := ?_) rfl (by kernel_rfl) (by kernel_rfl) (by kernel_rfl) (fun _ _ _ h => h) (Or.inl ⟨by rfl, ?_⟩) (by assumption) ?_
  rotate_left
  · (intro w hSw; (try dsimp only at hSw); go_simp); (try with_reducible rfl)
  try simp only [Act.put, List.setIfInBounds_toArray, List.set_cons_zero, List.set_cons_succ]
  refine wpAnyH_done (by kernel_rfl) ?_ _
  clear hHeld4
  have h4 := bthen h3 (below_new w3 (.cells #[.int .i64 (checkPolyE p), .int .i64 (ratioE num den)] 27))
  have hV := bthen hB h4
  have hxV := HX.out.below h4 HX.out.lt
  generalize w3.alloc _ = V at h4 hV hxV ⊢
  have hE : firstE [checkPolyE p, ratioE num den] = scal1E p num den := rfl
  rw [hE]
  clear c0 c1 h2 h3 t1 HX hE hB h4
  by_cases he : scal1E p num den = 0
  · have hS := Lib.hid (scal1E_ok he).1
    have HR := Lib.hid (show scaledE p num den = if (scaledW p num den).any largeB then 4 else 0 by rw [scaledE, if_neg (by rw [he]; simp)])
    rw [he]
    clear he
    obtain ⟨c0, c1, _, _⟩ := hxV
    have hlen : (scaledW p num den).length ≤ 1000000 := by unfold scaledW; rw [upto_length]; omega
    go_wp2_with fail
    refine (scaled_any v p num den V (hv.below hV) hS.out).mono ?_
    rintro e w4 ⟨⟨u, rfl, hu⟩, h5⟩
    have hV4 := bthen hV h5
    clear c0 c1
    by_cases hg : (scaledW p num den).any largeB = true
    · have HE := Lib.hid (show scaledE p num den = 4 by rw [HR.out, if_pos hg])
      have HG := Lib.hid hg
      clear hg
      go_wp2_with fail
      refine (fitting_yes _ (scaledW p num den) _ (by omega) hu HG.out).mono ?_
      rintro e w' ⟨rfl, rfl⟩
      go_wp2
      go_ret2
      exact ⟨⟨_, by rw [HE.out]; rfl, by rw [scaledR, if_pos (by rw [HE.out]; simp)]; exact Ints.nil _⟩, hV4⟩
    · have HE := Lib.hid (show scaledE p num den = 0 by rw [HR.out, if_neg hg])
      have HG := Lib.hid hg
      clear hg
      go_wp2_with fail
      refine (fitting_no _ (scaledW p num den) _ (by omega) hu HG.out).mono ?_
      rintro e w' ⟨rfl, rfl⟩
      go_wp2
      go_ret2
      exact ⟨⟨_, by rw [HE.out]; rfl, by rw [scaledR, if_neg (by rw [HE.out]; simp)]; exact hu⟩, hV4⟩
  · go_wp2
    go_ret2
    have hE5 : scaledE p num den = scal1E p num den := by rw [scaledE, if_pos he]
    exact ⟨⟨_, by rw [hE5]; rfl, by rw [scaledR, if_pos (by rw [hE5]; exact he)]; exact Ints.nil _⟩, hV⟩

def within2E (p : List Int) (num den : Int) : Int := if scal1E p num den ≠ 0 then scal1E p num den else if (scaledW p den num).any largeB then 4 else 0
def within2R (p : List Int) (num den : Int) : Bool := if within2E p num den ≠ 0 then false else stableB (scaledW p den num)

set_option maxHeartbeats 2000000 in
theorem Within_any (v : Value) (p : List Int) (num den : Int) (w : World) (hv : Ints w v p) (hl : p.length ≤ 100000) (h1 : -9223372036854775808 ≤ num ∧ num ≤ 9223372036854775807) (h2 : -9223372036854775808 ≤ den ∧ den ≤ 9223372036854775807) :
    Calls Tryz.prog 21 #[v, .agg #[.int .i64 num, .int .i64 den]] w fun e w' => e = .returned (.tuple #[.bool (within2R p num den), .int .i64 (within2E p num den)]) ∧ Below w.heap.size w w' := by
  have H1 := Lib.hid h1
  have H2 := Lib.hid h2
  clear h1 h2
  go_enter Tryz.func21, Tryz.ntmps21
  go_wp2_with fail
  have hB := below_new w (.cells #[.int .i64 num, .int .i64 den] 24)
  have hx := Box2.new w 24 (.int .i64 num) (.int .i64 den)
  obtain ⟨W, hW⟩ : ∃ W, W = w.alloc (.cells #[.int .i64 num, .int .i64 den] 24) := ⟨_, rfl⟩
  rw [← hW] at hB hx ⊢
  clear hW
  have HX := Lib.hid hx
  obtain ⟨c0, c1, _, _⟩ := hx
  have t1 := Lib.hid (CheckPoly_any v p W.drew (by omega) (hv.below hB).drew)
  refine wp_region_held_drew (S := (fun w' => w'.cell? ⟨w.heap.size, 0, none⟩ = some (.int .i64 num) ∧ w'.cell? ⟨w.heap.size, 1, none⟩ = some (.int .i64 den))) (by kernel_rfl) ?_ (fun hHeld0 => ?_)
  · (try dsimp only); (first | go_keep | exact ⟨(HX.out.below h2 HX.out.lt).c0, (HX.out.below h2 HX.out.lt).c1⟩ | exact ⟨(HX.out.below h3 HX.out.lt).c0, (HX.out.below h3 HX.out.lt).c1⟩)
  refine wpAnyH_take (i := 0) (oi := { dst := some 9, op := Op.move (Operand.tmp 0), type := 26, pos := "loop.go:322", after := #[], guard := none }) (v := ?_) rfl (by kernel_rfl) (by kernel_rfl) (by kernel_rfl) (fun _ _ _ h => h) (Or.inl ⟨by rfl, ?_⟩) (by assumption) ?_
  rotate_left
  · (intro w hSw; (try dsimp only at hSw); go_simp); (try with_reducible rfl)
  try simp only [Act.put, List.setIfInBounds_toArray, List.set_cons_zero, List.set_cons_succ]
  refine wpAnyH_take (i := 2) (oi := { dst := some 11, op := Op.load 24 (Operand.tmp 3), type := 24, pos := "loop.go:322", after := #[], guard := none }) (v := ?_) rfl (by kernel_rfl) (by kernel_rfl) (by kernel_rfl) (fun _ _ _ h => h) (Or.inl ⟨by rfl, ?_⟩) (by assumption) ?_
  rotate_left
  · (intro w hSw; (try dsimp only at hSw); go_simp); (try with_reducible rfl)
  try simp only [Act.put, List.setIfInBounds_toArray, List.set_cons_zero, List.set_cons_succ]
  refine wpAnyH_ready (rs := [1]) (by kernel_rfl) (by simp) ?_
  refine (AllReadyH.cons (o := { dst := some 10, op := Op.call { callee := Callee.value (Operand.func 72), args := #[Operand.tmp 9], argTypes := #[26] }, type := 27, pos := "loop.go:322", after := #[{ on := 0, ground := Ground.data }], guard := none }) rfl (fun K hK => ?_) AllReadyH.nil)
  go_simp
  (first | (go_at_call 72; (with_reducible refine t1.out.mono ?_); rintro e w2 ⟨rfl, h2'⟩; have h2 := below_drew h2'; clear h2') | (go_at_call 91; (with_reducible refine (checkRatio_any num den _ H1.out H2.out).mono ?_); rintro e w3 ⟨rfl, h3'⟩; have h3 := bthen h2 h3'; clear h3') | (go_at_call 90; (with_reducible refine (first2 _ _ _ _).mono ?_); rintro e w' ⟨rfl, rfl⟩))
  (try go_wp2_with fail)
  refine hK.out _ _ ?_ (fun hHeld1 => ?_)
  · (try dsimp only); (first | go_keep | exact ⟨(HX.out.below h2 HX.out.lt).c0, (HX.out.below h2 HX.out.lt).c1⟩ | exact ⟨(HX.out.below h3 HX.out.lt).c0, (HX.out.below h3 HX.out.lt).c1⟩)
  clear hK K hHeld0
  try simp only [Act.put, List.setIfInBounds_toArray, List.set_cons_zero, List.set_cons_succ]
  refine wpAnyH_ready (rs := [3]) (by kernel_rfl) (by simp) ?_
  refine (AllReadyH.cons (o := { dst := some 12, op := Op.call { callee := Callee.value (Operand.func 91), args := #[Operand.tmp 11], argTypes := #[24] }, type := 27, pos := "loop.go:322", after := #[{ on := 2, ground := Ground.data }, { on := 1, ground := Ground.chain }], guard := none }) rfl (fun K hK => ?_) AllReadyH.nil)
  go_simp
  (first | (go_at_call 72; (with_reducible refine t1.out.mono ?_); rintro e w2 ⟨rfl, h2'⟩; have h2 := below_drew h2'; clear h2') | (go_at_call 91; (with_reducible refine (checkRatio_any num den _ H1.out H2.out).mono ?_); rintro e w3 ⟨rfl, h3'⟩; have h3 := bthen h2 h3'; clear h3') | (go_at_call 90; (with_reducible refine (first2 _ _ _ _).mono ?_); rintro e w' ⟨rfl, rfl⟩))
  (try go_wp2_with fail)
  refine hK.out _ _ ?_ (fun hHeld2 => ?_)
  · (try dsimp only); (first | go_keep | exact ⟨(HX.out.below h2 HX.out.lt).c0, (HX.out.below h2 HX.out.lt).c1⟩ | exact ⟨(HX.out.below h3 HX.out.lt).c0, (HX.out.below h3 HX.out.lt).c1⟩)
  clear hK K hHeld1
  try simp only [Act.put, List.setIfInBounds_toArray, List.set_cons_zero, List.set_cons_succ]
  refine wpAnyH_ready (rs := [4]) (by kernel_rfl) (by simp) ?_
  refine (AllReadyH.cons (o := { dst := some 13, op := Op.buildSlice 174 2 #[(0, Operand.tmp 10), (1, Operand.tmp 12)], type := 174, pos := "loop.go:322", after := #[{ on := 1, ground := Ground.data }, { on := 3, ground := Ground.data }], guard := none }) rfl (fun K hK => ?_) AllReadyH.nil)
  go_simp
  refine hK.out _ _ ?_ (fun hHeld3 => ?_)
  · (try dsimp only); (first | go_keep | exact ⟨(HX.out.below h2 HX.out.lt).c0, (HX.out.below h2 HX.out.lt).c1⟩ | exact ⟨(HX.out.below h3 HX.out.lt).c0, (HX.out.below h3 HX.out.lt).c1⟩)
  clear hK K hHeld2
  try simp only [Act.put, List.setIfInBounds_toArray, List.set_cons_zero, List.set_cons_succ]
  refine wpAnyH_ready (rs := [5]) (by kernel_rfl) (by simp) ?_
  refine (AllReadyH.cons (o := { dst := some 14, op := Op.call { callee := Callee.value (Operand.func 90), args := #[Operand.tmp 13], argTypes := #[174] }, type := 27, pos := "loop.go:322", after := #[{ on := 4, ground := Ground.data }, { on := 3, ground := Ground.chain }], guard := none }) rfl (fun K hK => ?_) AllReadyH.nil)
  go_simp
  (first | (go_at_call 72; (with_reducible refine t1.out.mono ?_); rintro e w2 ⟨rfl, h2'⟩; have h2 := below_drew h2'; clear h2') | (go_at_call 91; (with_reducible refine (checkRatio_any num den _ H1.out H2.out).mono ?_); rintro e w3 ⟨rfl, h3'⟩; have h3 := bthen h2 h3'; clear h3') | (go_at_call 90; (with_reducible refine (first2 _ _ _ _).mono ?_); rintro e w' ⟨rfl, rfl⟩))
  (try go_wp2_with fail)
  refine hK.out _ _ ?_ (fun hHeld4 => ?_)
  · (try dsimp only); (first | go_keep | exact ⟨(HX.out.below h2 HX.out.lt).c0, (HX.out.below h2 HX.out.lt).c1⟩ | exact ⟨(HX.out.below h3 HX.out.lt).c0, (HX.out.below h3 HX.out.lt).c1⟩)
  clear hK K hHeld3
  try simp only [Act.put, List.setIfInBounds_toArray, List.set_cons_zero, List.set_cons_succ]
  refine wpAnyH_take (i := 6) (oi := { dst := some 6, op := Op.assign (Operand.tmp 14), type := 27, pos := "loop.go:322", after := #[{ on := 5, ground := Ground.data }, { on := 5, ground := Ground.chain }, { on := 0, ground := Ground.phase }, { on := 1, ground := Ground.phase }, { on := 2, ground := Ground.phase }, { on := 3, ground := Ground.phase }, { on := 4, ground := Ground.phase }, { on := 5, ground := Ground.phase }], guard := none }) (v := ?_) rfl (by kernel_rfl) (by kernel_rfl) (by kernel_rfl) (fun _ _ _ h => h) (Or.inl ⟨by rfl, ?_⟩) (by assumption) ?_
  rotate_left
  · (intro w hSw; (try dsimp only at hSw); go_simp); (try with_reducible rfl)
  try simp only [Act.put, List.setIfInBounds_toArray, List.set_cons_zero, List.set_cons_succ]
  refine wpAnyH_done (by kernel_rfl) ?_ _
  clear hHeld4
  have h4 := bthen h3 (below_new w3 (.cells #[.int .i64 (checkPolyE p), .int .i64 (ratioE num den)] 27))
  have hV := bthen hB h4
  have hxV := HX.out.below h4 HX.out.lt
  generalize w3.alloc _ = V at h4 hV hxV ⊢
  have hE : firstE [checkPolyE p, ratioE num den] = scal1E p num den := rfl
  rw [hE]
  clear c0 c1 h2 h3 t1 HX hE hB h4
  by_cases he : scal1E p num den = 0
  · have hS := Lib.hid (scal1E_ok he).2
    have HR := Lib.hid (show within2E p num den = if (scaledW p den num).any largeB then 4 else 0 by rw [within2E, if_neg (by rw [he]; simp)])
    rw [he]
    clear he
    obtain ⟨c0, c1, _, _⟩ := hxV
    have hlen : (scaledW p den num).length ≤ 1000000 := by unfold scaledW; rw [upto_length]; omega
    go_wp2_with fail
    refine (scaled_any v p den num V (hv.below hV) hS.out).mono ?_
    rintro e w4 ⟨⟨u, rfl, hu⟩, h5⟩
    have hV4 := bthen hV h5
    clear c0 c1
    by_cases hg : (scaledW p den num).any largeB = true
    · have HE := Lib.hid (show within2E p num den = 4 by rw [HR.out, if_pos hg])
      have HG := Lib.hid hg
      clear hg
      go_wp2_with fail
      refine (fitting_yes _ (scaledW p den num) _ (by omega) hu HG.out).mono ?_
      rintro e w' ⟨rfl, rfl⟩
      go_wp2
      go_ret2
      exact ⟨by rw [within2R, if_pos (by rw [HE.out]; simp), HE.out]; rfl, hV4⟩
    · have HE := Lib.hid (show within2E p num den = 0 by rw [HR.out, if_neg hg])
      have HG := Lib.hid hg
      clear hg
      go_wp2_with fail
      refine (fitting_no _ (scaledW p den num) _ (by omega) hu HG.out).mono ?_
      rintro e w' ⟨rfl, rfl⟩
      go_wp2_with fail
      refine (isStable_any u _ w4 hu hlen).mono ?_
      rintro e w5 ⟨rfl, hb5⟩
      go_wp2
      go_ret2
      exact ⟨by rw [within2R, if_neg (by rw [HE.out]; simp), HE.out]; rfl, bthen hV4 hb5⟩
  · go_wp2
    go_ret2
    have hE5 : within2E p num den = scal1E p num den := by rw [within2E, if_pos he]
    exact ⟨by rw [within2R, if_pos (by rw [hE5]; exact he), hE5]; rfl, hV⟩

end Go.Proofs.YtnlmaildmeihgaaGreatDoor

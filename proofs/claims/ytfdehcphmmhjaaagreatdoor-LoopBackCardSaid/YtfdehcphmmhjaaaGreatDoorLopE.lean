/- Texts of loops: the reference's Parse. -/
import Derived.Test.YtfdehcphmmhjaaaGreatDoorLopK
import Derived.Test.YtfdehcphmmhjaaaGreatDoorLopC
namespace Go.Proofs.YtfdehcphmmhjaaaGreatDoor
set_option linter.unusedSimpArgs false
set_option linter.unusedVariables false
open Go.RowKit

/-- the first words of the lines lie in a block. -/
def WordsAt (W : World) (G : Nat) : Prop := ∀ k, k < 4 → W.cell? ⟨G, k, none⟩ = some (.string ⟨(fldL k).toArray⟩)
theorem WordsAt.carry {W W' : World} {G : Nat} (h : WordsAt W G) (hb : Below W.heap.size W W') : WordsAt W' G := fun k hk => cellb (h k hk) hb
theorem Words_any (w : World) : Calls Tryz.prog 51 #[] w fun e w' => e = .returned (.slice (some ⟨w.heap.size, 0, none⟩) 4 4) ∧ WordsAt w' w.heap.size ∧ Below w.heap.size w w' := by
  go_enter Tryz.func51, Tryz.ntmps51
  go_wp2
  go_ret
  refine ⟨rfl, fun k hk => ?_, below_new _ _⟩
  obtain rfl | rfl | rfl | rfl : k = 0 ∨ k = 1 ∨ k = 2 ∨ k = 3 := by omega
  all_goals exact cell_new _ _ _ _
def fourW (W : World) (h : Nat) (a b c d : Value) : World := (((W.setCell ⟨h, 0, none⟩ a).setCell ⟨h, 1, none⟩ b).setCell ⟨h, 2, none⟩ c).setCell ⟨h, 3, none⟩ d
set_option maxHeartbeats 1000000 in
theorem setFour {w W1 : World} {h : Nat} {T2 : TypeId} (a b c d : Value) (b2 : Blk W1 h T2 zeroC) (hB : Below h w W1) :
    Blk (fourW W1 h a b c d) h T2 [a, b, c, d] ∧ Below h w (fourW W1 h a b c d) ∧ (∀ {base : Nat} {v : Value} {l : List Int}, h < base → OwnI 3 base W1 v l → OwnI 3 base (fourW W1 h a b c d) v l) := by
  unfold fourW
  refine ⟨?_, ?_, fun hb ho => ?_⟩
  · have k1 := (((b2.set 0 a).set 1 b).set 2 c).set 3 d
    exact k1
  · exact (((hB.setCell (by simp) _).setCell (by simp) _).setCell (by simp) _).setCell (by simp) _
  · exact owni_setO (owni_setO (owni_setO (owni_setO ho (by omega)) (by omega)) (by omega)) (by omega)
/-- the loop that is read. -/
def LoopU (W : World) (F base : Nat) (P : Nat → List Int) : Prop := ∃ vs : List Value, vs.length = 4 ∧ Blk W F 24 vs ∧ ∀ k v, vs[k]? = some v → OwnI 3 base W v (P k)
theorem LoopU.carry {W W' : World} {F base : Nat} {P : Nat → List Int} (h : LoopU W F base P) (hb : Below W.heap.size W W') : LoopU W' F base P := by
  obtain ⟨vs, h4, hF, hv⟩ := h
  exact ⟨vs, h4, hF.carry hb, fun k v hk => (hv k v hk).carry hb⟩
theorem LoopU.set {W : World} {F base : Nat} {P Q : Nat → List Int} (h : LoopU W F base P) (k : Nat) {cv : Value} (hc : OwnI 3 base W cv (Q k)) (hF : F < base) (hPQ : ∀ j, j ≠ k → Q j = P j) : LoopU (W.setCell ⟨F, k, none⟩ cv) F base Q := by
  obtain ⟨vs, h4, hb, hv⟩ := h
  refine ⟨vs.set k cv, by simpa using h4, hb.set k cv, fun j v hj => ?_⟩
  by_cases hjk : j = k
  · subst hjk
    have hjl : j < vs.length := by
      have := (List.getElem?_eq_some_iff.1 hj).1
      simpa using this
    rw [List.getElem?_set_self hjl] at hj
    cases hj
    exact owni_setO hc hF
  · rw [List.getElem?_set_ne (fun e => hjk e.symm)] at hj
    rw [hPQ j hjk]
    exact owni_setO (hv j v hj) hF
/-- the polynomial at a place. -/
def polyP (init : List (List UInt8)) (j : Nat) : List Int := ((init[j]?).bind (fun p => lineI (fldL j) (splitC 32 p))).getD []
theorem polyP_snoc (ls : List (List UInt8)) (x : List UInt8) (j : Nat) : polyP (ls ++ [x]) j = if j = ls.length then (lineI (fldL j) (splitC 32 x)).getD [] else polyP ls j := by
  unfold polyP
  by_cases h : j = ls.length
  · subst h
    rw [if_pos rfl, List.getElem?_append_right (Nat.le_refl _)]
    simp
  · rw [if_neg h]
    rcases Nat.lt_or_gt_of_ne h with h1 | h1
    · rw [List.getElem?_append_left h1]
    · rw [List.getElem?_eq_none (by simp; omega), List.getElem?_eq_none (by omega)]
/-- a line that is wrong. -/
theorem bad_mid {L : List UInt8} {init : List (List UInt8)} {last p : List UInt8} (hl : linesL L = init.map (· ++ [10]) ++ (if last = [] then [] else [last])) {k : Nat} (hk : init[k]? = some p) (hp : 4 ≤ k ∨ lineI (fldL k) (splitC 32 p) = none)
    (hg : ∀ j q, j < k → init[j]? = some q → j < 4 ∧ lineI (fldL j) (splitC 32 q) ≠ none) : badN (linesL L) = some k := by
  have hkl := (List.getElem?_eq_some_iff.1 hk).1
  refine badN_some (l := p ++ [10]) ?_ ?_ (fun j x hj hx => ?_)
  · rw [hl, List.getElem?_append_left (by rw [List.length_map]; exact hkl), List.getElem?_map, hk]; rfl
  · rcases Nat.lt_or_ge k 4 with h4 | h4
    · rw [lineN_end h4]
      rcases hp with h | h
      · omega
      · exact h
    · exact lineN_none h4 _
  · rw [hl, List.getElem?_append_left (by rw [List.length_map]; omega), List.getElem?_map] at hx
    obtain ⟨q, hq, rfl⟩ := Option.map_eq_some_iff.1 hx
    rw [lineN_end (hg j q hj hq).1]
    exact (hg j q hj hq).2
theorem bad_last {L : List UInt8} {init : List (List UInt8)} {last : List UInt8} (hl : linesL L = init.map (· ++ [10]) ++ (if last = [] then [] else [last])) (hf : (10 : UInt8) ∉ last) (hn : last ≠ [])
    (hg : ∀ j q, init[j]? = some q → j < 4 ∧ lineI (fldL j) (splitC 32 q) ≠ none) : badN (linesL L) = some init.length := by
  rw [if_neg hn] at hl
  refine badN_some (l := last) ?_ (lineN_free hf) (fun j x hj hx => ?_)
  · rw [hl, List.getElem?_append_right (by rw [List.length_map]; exact Nat.le_refl _), List.length_map]; simp
  · rw [hl, List.getElem?_append_left (by rw [List.length_map]; exact hj), List.getElem?_map] at hx
    obtain ⟨q, hq, rfl⟩ := Option.map_eq_some_iff.1 hx
    rw [lineN_end (hg j q hq).1]
    exact (hg j q hq).2
theorem bad_none {L : List UInt8} {init : List (List UInt8)} (hl : linesL L = init.map (· ++ [10]) ++ (if ([] : List UInt8) = [] then [] else [([] : List UInt8)])) (hg : ∀ j q, init[j]? = some q → j < 4 ∧ lineI (fldL j) (splitC 32 q) ≠ none) :
    badN (linesL L) = none ∧ (linesL L).length = init.length ∧ ∀ j, polyN (linesL L) j = polyP init j := by
  rw [if_pos rfl, List.append_nil] at hl
  rw [hl]
  refine ⟨badN_none fun j x hx => ?_, by rw [List.length_map], fun j => ?_⟩
  · rw [List.getElem?_map] at hx
    obtain ⟨q, hq, rfl⟩ := Option.map_eq_some_iff.1 hx
    rw [lineN_end (hg j q hq).1]
    exact (hg j q hq).2
  · unfold polyN polyP
    rw [List.getElem?_map]
    cases hq : init[j]? with
    | none => rfl
    | some q =>
      simp only [Option.map_some, Option.bind_some]
      rw [lineN_end (hg j q hq).1]
theorem Keep.cell {S : Nat → Prop} {W W1 : World} (h : Keep S W W1) {b o : Nat} {v : Value} (hc : W.cell? ⟨b, o, none⟩ = some v) (hs : ¬ S b) : W1.cell? ⟨b, o, none⟩ = some v := by
  cases hh : W.heap[b]? with
  | none => simp [World.cell?, hh] at hc
  | some ob =>
    have h1 := h.same b ob hh (.inl hs)
    simp only [World.cell?, hh, h1] at hc ⊢
    exact hc
set_option maxRecDepth 100000 in
set_option maxHeartbeats 8000000 in
theorem ParseR_any (s : ByteArray) (w : World) (hs : s.size ≤ 100000) :
    Calls Tryz.prog 12 #[.string s] w fun e W' => ParsePost s.data.toList e W' ∧ Below w.heap.size w W' := by
  have HL := Lib.hid (data_len s)
  obtain ⟨L, hL⟩ : ∃ L, L = s.data.toList := ⟨_, rfl⟩
  have hsL : s = ⟨L.toArray⟩ := baEq (by rw [hL])
  rw [← hL] at HL ⊢
  clear hL
  subst hsL
  rw [mk_size] at hs
  have hLn : (⟨L.toArray⟩ : ByteArray).size = L.length := mk_size L
  clear HL
  go_enter Tryz.func12, Tryz.ntmps12
  by_cases hlt : 4096 < L.length
  · have hlt' : 4096 < (L.length : Int) := by omega
    go_upto_region 1 with fail
    obtain ⟨W1, hW1⟩ : ∃ v, v = World.alloc w (Obj.cells #[.slice none 0 0, .slice none 0 0, .slice none 0 0, .slice none 0 0] 24) := ⟨_, rfl⟩
    have kW1 : Below w.heap.size w W1 := by rw [hW1]; exact below_new _ _
    have iW1 : Blk W1 (w.heap.size) 24 [.slice none 0 0, .slice none 0 0, .slice none 0 0, .slice none 0 0] := by rw [hW1]; exact Blk.new _ _ _
    have sW1 : W1.heap.size = w.heap.size + 1 := by rw [hW1]; simp
    rw [← hW1]
    clear hW1
    have e20 := iW1.cell (j := 0) (v := .slice none 0 0) rfl
    have e21 := iW1.cell (j := 1) (v := .slice none 0 0) rfl
    have e22 := iW1.cell (j := 2) (v := .slice none 0 0) rfl
    have e23 := iW1.cell (j := 3) (v := .slice none 0 0) rfl
    have f20 := iW1.frozen 0
    have f21 := iW1.frozen 1
    have f22 := iW1.frozen 2
    have f23 := iW1.frozen 3
    go_wp2
    obtain ⟨h2, hB6, _⟩ := setFour (.slice none 0 0) (.slice none 0 0) (.slice none 0 0) (.slice none 0 0) iW1 kW1
    obtain ⟨Z, hZ⟩ : ∃ Z, Z = fourW W1 w.heap.size (.slice none 0 0) (.slice none 0 0) (.slice none 0 0) (.slice none 0 0) := ⟨_, rfl⟩
    rw [← hZ] at h2 hB6
    unfold fourW at hZ
    rw [← hZ]
    have g0 := h2.cell (j := 0) (v := .slice none 0 0) rfl
    have g1 := h2.cell (j := 1) (v := .slice none 0 0) rfl
    have g2 := h2.cell (j := 2) (v := .slice none 0 0) rfl
    have g3 := h2.cell (j := 3) (v := .slice none 0 0) rfl
    refine bodyPost_ret (v := .tuple #[zeroL, .int .i64 0, .int .i64 26]) (by simp [results, Tryz.f12, go_sem, g0, g1, g2, g3, zeroL]) rfl ⟨?_, hB6⟩
    unfold ParsePost
    rw [if_pos hlt]
  · have hlt' : ¬ 4096 < (L.length : Int) := by omega
    obtain ⟨init, last, hps, hfree, hlines⟩ := parts L
    have HS := Lib.hid (fun W => splitAt 10 L W (by omega) 10 rfl)
    have hml := splitC_length 10 L
    have hcl : L.count 10 ≤ L.length := List.count_le_length
    have HPL := Lib.hid (fun q (hq : q ∈ init ++ [last]) => by rw [← hps] at hq; exact splitC_len 10 L q hq)
    rw [hps] at HS
    obtain ⟨m, hm⟩ : ∃ m, m = init.length := ⟨_, rfl⟩
    have hlen : (init ++ [last]).length = m + 1 := by rw [List.length_append, hm]; rfl
    rw [hlen] at HS
    have hm5 : m ≤ 100000 := by rw [hps, hlen] at hml; omega
    have HM := Lib.hid hm
    have HLI := Lib.hid hlines
    have HFR := Lib.hid hfree
    clear hps hml hcl hlen hm hlines hfree
    go_upto_region 1 with fail
    obtain ⟨W1, hW1⟩ : ∃ v, v = World.alloc w (Obj.cells #[.slice none 0 0, .slice none 0 0, .slice none 0 0, .slice none 0 0] 24) := ⟨_, rfl⟩
    have kW1 : Below w.heap.size w W1 := by rw [hW1]; exact below_new _ _
    have iW1 : Blk W1 (w.heap.size) 24 [.slice none 0 0, .slice none 0 0, .slice none 0 0, .slice none 0 0] := by rw [hW1]; exact Blk.new _ _ _
    have sW1 : W1.heap.size = w.heap.size + 1 := by rw [hW1]; simp
    rw [← hW1]
    clear hW1
    go_upto_region 4 with fail
    obtain ⟨W2, hW2⟩ : ∃ v, v = World.alloc W1 (Obj.cells #[.slice none 0 0, .slice none 0 0, .slice none 0 0, .slice none 0 0] 24) := ⟨_, rfl⟩
    have kW2 : Below W1.heap.size W1 W2 := by rw [hW2]; exact below_new _ _
    have iW2 : Blk W2 (w.heap.size + 1) 24 [.slice none 0 0, .slice none 0 0, .slice none 0 0, .slice none 0 0] := by rw [hW2, ← sW1]; exact Blk.new _ _ _
    have sW2 : W2.heap.size = w.heap.size + 1 + 1 := by rw [hW2]; simp [sW1]
    rw [← hW2]
    clear hW2
    have b2 := iW1.carry kW2
    have b5 := iW2
    have hB2 := bthen kW1 kW2
    have s2 : W2.heap.size = w.heap.size + 2 := by omega
    clear iW1 iW2 kW1 kW2 sW1 sW2
    go_wp2_with fail
    refine (HS.out W2).mono ?_
    rintro e W3 ⟨⟨g, cap, rfl, hg, hcs⟩, hb3⟩
    have b2 := b2.carry hb3
    have b5 := b5.carry hb3
    have hB3 := bthen hB2 hb3
    have s3 := hb3.size
    have HCS := Lib.hid hcs
    have v0 : IntKind.i64.wrap ((m : Int) + 1 - 1) = (m : Int) := (IntWalk.i64_in _ (by omega)).trans (by omega)
    have v1 : IntKind.i64.wrap (m : Int) = (m : Int) := IntWalk.i64_in _ (by omega)
    have hg3 : w.heap.size + 2 ≤ g := by omega
    have hW3 : w.heap.size + 2 ≤ W3.heap.size := by omega
    have HS23 := Lib.hid (And.intro s2 s3)
    clear hcs hb3 hB2 HS s2 s3
    go_wp2_with fail
    go_loopw [8] (fun i wr => ∃ k : Nat, k ≤ m ∧ k ≤ 4 ∧ i = .int .i64 k ∧ (∀ j q, j < k → init[j]? = some q → j < 4 ∧ lineI (fldL j) (splitC 32 q) ≠ none) ∧
      LoopU wr (w.heap.size + 1) W3.heap.size (polyP (init.take k)) ∧ Keep (fun j => j = w.heap.size + 1 ∨ W3.heap.size ≤ j) W3 wr) (fun i _ => m - (intOf i).toNat)
    case atStart => exact ⟨0, by omega, by omega, rfl, fun j q hj => by omega, ⟨_, rfl, b5, fun k v hk => by
      have hz : v = .slice none 0 0 := by
        match k, hk with
        | 0, hk => simpa using hk.symm
        | 1, hk => simpa using hk.symm
        | 2, hk => simpa using hk.symm
        | 3, hk => simpa using hk.symm
      rw [hz, show polyP (init.take 0) k = [] by simp [polyP]]
      exact World.ownsRow_nil _ _ _ _⟩, Keep.refl _ _⟩
    case round =>
      clear b5
      obtain ⟨k, hk, hk4, rfl, hgood, hU, hkp⟩ := hrel
      have b2z := hkp.blk b2 (by omega)
      have hBz : Below w.heap.size w wr := hB3.trans (hkp.below (fun j hj => by omega) (by omega))
      by_cases hkm : k < m
      · have d1 : (k : Int) < (m : Int) := by omega
        have d3 : 0 ≤ (k : Int) := by omega
        obtain ⟨p, hp⟩ : ∃ p, init[k]? = some p := ⟨_, List.getElem?_eq_getElem (by rw [← HM.out]; omega)⟩
        have hget : (init ++ [last])[k]? = some p := by rw [List.getElem?_append_left (by rw [← HM.out]; omega)]; exact hp
        by_cases h4 : k < 4
        · have cw := hkp.cell (HCS.out k p hget) (by omega)
          have hpl : p.length ≤ 1000000 := by have := HPL.out p (List.mem_of_getElem? hget); omega
          have d4 : ¬ 3 < (k : Int) := by omega
          have d6 : (k : Int) < (m : Int) + 1 := by omega
          have HBD := Lib.hid (fun (h : lineI (fldL k) (splitC 32 p) = none) => bad_mid HLI.out hp (.inr h) hgood)
          have HTK := Lib.hid (show init.take (k + 1) = init.take k ++ [p] by rw [List.take_add_one, hp]; rfl)
          have HTL := Lib.hid (show (init.take k).length = k by rw [List.length_take, ← HM.out]; omega)
          have HGD := Lib.hid hgood
          have HPK := Lib.hid hp
          have RD := Lib.hid (fun W => read_any p (fldL k) W hpl)
          obtain ⟨r, hr⟩ : ∃ r, r = lineI (fldL k) (splitC 32 p) := ⟨_, rfl⟩
          rw [← hr] at RD HBD
          have HRR := Lib.hid hr
          clear hr hget hgood hp
          have hk3 := hkp.size
          have d5 : (k : Int) < 4 := by omega
          cases r with
          | none =>
            have HBAD := Lib.hid (HBD.out rfl)
            go_upto_region 11 with fail
            refine wp_region_held_drew (S := (fun W => W.cell? ⟨g, k, none⟩ = some (.string ⟨p.toArray⟩))) (by kernel_rfl) (cellb cw (Below.refl _ _).drew) (fun hHeld0 => ?_)
            obtain ⟨wzd, hwz⟩ : ∃ v, v = wr.drew := ⟨_, rfl⟩
            rw [← hwz] at hHeld0 ⊢
            have hbzd : Below wr.heap.size wr wzd := by rw [hwz]; exact (Below.refl _ _).drew
            have hlzd : Below wr.heap.size wr wzd := by rw [hwz]; exact (Below.refl _ _).drew
            clear hwz hlzd
            refine wpAnyH_take (i := 0) (oi := { dst := some 31, op := Op.move (Operand.tmp 6), type := 43, pos := "ref.go:555", after := #[], guard := none }) (v := ?_) rfl (by kernel_rfl) (by kernel_rfl) (by kernel_rfl) (fun _ _ _ h => h) (Or.inl ⟨by rfl, ?_⟩) (by assumption) ?_
            rotate_left
            · (intro w hSw; (try dsimp only at hSw); go_simp); (try with_reducible rfl)
            try simp only [Act.put, List.setIfInBounds_toArray, List.set_cons_zero, List.set_cons_succ]
            refine wpAnyH_take (i := 1) (oi := { dst := some 32, op := Op.move (Operand.tmp 8), type := 3, pos := "ref.go:555", after := #[], guard := none }) (v := ?_) rfl (by kernel_rfl) (by kernel_rfl) (by kernel_rfl) (fun _ _ _ h => h) (Or.inl ⟨by rfl, ?_⟩) (by assumption) ?_
            rotate_left
            · (intro w hSw; (try dsimp only at hSw); go_simp); (try with_reducible rfl)
            try simp only [Act.put, List.setIfInBounds_toArray, List.set_cons_zero, List.set_cons_succ]
            refine wpAnyH_take (i := 2) (oi := { dst := some 33, op := Op.indexAddr 43 (Operand.tmp 31) (Operand.tmp 32), type := 0, pos := "ref.go:555", after := #[{ on := 0, ground := Ground.data }, { on := 1, ground := Ground.data }], guard := none }) (v := ?_) rfl (by kernel_rfl) (by kernel_rfl) (by kernel_rfl) (fun _ _ _ h => h) (Or.inl ⟨by rfl, ?_⟩) (by assumption) ?_
            rotate_left
            · (intro w hSw; (try dsimp only at hSw); go_simp); (try with_reducible rfl)
            try simp only [Act.put, List.setIfInBounds_toArray, List.set_cons_zero, List.set_cons_succ]
            refine wpAnyH_take (i := 3) (oi := { dst := some 34, op := Op.load 9 (Operand.tmp 33), type := 9, pos := "ref.go:555", after := #[{ on := 2, ground := Ground.data }], guard := none }) (v := ?_) rfl (by kernel_rfl) (by kernel_rfl) (by kernel_rfl) (fun _ _ _ h => h) (Or.inl ⟨by rfl, ?_⟩) (by assumption) ?_
            rotate_left
            · (intro w hSw; (try dsimp only at hSw); go_simp); (try with_reducible rfl)
            try simp only [Act.put, List.setIfInBounds_toArray, List.set_cons_zero, List.set_cons_succ]
            refine wpAnyH_take (i := 5) (oi := { dst := some 36, op := Op.move (Operand.tmp 8), type := 3, pos := "ref.go:555", after := #[], guard := none }) (v := ?_) rfl (by kernel_rfl) (by kernel_rfl) (by kernel_rfl) (fun _ _ _ h => h) (Or.inl ⟨by rfl, ?_⟩) (by assumption) ?_
            rotate_left
            · (intro w hSw; (try dsimp only at hSw); go_simp); (try with_reducible rfl)
            try simp only [Act.put, List.setIfInBounds_toArray, List.set_cons_zero, List.set_cons_succ]
            refine wpAnyH_ready (rs := [4]) (by kernel_rfl) (by simp) ?_
            refine (AllReadyH.cons (o := { dst := some 35, op := Op.call { callee := Callee.value (Operand.func 51), args := #[], argTypes := #[] }, type := 43, pos := "ref.go:555", after := #[], guard := none }) rfl (fun K hK => ?_) AllReadyH.nil)
            go_simp
            refine (Words_any wzd).mono ?_
            rintro e wz4 ⟨rfl, hwd, hl⟩
            generalize wzd.heap.size = GW at hwd ⊢
            (try go_wp2_with fail)
            have hbz4 := bthen hbzd hl
            clear hl
            refine hK.out _ _ (cellb cw hbz4) (fun hHeld1 => ?_)
            clear hK K hHeld0
            try simp only [Act.put, List.setIfInBounds_toArray, List.set_cons_zero, List.set_cons_succ]
            refine wpAnyH_take (i := 6) (oi := { dst := some 37, op := Op.indexAddr 43 (Operand.tmp 35) (Operand.tmp 36), type := 0, pos := "ref.go:555", after := #[{ on := 4, ground := Ground.data }, { on := 5, ground := Ground.data }], guard := none }) (v := ?_) rfl (by kernel_rfl) (by kernel_rfl) (by kernel_rfl) (fun _ _ _ h => h) (Or.inl ⟨by rfl, ?_⟩) (by assumption) ?_
            rotate_left
            · (intro w hSw; (try dsimp only at hSw); go_simp); (try with_reducible rfl)
            try simp only [Act.put, List.setIfInBounds_toArray, List.set_cons_zero, List.set_cons_succ]
            refine wpAnyH_ready (rs := [7]) (by kernel_rfl) (by simp) ?_
            refine (AllReadyH.cons (o := { dst := some 38, op := Op.load 9 (Operand.tmp 37), type := 9, pos := "ref.go:555", after := #[{ on := 6, ground := Ground.data }], guard := none }) rfl (fun K hK => ?_) AllReadyH.nil)
            have c7 := hwd k h4
            go_simp
            refine hK.out _ _ (cellb cw hbz4) (fun hHeld2 => ?_)
            clear hK K hHeld1
            try simp only [Act.put, List.setIfInBounds_toArray, List.set_cons_zero, List.set_cons_succ]
            refine wpAnyH_ready (rs := [8]) (by kernel_rfl) (by simp) ?_
            refine (AllReadyH.cons (o := { dst := some 39, op := Op.call { callee := Callee.value (Operand.func 53), args := #[Operand.tmp 34, Operand.tmp 38], argTypes := #[9, 9] }, type := 114, pos := "ref.go:555", after := #[{ on := 3, ground := Ground.data }, { on := 7, ground := Ground.data }, { on := 4, ground := Ground.chain }], guard := none }) rfl (fun K hK => ?_) AllReadyH.nil)
            go_simp
            refine (RD.out wz4).mono ?_
            rintro e wz8 ⟨rfl, hl⟩
            (try go_wp2_with fail)
            have hbz8 := bthen hbz4 hl
            have hwd := hwd.carry hl
            clear hl
            refine hK.out _ _ (cellb cw hbz8) (fun hHeld3 => ?_)
            clear hK K hHeld2
            try simp only [Act.put, List.setIfInBounds_toArray, List.set_cons_zero, List.set_cons_succ]
            refine wpAnyH_take (i := 9) (oi := { dst := some 30, op := Op.move (Operand.tmp 39), type := 114, pos := "ref.go:555", after := #[{ on := 8, ground := Ground.data }], guard := none }) (v := ?_) rfl (by kernel_rfl) (by kernel_rfl) (by kernel_rfl) (fun _ _ _ h => h) (Or.inl ⟨by rfl, ?_⟩) (by assumption) ?_
            rotate_left
            · (intro w hSw; (try dsimp only at hSw); go_simp); (try with_reducible rfl)
            try simp only [Act.put, List.setIfInBounds_toArray, List.set_cons_zero, List.set_cons_succ]
            refine wpAnyH_take (i := 10) (oi := { dst := some 40, op := Op.extract (Operand.tmp 30) 0, type := 22, pos := "ref.go:555", after := #[{ on := 9, ground := Ground.data }], guard := none }) (v := ?_) rfl (by kernel_rfl) (by kernel_rfl) (by kernel_rfl) (fun _ _ _ h => h) (Or.inl ⟨by rfl, ?_⟩) (by assumption) ?_
            rotate_left
            · (intro w hSw; (try dsimp only at hSw); go_simp); (try with_reducible rfl)
            try simp only [Act.put, List.setIfInBounds_toArray, List.set_cons_zero, List.set_cons_succ]
            refine wpAnyH_take (i := 11) (oi := { dst := some 41, op := Op.extract (Operand.tmp 30) 1, type := 4, pos := "ref.go:555", after := #[{ on := 9, ground := Ground.data }, { on := 12, ground := Ground.gcOnly Departure.lateStores }], guard := none }) (v := ?_) rfl (by kernel_rfl) (by kernel_rfl) (by kernel_rfl) (fun _ _ _ h => h) (Or.inl ⟨by rfl, ?_⟩) (by assumption) ?_
            rotate_left
            · (intro w hSw; (try dsimp only at hSw); go_simp); (try with_reducible rfl)
            try simp only [Act.put, List.setIfInBounds_toArray, List.set_cons_zero, List.set_cons_succ]
            refine wpAnyH_take (i := 12) (oi := { dst := some 9, op := Op.assign (Operand.tmp 40), type := 22, pos := "ref.go:555", after := #[{ on := 10, ground := Ground.data }, { on := 8, ground := Ground.chain }, { on := 0, ground := Ground.phase }, { on := 1, ground := Ground.phase }, { on := 2, ground := Ground.phase }, { on := 3, ground := Ground.phase }, { on := 4, ground := Ground.phase }, { on := 5, ground := Ground.phase }, { on := 6, ground := Ground.phase }, { on := 7, ground := Ground.phase }, { on := 8, ground := Ground.phase }, { on := 9, ground := Ground.phase }, { on := 10, ground := Ground.phase }, { on := 11, ground := Ground.textOnly Departure.lateStores }], guard := none }) (v := ?_) rfl (by kernel_rfl) (by kernel_rfl) (by kernel_rfl) (fun _ _ _ h => h) (Or.inl ⟨by rfl, ?_⟩) (by assumption) ?_
            rotate_left
            · (intro w hSw; (try dsimp only at hSw); go_simp); (try with_reducible rfl)
            try simp only [Act.put, List.setIfInBounds_toArray, List.set_cons_zero, List.set_cons_succ]
            refine wpAnyH_take (i := 13) (oi := { dst := some 10, op := Op.assign (Operand.tmp 41), type := 4, pos := "ref.go:555", after := #[{ on := 11, ground := Ground.data }, { on := 12, ground := Ground.chain }, { on := 0, ground := Ground.phase }, { on := 1, ground := Ground.phase }, { on := 2, ground := Ground.phase }, { on := 3, ground := Ground.phase }, { on := 4, ground := Ground.phase }, { on := 5, ground := Ground.phase }, { on := 6, ground := Ground.phase }, { on := 7, ground := Ground.phase }, { on := 8, ground := Ground.phase }, { on := 9, ground := Ground.phase }, { on := 10, ground := Ground.phase }, { on := 11, ground := Ground.phase }, { on := 12, ground := Ground.phase }], guard := none }) (v := ?_) rfl (by kernel_rfl) (by kernel_rfl) (by kernel_rfl) (fun _ _ _ h => h) (Or.inl ⟨by rfl, ?_⟩) (by assumption) ?_
            rotate_left
            · (intro w hSw; (try dsimp only at hSw); go_simp); (try with_reducible rfl)
            try simp only [Act.put, List.setIfInBounds_toArray, List.set_cons_zero, List.set_cons_succ]
            refine wpAnyH_done (by kernel_rfl) ?_ _
            clear hHeld3
            have hz := hbz8
            obtain ⟨W5, hW5⟩ : ∃ v, v = wz8 := ⟨_, rfl⟩
            rw [← hW5] at hz ⊢
            clear hW5
            have b2y := b2z.carry hz
            have hBy := bthen hBz hz
            have e20 := b2y.cell (j := 0) (v := .slice none 0 0) rfl
            have e21 := b2y.cell (j := 1) (v := .slice none 0 0) rfl
            have e22 := b2y.cell (j := 2) (v := .slice none 0 0) rfl
            have e23 := b2y.cell (j := 3) (v := .slice none 0 0) rfl
            have f20 := b2y.frozen 0
            have f21 := b2y.frozen 1
            have f22 := b2y.frozen 2
            have f23 := b2y.frozen 3
            go_wp2
            obtain ⟨h2, hB6, hO6⟩ := setFour (.slice none 0 0) (.slice none 0 0) (.slice none 0 0) (.slice none 0 0) b2y hBy
            obtain ⟨Z, hZ⟩ : ∃ Z, Z = fourW W5 w.heap.size (.slice none 0 0) (.slice none 0 0) (.slice none 0 0) (.slice none 0 0) := ⟨_, rfl⟩
            rw [← hZ] at h2 hB6 hO6
            unfold fourW at hZ
            rw [← hZ]
            have g0 := h2.cell (j := 0) (v := (.slice none 0 0)) rfl
            have g1 := h2.cell (j := 1) (v := (.slice none 0 0)) rfl
            have g2 := h2.cell (j := 2) (v := (.slice none 0 0)) rfl
            have g3 := h2.cell (j := 3) (v := (.slice none 0 0)) rfl
            refine bodyPost_ret (v := .tuple #[zeroL, .int .i64 (k : Int), .int .i64 25]) (by simp [results, Tryz.f12, go_sem, g0, g1, g2, g3, zeroL]) rfl ⟨?_, hB6⟩
            unfold ParsePost
            rw [if_neg hlt, HBAD.out]
          | some l =>
            obtain ⟨vs, hv4, b5, hvs⟩ := hU
            have HVS := Lib.hid hvs
            have HB5 := Lib.hid b5
            clear hvs b5
            go_upto_region 11 with fail
            refine wp_region_held_drew (S := (fun W => W.cell? ⟨g, k, none⟩ = some (.string ⟨p.toArray⟩))) (by kernel_rfl) (cellb cw (Below.refl _ _).drew) (fun hHeld0 => ?_)
            obtain ⟨wzd, hwz⟩ : ∃ v, v = wr.drew := ⟨_, rfl⟩
            rw [← hwz] at hHeld0 ⊢
            have hbzd : Below wr.heap.size wr wzd := by rw [hwz]; exact (Below.refl _ _).drew
            have hlzd : Below wr.heap.size wr wzd := by rw [hwz]; exact (Below.refl _ _).drew
            clear hwz hlzd
            refine wpAnyH_take (i := 0) (oi := { dst := some 31, op := Op.move (Operand.tmp 6), type := 43, pos := "ref.go:555", after := #[], guard := none }) (v := ?_) rfl (by kernel_rfl) (by kernel_rfl) (by kernel_rfl) (fun _ _ _ h => h) (Or.inl ⟨by rfl, ?_⟩) (by assumption) ?_
            rotate_left
            · (intro w hSw; (try dsimp only at hSw); go_simp); (try with_reducible rfl)
            try simp only [Act.put, List.setIfInBounds_toArray, List.set_cons_zero, List.set_cons_succ]
            refine wpAnyH_take (i := 1) (oi := { dst := some 32, op := Op.move (Operand.tmp 8), type := 3, pos := "ref.go:555", after := #[], guard := none }) (v := ?_) rfl (by kernel_rfl) (by kernel_rfl) (by kernel_rfl) (fun _ _ _ h => h) (Or.inl ⟨by rfl, ?_⟩) (by assumption) ?_
            rotate_left
            · (intro w hSw; (try dsimp only at hSw); go_simp); (try with_reducible rfl)
            try simp only [Act.put, List.setIfInBounds_toArray, List.set_cons_zero, List.set_cons_succ]
            refine wpAnyH_take (i := 2) (oi := { dst := some 33, op := Op.indexAddr 43 (Operand.tmp 31) (Operand.tmp 32), type := 0, pos := "ref.go:555", after := #[{ on := 0, ground := Ground.data }, { on := 1, ground := Ground.data }], guard := none }) (v := ?_) rfl (by kernel_rfl) (by kernel_rfl) (by kernel_rfl) (fun _ _ _ h => h) (Or.inl ⟨by rfl, ?_⟩) (by assumption) ?_
            rotate_left
            · (intro w hSw; (try dsimp only at hSw); go_simp); (try with_reducible rfl)
            try simp only [Act.put, List.setIfInBounds_toArray, List.set_cons_zero, List.set_cons_succ]
            refine wpAnyH_take (i := 3) (oi := { dst := some 34, op := Op.load 9 (Operand.tmp 33), type := 9, pos := "ref.go:555", after := #[{ on := 2, ground := Ground.data }], guard := none }) (v := ?_) rfl (by kernel_rfl) (by kernel_rfl) (by kernel_rfl) (fun _ _ _ h => h) (Or.inl ⟨by rfl, ?_⟩) (by assumption) ?_
            rotate_left
            · (intro w hSw; (try dsimp only at hSw); go_simp); (try with_reducible rfl)
            try simp only [Act.put, List.setIfInBounds_toArray, List.set_cons_zero, List.set_cons_succ]
            refine wpAnyH_take (i := 5) (oi := { dst := some 36, op := Op.move (Operand.tmp 8), type := 3, pos := "ref.go:555", after := #[], guard := none }) (v := ?_) rfl (by kernel_rfl) (by kernel_rfl) (by kernel_rfl) (fun _ _ _ h => h) (Or.inl ⟨by rfl, ?_⟩) (by assumption) ?_
            rotate_left
            · (intro w hSw; (try dsimp only at hSw); go_simp); (try with_reducible rfl)
            try simp only [Act.put, List.setIfInBounds_toArray, List.set_cons_zero, List.set_cons_succ]
            refine wpAnyH_ready (rs := [4]) (by kernel_rfl) (by simp) ?_
            refine (AllReadyH.cons (o := { dst := some 35, op := Op.call { callee := Callee.value (Operand.func 51), args := #[], argTypes := #[] }, type := 43, pos := "ref.go:555", after := #[], guard := none }) rfl (fun K hK => ?_) AllReadyH.nil)
            go_simp
            refine (Words_any wzd).mono ?_
            rintro e wz4 ⟨rfl, hwd, hl⟩
            generalize wzd.heap.size = GW at hwd ⊢
            (try go_wp2_with fail)
            have hbz4 := bthen hbzd hl
            clear hl
            refine hK.out _ _ (cellb cw hbz4) (fun hHeld1 => ?_)
            clear hK K hHeld0
            try simp only [Act.put, List.setIfInBounds_toArray, List.set_cons_zero, List.set_cons_succ]
            refine wpAnyH_take (i := 6) (oi := { dst := some 37, op := Op.indexAddr 43 (Operand.tmp 35) (Operand.tmp 36), type := 0, pos := "ref.go:555", after := #[{ on := 4, ground := Ground.data }, { on := 5, ground := Ground.data }], guard := none }) (v := ?_) rfl (by kernel_rfl) (by kernel_rfl) (by kernel_rfl) (fun _ _ _ h => h) (Or.inl ⟨by rfl, ?_⟩) (by assumption) ?_
            rotate_left
            · (intro w hSw; (try dsimp only at hSw); go_simp); (try with_reducible rfl)
            try simp only [Act.put, List.setIfInBounds_toArray, List.set_cons_zero, List.set_cons_succ]
            refine wpAnyH_ready (rs := [7]) (by kernel_rfl) (by simp) ?_
            refine (AllReadyH.cons (o := { dst := some 38, op := Op.load 9 (Operand.tmp 37), type := 9, pos := "ref.go:555", after := #[{ on := 6, ground := Ground.data }], guard := none }) rfl (fun K hK => ?_) AllReadyH.nil)
            have c7 := hwd k h4
            go_simp
            refine hK.out _ _ (cellb cw hbz4) (fun hHeld2 => ?_)
            clear hK K hHeld1
            try simp only [Act.put, List.setIfInBounds_toArray, List.set_cons_zero, List.set_cons_succ]
            refine wpAnyH_ready (rs := [8]) (by kernel_rfl) (by simp) ?_
            refine (AllReadyH.cons (o := { dst := some 39, op := Op.call { callee := Callee.value (Operand.func 53), args := #[Operand.tmp 34, Operand.tmp 38], argTypes := #[9, 9] }, type := 114, pos := "ref.go:555", after := #[{ on := 3, ground := Ground.data }, { on := 7, ground := Ground.data }, { on := 4, ground := Ground.chain }], guard := none }) rfl (fun K hK => ?_) AllReadyH.nil)
            go_simp
            refine (RD.out wz4).mono ?_
            rintro e wz8 ⟨⟨u, rfl, hu⟩, hl⟩
            obtain ⟨ua, uc, rfl⟩ := ownsRow_sl hu
            replace hu := OwnI.base hu (show W3.heap.size ≤ _ from Nat.le_trans hk3 (Below.size hbz4))
            (try go_wp2_with fail)
            have hbz8 := bthen hbz4 hl
            have hwd := hwd.carry hl
            clear hl
            refine hK.out _ _ (cellb cw hbz8) (fun hHeld3 => ?_)
            clear hK K hHeld2
            try simp only [Act.put, List.setIfInBounds_toArray, List.set_cons_zero, List.set_cons_succ]
            refine wpAnyH_take (i := 9) (oi := { dst := some 30, op := Op.move (Operand.tmp 39), type := 114, pos := "ref.go:555", after := #[{ on := 8, ground := Ground.data }], guard := none }) (v := ?_) rfl (by kernel_rfl) (by kernel_rfl) (by kernel_rfl) (fun _ _ _ h => h) (Or.inl ⟨by rfl, ?_⟩) (by assumption) ?_
            rotate_left
            · (intro w hSw; (try dsimp only at hSw); go_simp); (try with_reducible rfl)
            try simp only [Act.put, List.setIfInBounds_toArray, List.set_cons_zero, List.set_cons_succ]
            refine wpAnyH_take (i := 10) (oi := { dst := some 40, op := Op.extract (Operand.tmp 30) 0, type := 22, pos := "ref.go:555", after := #[{ on := 9, ground := Ground.data }], guard := none }) (v := ?_) rfl (by kernel_rfl) (by kernel_rfl) (by kernel_rfl) (fun _ _ _ h => h) (Or.inl ⟨by rfl, ?_⟩) (by assumption) ?_
            rotate_left
            · (intro w hSw; (try dsimp only at hSw); go_simp); (try with_reducible rfl)
            try simp only [Act.put, List.setIfInBounds_toArray, List.set_cons_zero, List.set_cons_succ]
            refine wpAnyH_take (i := 11) (oi := { dst := some 41, op := Op.extract (Operand.tmp 30) 1, type := 4, pos := "ref.go:555", after := #[{ on := 9, ground := Ground.data }, { on := 12, ground := Ground.gcOnly Departure.lateStores }], guard := none }) (v := ?_) rfl (by kernel_rfl) (by kernel_rfl) (by kernel_rfl) (fun _ _ _ h => h) (Or.inl ⟨by rfl, ?_⟩) (by assumption) ?_
            rotate_left
            · (intro w hSw; (try dsimp only at hSw); go_simp); (try with_reducible rfl)
            try simp only [Act.put, List.setIfInBounds_toArray, List.set_cons_zero, List.set_cons_succ]
            refine wpAnyH_take (i := 12) (oi := { dst := some 9, op := Op.assign (Operand.tmp 40), type := 22, pos := "ref.go:555", after := #[{ on := 10, ground := Ground.data }, { on := 8, ground := Ground.chain }, { on := 0, ground := Ground.phase }, { on := 1, ground := Ground.phase }, { on := 2, ground := Ground.phase }, { on := 3, ground := Ground.phase }, { on := 4, ground := Ground.phase }, { on := 5, ground := Ground.phase }, { on := 6, ground := Ground.phase }, { on := 7, ground := Ground.phase }, { on := 8, ground := Ground.phase }, { on := 9, ground := Ground.phase }, { on := 10, ground := Ground.phase }, { on := 11, ground := Ground.textOnly Departure.lateStores }], guard := none }) (v := ?_) rfl (by kernel_rfl) (by kernel_rfl) (by kernel_rfl) (fun _ _ _ h => h) (Or.inl ⟨by rfl, ?_⟩) (by assumption) ?_
            rotate_left
            · (intro w hSw; (try dsimp only at hSw); go_simp); (try with_reducible rfl)
            try simp only [Act.put, List.setIfInBounds_toArray, List.set_cons_zero, List.set_cons_succ]
            refine wpAnyH_take (i := 13) (oi := { dst := some 10, op := Op.assign (Operand.tmp 41), type := 4, pos := "ref.go:555", after := #[{ on := 11, ground := Ground.data }, { on := 12, ground := Ground.chain }, { on := 0, ground := Ground.phase }, { on := 1, ground := Ground.phase }, { on := 2, ground := Ground.phase }, { on := 3, ground := Ground.phase }, { on := 4, ground := Ground.phase }, { on := 5, ground := Ground.phase }, { on := 6, ground := Ground.phase }, { on := 7, ground := Ground.phase }, { on := 8, ground := Ground.phase }, { on := 9, ground := Ground.phase }, { on := 10, ground := Ground.phase }, { on := 11, ground := Ground.phase }, { on := 12, ground := Ground.phase }], guard := none }) (v := ?_) rfl (by kernel_rfl) (by kernel_rfl) (by kernel_rfl) (fun _ _ _ h => h) (Or.inl ⟨by rfl, ?_⟩) (by assumption) ?_
            rotate_left
            · (intro w hSw; (try dsimp only at hSw); go_simp); (try with_reducible rfl)
            try simp only [Act.put, List.setIfInBounds_toArray, List.set_cons_zero, List.set_cons_succ]
            refine wpAnyH_done (by kernel_rfl) ?_ _
            clear hHeld3
            have hz := hbz8
            obtain ⟨W5, hW5⟩ : ∃ v, v = wz8 := ⟨_, rfl⟩
            rw [← hW5] at hz hu ⊢
            clear hW5
            obtain ⟨v9, hv9⟩ : ∃ v, vs[k]? = some v := ⟨_, List.getElem?_eq_getElem (by omega)⟩
            have b5 := HB5.out.carry hz
            have c5 : W5.cell? ⟨w.heap.size + 1, k, none⟩ = some v9 := b5.cell hv9
            have f5 : W5.frozen? ⟨w.heap.size + 1, k, none⟩ = false := b5.frozen k
            have hU5 : LoopU W5 (w.heap.size + 1) W3.heap.size (polyP (init.take k)) := ⟨vs, hv4, b5, fun j v hj => (HVS.out j v hj).carry hz⟩
            have hkp5 := hkp.trans (Keep.of_below hz)
            have hpk1 : polyP (init.take (k + 1)) k = l := by
              rw [HTK.out, polyP_snoc, if_pos HTL.out.symm, ← HRR.out]; rfl
            have hpk2 : ∀ j, j ≠ k → polyP (init.take (k + 1)) j = polyP (init.take k) j := fun j hj => by
              rw [HTK.out, polyP_snoc, if_neg (by rw [HTL.out]; exact hj)]
            rw [← hpk1] at hu
            have hUn := LoopU.set (Q := polyP (init.take (k + 1))) hU5 k hu (by omega) hpk2
            rw [hpk1] at hUn
            have hkn := hkp5.setCell b5 (o := k) (.inl rfl) (.slice ua l.length uc)
            have hgn : ∀ j q, j < k + 1 → init[j]? = some q → j < 4 ∧ lineI (fldL j) (splitC 32 q) ≠ none := fun j q hj hq => by
              by_cases hjk : j < k
              · exact HGD.out j q hjk hq
              · obtain rfl : j = k := by omega
                rw [HPK.out] at hq
                cases hq
                exact ⟨h4, by rw [← HRR.out]; simp⟩
            have HUN := Lib.hid hUn
            have HKN := Lib.hid hkn
            have HGN := Lib.hid hgn
            clear hUn hkn hgn hpk1 hpk2 hU5 hkp5 b5 hv9 hu HB5 HVS HGD HRR HTK HTL HPK RD HBD
            have hk45 : k + 1 ≤ 4 := by omega
            have hkm1 : k + 1 ≤ m := by omega
            obtain rfl | rfl | rfl | rfl : k = 0 ∨ k = 1 ∨ k = 2 ∨ k = 3 := by omega
            · go_wp2
              go_roundw
              case rel => exact ⟨1, hkm1, hk45, by go_num, HGN.out, HUN.out, HKN.out⟩
              case measure => simp [intOf]; omega
            · go_wp2
              go_roundw
              case rel => exact ⟨2, hkm1, hk45, by go_num, HGN.out, HUN.out, HKN.out⟩
              case measure => simp [intOf]; omega
            · go_wp2
              go_roundw
              case rel => exact ⟨3, hkm1, hk45, by go_num, HGN.out, HUN.out, HKN.out⟩
              case measure => simp [intOf]; omega
            · go_wp2
              go_roundw
              case rel => exact ⟨4, hkm1, hk45, by go_num, HGN.out, HUN.out, HKN.out⟩
              case measure => simp [intOf]; omega
        · obtain rfl : k = 4 := by omega
          have HBAD := Lib.hid (bad_mid HLI.out hp (.inl (Nat.le_refl 4)) hgood)
          have e20 := b2z.cell (j := 0) (v := .slice none 0 0) rfl
          have e21 := b2z.cell (j := 1) (v := .slice none 0 0) rfl
          have e22 := b2z.cell (j := 2) (v := .slice none 0 0) rfl
          have e23 := b2z.cell (j := 3) (v := .slice none 0 0) rfl
          have f20 := b2z.frozen 0
          have f21 := b2z.frozen 1
          have f22 := b2z.frozen 2
          have f23 := b2z.frozen 3
          clear hU hgood hget hp
          go_wp2
          obtain ⟨h2, hB6, hO6⟩ := setFour (.slice none 0 0) (.slice none 0 0) (.slice none 0 0) (.slice none 0 0) b2z hBz
          obtain ⟨Z, hZ⟩ : ∃ Z, Z = fourW wr w.heap.size (.slice none 0 0) (.slice none 0 0) (.slice none 0 0) (.slice none 0 0) := ⟨_, rfl⟩
          rw [← hZ] at h2 hB6 hO6
          unfold fourW at hZ
          rw [← hZ]
          have g0 := h2.cell (j := 0) (v := (.slice none 0 0)) rfl
          have g1 := h2.cell (j := 1) (v := (.slice none 0 0)) rfl
          have g2 := h2.cell (j := 2) (v := (.slice none 0 0)) rfl
          have g3 := h2.cell (j := 3) (v := (.slice none 0 0)) rfl
          refine bodyPost_ret (v := .tuple #[zeroL, .int .i64 4, .int .i64 25]) (by simp [results, Tryz.f12, go_sem, g0, g1, g2, g3, zeroL]) rfl ⟨?_, hB6⟩
          unfold ParsePost
          rw [if_neg hlt, HBAD.out]
          rfl
      · obtain rfl : k = m := by omega
        have d1 : ¬ (k : Int) < (k : Int) := by omega
        have hgall : ∀ j q, init[j]? = some q → j < 4 ∧ lineI (fldL j) (splitC 32 q) ≠ none := fun j q hq => hgood j q (by rw [HM.out]; exact (List.getElem?_eq_some_iff.1 hq).1) hq
        have hget : (init ++ [last])[k]? = some last := by rw [HM.out]; simp
        have cw := hkp.cell (HCS.out k last hget) (by omega)
        have d6 : (k : Int) < (k : Int) + 1 := by omega
        have d3 : 0 ≤ (k : Int) := by omega
        have htk : init.take k = init := by rw [HM.out]; exact List.take_length
        rw [htk] at hU
        obtain ⟨vs, hv4, b5, hvs⟩ := hU
        obtain ⟨v0', v1', v2', v3', rfl⟩ : ∃ v0 v1 v2 v3, vs = [v0, v1, v2, v3] := by
          match vs, hv4 with
          | [a, b, c, d], _ => exact ⟨a, b, c, d, rfl⟩
        have o0 := hvs 0 v0' rfl
        have o1 := hvs 1 v1' rfl
        have o2 := hvs 2 v2' rfl
        have o3 := hvs 3 v3' rfl
        clear hvs hv4 hgood htk hget
        by_cases hle : last = []
        · subst hle
          obtain ⟨hb1, hb2, hb3⟩ := bad_none HLI.out hgall
          have hq : ∀ j, (polyP init j).length ≤ 100000 := fun j => by
            unfold polyP
            cases hx : init[j]? with
            | none => simp
            | some x =>
              have h1 := HPL.out x (List.mem_append_left _ (List.mem_of_getElem? hx))
              have h3 := splitC_length 32 x
              have h4 : x.count 32 ≤ x.length := List.count_le_length
              simp only [Option.bind_some]
              unfold lineI
              cases hs : splitC 32 x with
              | nil => simp
              | cons q r =>
                rw [hs, List.length_cons] at h3
                simp only
                split
                · simp; omega
                · simp
          have HB1 := Lib.hid hb1
          have HB2 := Lib.hid hb2
          have HB3 := Lib.hid hb3
          have HKM := Lib.hid HM.out
          clear hgall hb1 hb2 hb3
          by_cases h4 : k < 4
          · have d4 : (k : Int) < 4 := by omega
            have e20 := b2z.cell (j := 0) (v := .slice none 0 0) rfl
            have e21 := b2z.cell (j := 1) (v := .slice none 0 0) rfl
            have e22 := b2z.cell (j := 2) (v := .slice none 0 0) rfl
            have e23 := b2z.cell (j := 3) (v := .slice none 0 0) rfl
            have f20 := b2z.frozen 0
            have f21 := b2z.frozen 1
            have f22 := b2z.frozen 2
            have f23 := b2z.frozen 3
            go_wp2
            obtain ⟨h2, hB6, hO6⟩ := setFour (.slice none 0 0) (.slice none 0 0) (.slice none 0 0) (.slice none 0 0) b2z hBz
            obtain ⟨Z, hZ⟩ : ∃ Z, Z = fourW wr w.heap.size (.slice none 0 0) (.slice none 0 0) (.slice none 0 0) (.slice none 0 0) := ⟨_, rfl⟩
            rw [← hZ] at h2 hB6 hO6
            unfold fourW at hZ
            rw [← hZ]
            have g0 := h2.cell (j := 0) (v := (.slice none 0 0)) rfl
            have g1 := h2.cell (j := 1) (v := (.slice none 0 0)) rfl
            have g2 := h2.cell (j := 2) (v := (.slice none 0 0)) rfl
            have g3 := h2.cell (j := 3) (v := (.slice none 0 0)) rfl
            refine bodyPost_ret (v := .tuple #[zeroL, .int .i64 (k : Int), .int .i64 2]) (by simp [results, Tryz.f12, go_sem, g0, g1, g2, g3, zeroL]) rfl ⟨?_, hB6⟩
            unfold ParsePost
            rw [if_neg hlt, HB1.out]
            simp only
            rw [HB2.out, ← HM.out, if_pos h4]
          · obtain rfl : k = 4 := by omega
            have q0 := hq 0
            have q1 := hq 1
            have q2 := hq 2
            have q3 := hq 3
            obtain ⟨p0, hp0⟩ : ∃ l, l = polyP init 0 := ⟨_, rfl⟩
            rw [← hp0] at o0 q0
            obtain ⟨p1, hp1⟩ : ∃ l, l = polyP init 1 := ⟨_, rfl⟩
            rw [← hp1] at o1 q1
            obtain ⟨p2, hp2⟩ : ∃ l, l = polyP init 2 := ⟨_, rfl⟩
            rw [← hp2] at o2 q2
            obtain ⟨p3, hp3⟩ : ∃ l, l = polyP init 3 := ⟨_, rfl⟩
            rw [← hp3] at o3 q3
            have HP := Lib.hid (And.intro hp0 (And.intro hp1 (And.intro hp2 hp3)))
            clear hp0 hp1 hp2 hp3 hq
            obtain ⟨a0, k0, rfl⟩ := ownsRow_sl o0
            obtain ⟨a1, k1, rfl⟩ := ownsRow_sl o1
            obtain ⟨a2, k2, rfl⟩ := ownsRow_sl o2
            obtain ⟨a3, k3, rfl⟩ := ownsRow_sl o3
            have c50 := b5.cell (j := 0) (v := .slice a0 p0.length k0) rfl
            have c51 := b5.cell (j := 1) (v := .slice a1 p1.length k1) rfl
            have c52 := b5.cell (j := 2) (v := .slice a2 p2.length k2) rfl
            have c53 := b5.cell (j := 3) (v := .slice a3 p3.length k3) rfl
            have CL := Lib.hid (CheckLoopR_any _ _ _ _ p0 p1 p2 p3 wr o0.ints o1.ints o2.ints o3.ints q0 q1 q2 q3)
            obtain ⟨ce, hce⟩ : ∃ e, e = checkLoopE p0 p1 p2 p3 := ⟨_, rfl⟩
            rw [← hce] at CL
            have HCE := Lib.hid hce
            have HO := Lib.hid (And.intro o0 (And.intro o1 (And.intro o2 o3)))
            have HRES := Lib.hid (fun (e : Ending) (W' : World) => show (if ce = 0 then ∃ u0 u1 u2 u3, e = .returned (.tuple #[.agg #[u0, u1, u2, u3], .int .i64 0, .int .i64 0]) ∧ Ints W' u0 p0 ∧ Ints W' u1 p1 ∧ Ints W' u2 p2 ∧ Ints W' u3 p3
                else e = .returned (.tuple #[zeroL, .int .i64 4, .int .i64 ce])) → ParsePost L e W' from fun h => by
              unfold ParsePost
              rw [if_neg hlt, HB1.out]
              simp only
              rw [HB3.out, HB3.out, HB3.out, HB3.out, ← HP.out.1, ← HP.out.2.1, ← HP.out.2.2.1, ← HP.out.2.2.2, ← HCE.out, HB2.out, ← HM.out, if_neg (by omega)]
              exact h)
            clear hce o0 o1 o2 o3 q0 q1 q2 q3
            go_wp2_with fail
            refine CL.out.mono ?_
            rintro e W6 ⟨rfl, hz⟩
            have b2y := b2z.carry hz
            have hBy := bthen hBz hz
            replace c50 := cellb c50 hz
            replace c51 := cellb c51 hz
            replace c52 := cellb c52 hz
            replace c53 := cellb c53 hz
            have e20 := b2y.cell (j := 0) (v := .slice none 0 0) rfl
            have e21 := b2y.cell (j := 1) (v := .slice none 0 0) rfl
            have e22 := b2y.cell (j := 2) (v := .slice none 0 0) rfl
            have e23 := b2y.cell (j := 3) (v := .slice none 0 0) rfl
            have f20 := b2y.frozen 0
            have f21 := b2y.frozen 1
            have f22 := b2y.frozen 2
            have f23 := b2y.frozen 3
            by_cases he : ce = 0
            · subst he
              go_wp2
              obtain ⟨h2, hB6, hO6⟩ := setFour (.slice a0 p0.length k0) (.slice a1 p1.length k1) (.slice a2 p2.length k2) (.slice a3 p3.length k3) b2y hBy
              obtain ⟨Z, hZ⟩ : ∃ Z, Z = fourW W6 w.heap.size (.slice a0 p0.length k0) (.slice a1 p1.length k1) (.slice a2 p2.length k2) (.slice a3 p3.length k3) := ⟨_, rfl⟩
              rw [← hZ] at h2 hB6 hO6
              unfold fourW at hZ
              rw [← hZ]
              have g0 := h2.cell (j := 0) (v := (.slice a0 p0.length k0)) rfl
              have g1 := h2.cell (j := 1) (v := (.slice a1 p1.length k1)) rfl
              have g2 := h2.cell (j := 2) (v := (.slice a2 p2.length k2)) rfl
              have g3 := h2.cell (j := 3) (v := (.slice a3 p3.length k3)) rfl
              refine bodyPost_ret (v := .tuple #[.agg #[.slice a0 p0.length k0, .slice a1 p1.length k1, .slice a2 p2.length k2, .slice a3 p3.length k3], .int .i64 0, .int .i64 0]) (by simp [results, Tryz.f12, go_sem, g0, g1, g2, g3, zeroL]) rfl ⟨?_, hB6⟩
              exact HRES.out _ _ (by rw [if_pos (by trivial)]; exact ⟨_, _, _, _, rfl, (hO6 (by omega) (HO.out.1.carry hz)).ints, (hO6 (by omega) (HO.out.2.1.carry hz)).ints, (hO6 (by omega) (HO.out.2.2.1.carry hz)).ints, (hO6 (by omega) (HO.out.2.2.2.carry hz)).ints⟩)
            · have z : (ce != 0) = true := by rw [bne_iff_ne]; exact he
              go_wp2
              obtain ⟨h2, hB6, hO6⟩ := setFour (.slice none 0 0) (.slice none 0 0) (.slice none 0 0) (.slice none 0 0) b2y hBy
              obtain ⟨Z, hZ⟩ : ∃ Z, Z = fourW W6 w.heap.size (.slice none 0 0) (.slice none 0 0) (.slice none 0 0) (.slice none 0 0) := ⟨_, rfl⟩
              rw [← hZ] at h2 hB6 hO6
              unfold fourW at hZ
              rw [← hZ]
              have g0 := h2.cell (j := 0) (v := (.slice none 0 0)) rfl
              have g1 := h2.cell (j := 1) (v := (.slice none 0 0)) rfl
              have g2 := h2.cell (j := 2) (v := (.slice none 0 0)) rfl
              have g3 := h2.cell (j := 3) (v := (.slice none 0 0)) rfl
              refine bodyPost_ret (v := .tuple #[zeroL, .int .i64 4, .int .i64 ce]) (by simp [results, Tryz.f12, go_sem, g0, g1, g2, g3, zeroL]) rfl ⟨?_, hB6⟩
              exact HRES.out _ _ (by rw [if_neg he])
        · have HBAD := Lib.hid (show badN (linesL L) = some k by rw [HM.out]; exact bad_last HLI.out HFR.out hle hgall)
          have hlb : (last == []) = false := by
            cases last with
            | nil => exact absurd rfl hle
            | cons a b => rfl
          have hlb2 : last.isEmpty = false := by
            cases last with
            | nil => exact absurd rfl hle
            | cons a b => rfl
          have e20 := b2z.cell (j := 0) (v := .slice none 0 0) rfl
          have e21 := b2z.cell (j := 1) (v := .slice none 0 0) rfl
          have e22 := b2z.cell (j := 2) (v := .slice none 0 0) rfl
          have e23 := b2z.cell (j := 3) (v := .slice none 0 0) rfl
          have f20 := b2z.frozen 0
          have f21 := b2z.frozen 1
          have f22 := b2z.frozen 2
          have f23 := b2z.frozen 3
          clear hgall
          go_wp2
          obtain ⟨h2, hB6, hO6⟩ := setFour (.slice none 0 0) (.slice none 0 0) (.slice none 0 0) (.slice none 0 0) b2z hBz
          obtain ⟨Z, hZ⟩ : ∃ Z, Z = fourW wr w.heap.size (.slice none 0 0) (.slice none 0 0) (.slice none 0 0) (.slice none 0 0) := ⟨_, rfl⟩
          rw [← hZ] at h2 hB6 hO6
          unfold fourW at hZ
          rw [← hZ]
          have g0 := h2.cell (j := 0) (v := (.slice none 0 0)) rfl
          have g1 := h2.cell (j := 1) (v := (.slice none 0 0)) rfl
          have g2 := h2.cell (j := 2) (v := (.slice none 0 0)) rfl
          have g3 := h2.cell (j := 3) (v := (.slice none 0 0)) rfl
          refine bodyPost_ret (v := .tuple #[zeroL, .int .i64 (k : Int), .int .i64 25]) (by simp [results, Tryz.f12, go_sem, g0, g1, g2, g3, zeroL]) rfl ⟨?_, hB6⟩
          unfold ParsePost
          rw [if_neg hlt, HBAD.out]
end Go.Proofs.YtfdehcphmmhjaaaGreatDoor

/- Texts of loops: the program's Parse, the walk. -/
import Derived.Test.YtfdehcphmmhjaaaGreatDoorLopC
namespace Go.Proofs.YtfdehcphmmhjaaaGreatDoor
set_option linter.unusedSimpArgs false
set_option linter.unusedVariables false
open Go.RowKit

attribute [local go_sem] Oper.semAt_some
theorem neqL (a b : List UInt8) : ((⟨a.toArray⟩ : ByteArray).toList == (⟨b.toArray⟩ : ByteArray).toList) = decide (a = b) := by
  rw [ByteArray.toList_mk, ByteArray.toList_mk]
  by_cases h : a = b
  · subst h; simp
  · rw [decide_eq_false h]; simpa using h
set_option maxRecDepth 100000 in
set_option maxHeartbeats 8000000 in
theorem Parse_any (s : ByteArray) (w : World) (hs : s.size ≤ 100000) (hM : Base w) :
    Calls Tryz.prog 9 #[.string s] w fun e W' => ParsePost s.data.toList e W' ∧ Below w.heap.size w W' := by
  have HL := Lib.hid (data_len s)
  have HM := Lib.hid hM
  clear hM
  obtain ⟨L, hL⟩ : ∃ L, L = s.data.toList := ⟨_, rfl⟩
  have hsL : s = ⟨L.toArray⟩ := baEq (by rw [hL])
  rw [← hL] at HL ⊢
  clear hL
  obtain ⟨n, hn⟩ : ∃ n, n = s.size := ⟨_, rfl⟩
  have hn' : s.size = n := hn.symm
  rw [hn'] at HL hs
  have HSL := Lib.hid hsL
  clear hn hsL
  refine calls_of_postR Tryz.func9 rfl ?_
  simp only [Tryz.ntmps9, List.size_toArray, List.length_cons, List.length_nil, Nat.reduceAdd, Nat.reduceSub, Array.replicate_succ, Array.replicate_zero, List.push_toArray, List.append_toArray, List.nil_append, List.cons_append]
  by_cases hlt : 4096 < n
  · have hlt' : 4096 < (n : Int) := by omega
    go_upto_region 1 with fail
    obtain ⟨W1, hW1⟩ : ∃ v, v = World.alloc w (Obj.cells #[.slice none 0 0, .slice none 0 0, .slice none 0 0, .slice none 0 0] 32) := ⟨_, rfl⟩
    have kW1 : Below w.heap.size w W1 := by rw [hW1]; exact below_new _ _
    have iW1 : Blk W1 (w.heap.size) 32 [.slice none 0 0, .slice none 0 0, .slice none 0 0, .slice none 0 0] := by rw [hW1]; exact Blk.new _ _ _
    have sW1 : W1.heap.size = w.heap.size + 1 := by rw [hW1]; simp
    rw [← hW1]
    clear hW1
    obtain ⟨W2, hW2⟩ : ∃ v, v = World.alloc W1 (Obj.cells #[.int .i64 0] 3) := ⟨_, rfl⟩
    have kW2 : Below W1.heap.size W1 W2 := by rw [hW2]; exact below_new _ _
    have iW2 : Blk W2 (w.heap.size + 1) 3 [.int .i64 0] := by rw [hW2, ← sW1]; exact Blk.new _ _ _
    have sW2 : W2.heap.size = w.heap.size + 1 + 1 := by rw [hW2]; simp [sW1]
    rw [← hW2]
    clear hW2
    obtain ⟨W3, hW3⟩ : ∃ v, v = World.alloc W2 (Obj.cells #[.int .i64 0] 27) := ⟨_, rfl⟩
    have kW3 : Below W2.heap.size W2 W3 := by rw [hW3]; exact below_new _ _
    have iW3 : Blk W3 (w.heap.size + 1 + 1) 27 [.int .i64 0] := by rw [hW3, ← sW2]; exact Blk.new _ _ _
    have sW3 : W3.heap.size = w.heap.size + 1 + 1 + 1 := by rw [hW3]; simp [sW2]
    rw [← hW3]
    clear hW3
    have d2 := (iW1.carry kW2).carry kW3
    have d3 := iW2.carry kW3
    have d4 := iW3
    have hB3 : Below w.heap.size w W3 := bthen (bthen kW1 kW2) kW3
    have e20 := d2.cell (j := 0) (v := .slice none 0 0) rfl
    have e21 := d2.cell (j := 1) (v := .slice none 0 0) rfl
    have e22 := d2.cell (j := 2) (v := .slice none 0 0) rfl
    have e23 := d2.cell (j := 3) (v := .slice none 0 0) rfl
    have f20 := d2.frozen 0
    have f21 := d2.frozen 1
    have f22 := d2.frozen 2
    have f23 := d2.frozen 3
    have c3 := d3.cell (j := 0) (v := .int .i64 0) rfl
    have c4 := d4.cell (j := 0) (v := .int .i64 0) rfl
    have f3 := d3.frozen 0
    have f4 := d4.frozen 0
    clear kW1 kW2 kW3 sW1 sW2 sW3 iW1 iW2 iW3
    go_wp2
    obtain ⟨h2, h3, h4, hB6⟩ := setSix (.slice none 0 0) (.slice none 0 0) (.slice none 0 0) (.slice none 0 0) (.int .i64 0) (.int .i64 26) d2 d3 d4 hB3
    obtain ⟨Z, hZ⟩ : ∃ Z, Z = sixW W3 w.heap.size (.slice none 0 0) (.slice none 0 0) (.slice none 0 0) (.slice none 0 0) (.int .i64 0) (.int .i64 26) := ⟨_, rfl⟩
    rw [← hZ] at h2 h3 h4 hB6
    unfold sixW at hZ
    rw [← hZ]
    have g0 := h2.cell (j := 0) (v := .slice none 0 0) rfl
    have g1 := h2.cell (j := 1) (v := .slice none 0 0) rfl
    have g2 := h2.cell (j := 2) (v := .slice none 0 0) rfl
    have g3 := h2.cell (j := 3) (v := .slice none 0 0) rfl
    have g4 := h3.cell (j := 0) (v := .int .i64 0) rfl
    have g5 : Z.cell? ⟨w.heap.size + 1 + 1, 0, none⟩ = some (.int .i64 26) := h4.cell (j := 0) rfl
    refine postR_ret (v := .tuple #[zeroL, .int .i64 0, .int .i64 26]) ?_ rfl ⟨?_, hB6⟩
    · simp [results, Tryz.f9, go_sem, g0, g1, g2, g3, g4, g5, zeroL]
    · unfold ParsePost
      rw [if_pos (by rw [HL.out]; exact hlt)]
  · have hlt' : ¬ 4096 < (n : Int) := by omega
    go_upto_region 1 with fail
    obtain ⟨W1, hW1⟩ : ∃ v, v = World.alloc w (Obj.cells #[.slice none 0 0, .slice none 0 0, .slice none 0 0, .slice none 0 0] 32) := ⟨_, rfl⟩
    have kW1 : Below w.heap.size w W1 := by rw [hW1]; exact below_new _ _
    have iW1 : Blk W1 (w.heap.size) 32 [.slice none 0 0, .slice none 0 0, .slice none 0 0, .slice none 0 0] := by rw [hW1]; exact Blk.new _ _ _
    have sW1 : W1.heap.size = w.heap.size + 1 := by rw [hW1]; simp
    rw [← hW1]
    clear hW1
    obtain ⟨W2, hW2⟩ : ∃ v, v = World.alloc W1 (Obj.cells #[.int .i64 0] 3) := ⟨_, rfl⟩
    have kW2 : Below W1.heap.size W1 W2 := by rw [hW2]; exact below_new _ _
    have iW2 : Blk W2 (w.heap.size + 1) 3 [.int .i64 0] := by rw [hW2, ← sW1]; exact Blk.new _ _ _
    have sW2 : W2.heap.size = w.heap.size + 1 + 1 := by rw [hW2]; simp [sW1]
    rw [← hW2]
    clear hW2
    obtain ⟨W3, hW3⟩ : ∃ v, v = World.alloc W2 (Obj.cells #[.int .i64 0] 27) := ⟨_, rfl⟩
    have kW3 : Below W2.heap.size W2 W3 := by rw [hW3]; exact below_new _ _
    have iW3 : Blk W3 (w.heap.size + 1 + 1) 27 [.int .i64 0] := by rw [hW3, ← sW2]; exact Blk.new _ _ _
    have sW3 : W3.heap.size = w.heap.size + 1 + 1 + 1 := by rw [hW3]; simp [sW2]
    rw [← hW3]
    clear hW3
    go_upto_region 4 with fail
    obtain ⟨W4, hW4⟩ : ∃ v, v = World.alloc W3 (Obj.cells #[.slice none 0 0, .slice none 0 0, .slice none 0 0, .slice none 0 0] 32) := ⟨_, rfl⟩
    have kW4 : Below W3.heap.size W3 W4 := by rw [hW4]; exact below_new _ _
    have iW4 : Blk W4 (w.heap.size + 1 + 1 + 1) 32 [.slice none 0 0, .slice none 0 0, .slice none 0 0, .slice none 0 0] := by rw [hW4, ← sW3]; exact Blk.new _ _ _
    have sW4 : W4.heap.size = w.heap.size + 1 + 1 + 1 + 1 := by rw [hW4]; simp [sW3]
    rw [← hW4]
    clear hW4
    go_upto_region 5 with fail
    obtain ⟨W5, hW5⟩ : ∃ v, v = World.alloc W4 (Obj.cells #[.int .i64 0] 3) := ⟨_, rfl⟩
    have kW5 : Below W4.heap.size W4 W5 := by rw [hW5]; exact below_new _ _
    have iW5 : Blk W5 (w.heap.size + 1 + 1 + 1 + 1) 3 [.int .i64 0] := by rw [hW5, ← sW4]; exact Blk.new _ _ _
    have sW5 : W5.heap.size = w.heap.size + 1 + 1 + 1 + 1 + 1 := by rw [hW5]; simp [sW4]
    rw [← hW5]
    clear hW5
    have b2 := ((iW1.carry kW2).carry kW3).carry (bthen kW4 kW5)
    have b3 := (iW2.carry kW3).carry (bthen kW4 kW5)
    have b4 := iW3.carry (bthen kW4 kW5)
    have b5 := iW4.carry kW5
    have b6 := iW5
    have hB5 : Below w.heap.size w W5 := bthen (bthen (bthen kW1 kW2) kW3) (bthen kW4 kW5)
    have s5 : W5.heap.size = w.heap.size + 5 := by omega
    clear iW1 iW2 iW3 iW4 iW5 kW1 kW2 kW3 kW4 kW5 sW1 sW2 sW3 sW4 sW5
    go_wp2_with fail
    refine (fields_any W5).mono ?_
    rintro e W6 ⟨mb, rfl, hmap, k6⟩
    have s6 := k6.size
    have hmb := hmap.lt
    have b2 := b2.carry k6
    have b3 := b3.carry k6
    have b4 := b4.carry k6
    have b5 := b5.carry k6
    have b6 := b6.carry k6
    have hB6 := bthen hB5 k6
    clear k6 hB5
    go_upto_region 6 with fail
    obtain ⟨W7, hW7⟩ : ∃ v, v = World.alloc W6 (Obj.cells #[.map (some mb)] 86) := ⟨_, rfl⟩
    have kW7 : Below W6.heap.size W6 W7 := by rw [hW7]; exact below_new _ _
    have iW7 : Blk W7 (W6.heap.size) 86 [.map (some mb)] := by rw [hW7]; exact Blk.new _ _ _
    have sW7 : W7.heap.size = W6.heap.size + 1 := by rw [hW7]; simp
    rw [← hW7]
    clear hW7
    have b2 := b2.carry kW7
    have b3 := b3.carry kW7
    have b4 := b4.carry kW7
    have b5 := b5.carry kW7
    have b6 := b6.carry kW7
    have hmap := map_below hmap kW7
    have hB7 := bthen hB6 kW7
    clear hB6
    obtain ⟨M, hM⟩ : ∃ M, M = W6.heap.size := ⟨_, rfl⟩
    rw [← hM] at iW7 sW7 hmb ⊢
    have hM5 : w.heap.size + 5 ≤ M := by omega
    clear hM s6 s5 kW7
    go_wp2_with fail
    refine (lines_any s W7).mono ?_
    rintro e V ⟨rfl, hV⟩
    have kV : Below W7.heap.size W7 V := by rw [← hV]; exact below_new _ _
    have sV : V.heap.size = M + 2 := by rw [← hV, World.size_alloc, sW7]
    have lV : Left V (M + 1) L := by rw [← hV, HSL.out, ← sW7]; exact Blk.new _ _ _
    rw [sW7]
    have b2 := b2.carry kV
    have b3 := b3.carry kV
    have b4 := b4.carry kV
    have b5 := b5.carry kV
    have b6 := b6.carry kV
    have b7 := iW7.carry kV
    have hmap := map_below hmap kV
    have hBV := bthen hB7 kV
    clear hV kV hB7 iW7
    have HMV := Lib.hid (HM.out.carry hBV)
    have hLl : L.length ≤ 1000000 := by rw [HL.out]; omega
    have hV0 : PInv w mb M [] V := ⟨fun j x hx => by simp at hx, b2, b3, b4, ⟨_, rfl, b5, fun k v hk => by
      have hz : v = .slice none 0 0 := by
        match k, hk with
        | 0, hk => simpa using hk.symm
        | 1, hk => simpa using hk.symm
        | 2, hk => simpa using hk.symm
        | 3, hk => simpa using hk.symm
      rw [hz]
      exact World.ownsRow_nil _ _ _ _⟩, b6, b7, hmap, hBV, by omega⟩
    clear b2 b3 b4 b5 b6 b7 hmap
    go_wp2_with fail
    refine wp_rangeR (s := 8) (gf := 83) (lb := #[.pointer (some ⟨M + 1, 0, none⟩)]) rfl (enters_of Tryz.func83 (by kernel_rfl) rfl)
      (lines_seq 4 (by omega) (M + 1) L hLl V lV) (fun r e => by subst e; omega)
      (fun h k => k.trans h) (fun W l o o' hl h _ _ => World.putObj_heap_other (by omega)) (fun W => rfl) (Below.refl _ _)
      (PInv w mb M) (PEx w) (PInv.own w (by omega) (by omega)) (fun c => PEx.own w (by omega) c) hV0
      (fun pre A B r h hg e => by subst e; exact PInv.write w mb M (by omega) hM5 pre A B h hg) (fun pre x A B row hs _ _ => hs) ?assign ?body ?done ?stop
    case assign =>
      intro l v W K hK
      gi_wp2
      exact hK
    case body =>
      rintro l pre ⟨xv, xl⟩ W ⟨hgood, b2, b3, b4, hLT, b6, b7, hmap, hBW, hsz⟩ ⟨hxv, post, hpost⟩
      have HPI := Lib.hid (show PInv w mb M pre W from ⟨hgood, b2, b3, b4, hLT, b6, b7, hmap, hBW, hsz⟩)
      simp only at hxv hpost
      subst hxv
      simp only [List.setIfInBounds_toArray, List.set_cons_succ, List.set_cons_zero]
      have hwf : ∀ f, (Fence.wide.inRound l).fn f := fun _ => trivial
      have hxl : xl.length ≤ 100001 := by
        have := lineL_len (L := L) (x := xl) (by rw [← hpost]; exact List.mem_append_right _ (List.mem_cons_self ..))
        have := HL.out
        omega
      have hbl := bodyL_len xl
      have HX := Lib.hid (cut_any xl W (by omega))
      have hsW := hBW.size
      have hMW := HM.out.carry hBW
      obtain ⟨np, hnp⟩ : ∃ k, k = pre.length := ⟨_, rfl⟩
      have HNP := Lib.hid hnp
      rw [← hnp] at b6
      have hp4 : np ≤ 4 := by
        rcases Nat.lt_or_ge 4 np with h4 | h4
        · exact absurd (lineN_none (Nat.le_refl 4) _) (hgood 4 _ (List.getElem?_eq_getElem (by omega)))
        · exact h4
      have HLN := Lib.hid (show lineN np xl = if np < 4 ∧ endsL xl = true then lineI (fldL np) (splitC 32 (bodyL xl)) else none from rfl)
      obtain ⟨whole, hwh⟩ : ∃ b, b = endsL xl := ⟨_, rfl⟩
      obtain ⟨bd, hbd⟩ : ∃ b, b = bodyL xl := ⟨_, rfl⟩
      rw [← hwh, ← hbd] at HX HLN
      rw [← hbd] at hbl
      have HGD := Lib.hid hgood
      have HLT := Lib.hid hLT
      clear hwh hbd hpost post hnp hgood hLT
      have hX := HX.out
      unfold strV at hX ⊢
      gi_wp2_with fail
      refine (((callsIn_wide (n := 2)).2 hX).inRound l).mono ?_
      rintro e w1 ⟨rfl, rfl⟩
      have HWD := Lib.hid (splitW_any bd w1 (by omega) hMW.maxl)
      obtain ⟨ws, hws⟩ : ∃ b, b = splitC 32 bd := ⟨_, rfl⟩
      have hwl : 0 < ws.length := by rw [hws, splitC_length]; omega
      have hwm : ws.length ≤ 1000000 := by rw [hws, splitC_length]; have : bd.count 32 ≤ bd.length := List.count_le_length; omega
      have HWP := Lib.hid (show ∀ p ∈ ws, p.length ≤ 1000000 from fun p hp => by rw [hws] at hp; have := splitC_len 32 bd p hp; omega)
      rw [← hws] at HWD HLN
      clear hws hX
      have hWD := HWD.out
      unfold strV at hWD
      gi_wp2_with fail
      refine (((callsIn_wide (n := 2)).2 hWD).inRound l).mono ?_
      rintro e w2 ⟨rfl, hbw, hb2⟩
      obtain ⟨p, wt, rfl⟩ : ∃ p wt, ws = p :: wt := by
        cases ws with
        | nil => simp at hwl
        | cons p wt => exact ⟨p, wt, rfl⟩
      have c0 : w2.cell? ⟨w1.heap.size, 0, none⟩ = some (.string ⟨p.toArray⟩) := hbw.cell (j := 0) rfl
      have HBW := Lib.hid hbw
      clear hWD hbw
      have c7 := (b7.carry hb2).cell (j := 0) (v := .map (some mb)) rfl
      have c6 := (b6.carry hb2).cell (j := 0) (v := .int .i64 (np : Int)) rfl
      have hlk := fld_lookT (map_below hmap hb2) np hp4
      obtain ⟨nm, fv, hfv, hone⟩ : ∃ (nm : ByteArray) (fv : Value), (if np < 4 then fld np else zeroF) = .agg #[.string nm, fv] ∧ fv.oneCell' = true := by
        by_cases h4 : np < 4
        · rw [if_pos h4, fld_eq]; exact ⟨_, _, rfl, rfl⟩
        · rw [if_neg h4]; exact ⟨_, _, rfl, rfl⟩
      rw [hfv] at hlk
      have HFV := Lib.hid hfv
      obtain ⟨is4, his4⟩ : ∃ b, b = decide (np < 4) := ⟨_, rfl⟩
      rw [← his4] at hlk
      have HIS := Lib.hid his4
      clear hfv his4
      have hst := fun a m W => run_store Tryz.prog W a fv m hone
      gi_upto_region 11 with fail
      obtain ⟨w3, hw3⟩ : ∃ v, v = w2.alloc (Obj.cells #[.string nm, fv] 90) := ⟨_, rfl⟩
      have hb3 : Below w2.heap.size w2 w3 := by rw [hw3]; exact below_new _ _
      have hbx : Blk w3 w2.heap.size 90 [.string nm, fv] := by rw [hw3]; exact Blk.new _ _ _
      have HS3 := Lib.hid (show w3.heap.size = w2.heap.size + 1 by rw [hw3, World.size_alloc])
      rw [← hw3]
      clear hw3 hst c6 c7 hlk
      have hbw3 := bthen hb2 hb3
      obtain ⟨tf, hto, hto1⟩ := tail_run w1.heap.size wt.length
      obtain ⟨wn, hwn⟩ : ∃ k, k = wt.length := ⟨_, rfl⟩
      rw [← hwn] at hto
      have HTV := Lib.hid (show Vals w3 (.slice (some ⟨w1.heap.size, tf, none⟩) wn wn) (wt.map strV) by
        rcases Nat.eq_zero_or_pos wn with h0 | h0
        · obtain rfl : wt = [] := List.length_eq_zero_iff.1 (by omega)
          exact ⟨_, _, by rw [h0]; rfl, Nat.zero_le _, fun h => absurd h (by simp)⟩
        · have e1 := hto1 (by omega)
          subst e1
          have h := Vals.of_blk HBW.out
          simp only [List.map_cons, List.length_cons, List.length_map] at h
          have ht := Vals.tail (n := wt.length) h (List.length_map ..)
          rw [hwn]
          exact ht.carry hb3)
      have HWN := Lib.hid hwn
      rw [List.length_cons] at hwm
      rw [← hwn] at hwm ⊢
      clear hto1 hwn hwl
      gi_upto_region 12 with fail
      obtain ⟨w4, hw4⟩ : ∃ v, v = w3.alloc (Obj.cells #[Value.slice (some ⟨w1.heap.size, tf, none⟩) wn wn, Value.bool false] 106) := ⟨_, rfl⟩
      have hb4 : Below w3.heap.size w3 w4 := by rw [hw4]; exact below_new _ _
      have hbt : Blk w4 w3.heap.size 106 [.slice (some ⟨w1.heap.size, tf, none⟩) wn wn, .bool false] := by rw [hw4]; exact Blk.new _ _ _
      have HS4 := Lib.hid (show w4.heap.size = w3.heap.size + 1 by rw [hw4, World.size_alloc])
      rw [← hw4]
      clear hw4 hto
      gi_wp2_with fail
      have HPX := Lib.hid (And.intro hbx (And.intro b2 (And.intro b3 (And.intro b4 b6))))
      have hB3 : 5 ≤ w3.heap.size := by have := HM.out.size; have := hb2.size; have := HS3.out; omega
      have hW3 : Base w3 := hMW.carry hbw3
      have HBB := Lib.hid hb4
      clear hbx b2 b3 b4 b6 b7 hmap c0
      obtain ⟨i0, hi, hz0, hz1, hz2⟩ := info_parts Tryz.infoInt
      gi_loopw [16] (fun v16 wr => ∃ (j : Nat) (u : Value), j ≤ wn ∧ Blk wr w3.heap.size 106 [u, .bool (!(wt.take j).all sgOk)] ∧ Vals wr u ((wt.drop j).map strV) ∧ (∀ b2 off2 c2, u = .slice (some ⟨b2, off2, none⟩) (wt.drop j).length c2 → b2 = w1.heap.size) ∧
        OwnI 3 (w3.heap.size + 1) wr v16 ((wt.take j).map numV) ∧ Below w3.heap.size w3 wr) (fun v16 _ => wn - lenV v16)
      case atStart => exact ⟨0, _, by omega, hbt, HTV.out.carry hb4, fun b2 off2 c2 e => by simp only [Value.slice.injEq, Option.some.injEq, Addr.mk.injEq] at e; exact e.1.1.symm, World.ownsRow_nil _ _ _ _, hb4⟩
      case round =>
        clear hbt HTV hb4
        obtain ⟨j, u, hj, hbt, hu, hub, hown, hbr⟩ := hrel
        by_cases hlt2 : j < wn
        · obtain ⟨q, hq⟩ : ∃ q, wt[j]? = some q := ⟨_, List.getElem?_eq_getElem (by rw [← HWN.out]; exact hlt2)⟩
          have hdr : wt.drop j = q :: wt.drop (j + 1) := by
            rw [List.drop_eq_getElem_cons (by rw [← HWN.out]; exact hlt2)]
            rw [List.getElem?_eq_getElem (by rw [← HWN.out]; exact hlt2)] at hq
            rw [Option.some.inj hq]
          have hdl : (wt.drop (j + 1)).length = wn - (j + 1) := by rw [List.length_drop, ← HWN.out]
          rw [hdr] at hu hub
          obtain ⟨b9, o9, c9, hue, hcs9⟩ := hu.head (by simp)
          simp only [List.map_cons, List.length_cons, List.length_map] at hue
          subst hue
          have hw13 : w1.heap.size < w3.heap.size := by have := Blk.lt HBW.out; have := HS3.out; omega
          obtain rfl : b9 = w1.heap.size := hub b9 o9 c9 rfl
          have hb9 : w1.heap.size ≠ w3.heap.size := by omega
          have NB := Lib.hid (number_any w3.heap.size w1.heap.size o9 c9 (!(wt.take j).all sgOk) q (wt.drop (j + 1)) wr hbt hu (HWP.out q (List.mem_cons_of_mem _ (List.mem_of_getElem? hq))) hb9 (hW3.carry hbr) hB3)
          have t0 := hbt.cell (j := 0) (v := .slice (some ⟨w1.heap.size, o9, none⟩) ((wt.drop (j + 1)).length + 1) c9) rfl
          obtain ⟨pa, pc, hp16⟩ := ownsRow_sl hown
          have htk : ((wt.take j).map numV).length = j := by rw [List.length_map, List.length_take, ← HWN.out]; omega
          rw [htk] at hp16
          subst hp16
          have d0 : (0 : Int) < ((wt.drop (j + 1)).length : Int) + 1 := by omega
          have HT := Lib.hid (show wt.take (j + 1) = wt.take j ++ [q] by rw [List.take_add_one, hq]; rfl)
          obtain ⟨rn, hrn⟩ : ∃ k, k = (wt.drop (j + 1)).length := ⟨_, rfl⟩
          rw [← hrn] at t0 d0
          clear hu hub hdr hcs9 hq hbt
          gi_wp2_with fail
          refine (((callsIn_wide (n := 2)).2 NB.out).inRound l).mono ?_
          rintro e wx ⟨u', rfl, hbt2, hu2, hub2, hk⟩
          have hsx := hk.size
          have hown2 : wx.ownsRow (w3.heap.size + 1) 3 1 (.slice pa j pc) j (((wt.take j).map numV).map (Value.int .i64)) := by
            have h := hk.own hown (fun g hg e => by have := (World.ownsRow.lt hown g hg).1; omega)
            rw [htk] at h
            exact h
          have hbr2 := hbr.trans (hk.below (base := w3.heap.size) (fun k hk e => by omega) hbr.size)
          have hs3x := hbr2.size
          have hHX := Lib.hid (show w3.heap.size < wx.heap.size from Blk.lt hbt2)
          have HU2 := Lib.hid hu2
          have HUB2 := Lib.hid hub2
          obtain ⟨lj, hlj⟩ : ∃ l, l = (wt.take j).map numV := ⟨_, rfl⟩
          have HLJ := Lib.hid hlj
          rw [← hlj] at hown2 htk
          obtain ⟨nq, hnq⟩ : ∃ k, k = numV q := ⟨_, rfl⟩
          have HNQ := Lib.hid hnq
          rw [← hnq]
          have hs3y : w3.heap.size + 1 ≤ wx.heap.size := hHX.out
          have hjm : j ≤ 1000000 := by omega
          clear hu2 hub2 NB hown hk hlj hnq t0
          gi_wp2_with (gi_at_builtin; refine wpListIn_append_own _ rfl _ _ 30 rfl (w3.heap.size + 1) 3 i0 (.int .i64 0) 1 8 Tryz.underlying30 hi hz0 hz1 hz2 rfl (by decide) _ _ _ rfl (hown2.alloc _) ⟨wx.heap.size, 0, none⟩ 1 1 [.int .i64 nq] rfl rfl (cell_one_new _ _ _) (by simp [Value.oneCell']) (by unfold maxLen; omega) (by omega) (by simp; omega) ?_; intro v' w5 hown5 hgrow5 _)
          have hba := below_new wx (Obj.cells #[.int .i64 nq] 3)
          have hoa := hown2.alloc (Obj.cells #[.int .i64 nq] 3)
          have hb5 : Below w3.heap.size (wx.alloc (Obj.cells #[.int .i64 nq] 3)) w5 := below_gr hgrow5 (fun r e => by have := (hoa.lt r e).1; omega) (by have := hba.size; omega)
          have hbt5 := Blk.own_kept (hbt2.carry hba) hoa (by decide) hgrow5
          obtain ⟨pa', pc', hv'⟩ := ownsRow_sl hown5
          refine ⟨⟨j + 1, u', by omega, ?_, ?_, ?_, ?_, ?_⟩, ?_⟩
          · rw [HT.out, List.all_append, List.all_cons, List.all_nil, Bool.and_true, Bool.not_and]
            exact hbt5
          · exact (HU2.out.carry hba).low (fun b2 off2 c2 e => by rw [HUB2.out b2 off2 c2 (by simpa using e)]; omega) hb5
          · intro b2 off2 c2 e
            exact HUB2.out b2 off2 c2 e
          · unfold OwnI
            rw [HT.out, List.map_append, ← HLJ.out, List.length_append, htk, List.map_append, List.map_cons, List.map_nil, List.map_cons, List.map_nil, ← HNQ.out]
            exact hown5
          · exact hbr2.trans ((hba.mono (by omega)).trans hb5)
          · rw [hv']
            simp only [lenV]
            omega
        · obtain rfl : j = wn := by omega
          have hta : wt.take j = wt := List.take_of_length_le (by rw [← HWN.out]; exact Nat.le_refl _)
          have htd : wt.drop j = [] := List.drop_eq_nil_of_le (by rw [← HWN.out]; exact Nat.le_refl _)
          rw [hta] at hbt hown
          rw [htd] at hu
          obtain ⟨ua, uc, rfl, _, _⟩ := hu
          have hpl : (wt.map numV).length = j := by rw [List.length_map, ← HWN.out]
          obtain ⟨pa, pc, hp16⟩ := ownsRow_sl hown
          rw [hpl] at hp16
          subst hp16
          have t0 := hbt.cell (j := 0) (v := .slice ua (([] : List (List UInt8)).map strV).length uc) rfl
          have t1 := hbt.cell (j := 1) (v := .bool (!wt.all sgOk)) rfl
          simp only [List.map_nil, List.length_nil] at t0
          clear hta htd hub
          obtain ⟨hbx, b2, b3, b4, b6⟩ := HPX.out
          have hbc := bthen hbw3 hbr
          have x0 := (hbx.carry hbr).cell (j := 0) (v := .string nm) rfl
          have x1 := (hbx.carry hbr).cell (j := 1) (v := fv) rfl
          have d2 := b2.carry hbc
          have e20 := d2.cell (j := 0) (v := .slice none 0 0) rfl
          have e21 := d2.cell (j := 1) (v := .slice none 0 0) rfl
          have e22 := d2.cell (j := 2) (v := .slice none 0 0) rfl
          have e23 := d2.cell (j := 3) (v := .slice none 0 0) rfl
          have f20 := d2.frozen 0
          have f21 := d2.frozen 1
          have f22 := d2.frozen 2
          have f23 := d2.frozen 3
          have c3 := (b3.carry hbc).cell (j := 0) (v := .int .i64 0) rfl
          have c4 := (b4.carry hbc).cell (j := 0) (v := .int .i64 0) rfl
          have c6 := (b6.carry hbc).cell (j := 0) (v := .int .i64 (np : Int)) rfl
          have f3 := (b3.carry hbc).frozen 0
          have f4 := (b4.carry hbc).frozen 0
          have HB := Lib.hid (And.intro hbx (And.intro b2 (And.intro b3 (And.intro b4 b6))))
          clear hbx b2 b3 b4 b6 HPX d2
          have c0 := ((HBW.out.carry hb3).carry hbr).cell (j := 0) (v := strV p) rfl
          obtain ⟨eqb, heqb⟩ : ∃ b, (p == nm.toList) = b := ⟨_, rfl⟩
          obtain ⟨wrong, hwrong⟩ : ∃ b, b = !wt.all sgOk := ⟨_, rfl⟩
          rw [← hwrong] at t1
          obtain ⟨bad, hbad⟩ : ∃ b, b = (!whole || (!is4 || (!eqb || (decide (j = 0) || wrong)))) := ⟨_, rfl⟩
          have HWR := Lib.hid hwrong
          have HEQ := Lib.hid heqb
          have HBD := Lib.hid hbad
          clear hwrong hbad hbt hbr hbw3 hW3 hi hz0 hz1 hz2
          have HOW := Lib.hid hown
          have HBC := Lib.hid hbc
          clear hown hbc
          gi_upto_region 17 with fail
          gi_cut [82] from 58 (fun u82 wn => u82 = .bool bad ∧ Below wr.heap.size wr wn)
          case first =>
            clear e20 e21 e22 e23 f20 f21 f22 f23 c3 c4 c6 f3 f4
            have hdr : Below wr.heap.size wr wr.drew := (Below.refl _ _).drew
            unfold strV at c0
            clear HM HL HSL HMV HX HNP HLN HGD HLT HWD HWP HBW HFV HIS HWN HS3 HBB HB HWR HEQ HOW HBC hMW hlt hs hn' hM5 lV hLl hV0 hBV sV hmb sW7 hBW hsz hsW hxl hbl hp4 hb2 hb3 hwm hone hB3
            cases whole with
            | false =>
              gi_region
              all_goals ((try gi_wp2_with fail); gi_meet; exact ⟨by rw [HBD.out]; rfl, hdr⟩)
            | true =>
              cases is4 with
              | false =>
                gi_region
                all_goals ((try gi_wp2_with fail); gi_meet; exact ⟨by rw [HBD.out]; rfl, hdr⟩)
              | true =>
                cases eqb with
                | false =>
                  gi_region
                  all_goals ((try gi_wp2_with fail); gi_meet; exact ⟨by rw [HBD.out]; rfl, hdr⟩)
                | true =>
                  by_cases hj0 : j = 0
                  · subst hj0
                    refine wpIn_region_any (by kernel_rfl) ?_
                    (try (change wpAnyIn _ _ _ _ _ _ _ _ _ (World.drew _)))
                    refine wpAnyIn_ready (rs := [0]) (by kernel_rfl) (by simp) (AllReadyIn.cons rfl (fun K hK => ?_) AllReadyIn.nil)
                    go_simp; refine hK _ _ ?_; clear hK K; try simp only [Act.put, List.setIfInBounds_toArray, List.set_cons_zero, List.set_cons_succ]
                    refine wpAnyIn_ready (rs := [1]) (by kernel_rfl) (by simp) (AllReadyIn.cons rfl (fun K hK => ?_) AllReadyIn.nil)
                    go_simp; refine hK _ _ ?_; clear hK K; try simp only [Act.put, List.setIfInBounds_toArray, List.set_cons_zero, List.set_cons_succ]
                    refine wpAnyIn_ready (rs := [2]) (by kernel_rfl) (by simp) (AllReadyIn.cons rfl (fun K hK => ?_) AllReadyIn.nil)
                    go_simp; refine hK _ _ ?_; clear hK K; try simp only [Act.put, List.setIfInBounds_toArray, List.set_cons_zero, List.set_cons_succ]
                    refine wpAnyIn_ready (rs := [3]) (by kernel_rfl) (by simp) (AllReadyIn.cons rfl (fun K hK => ?_) AllReadyIn.nil)
                    go_simp; refine hK _ _ ?_; clear hK K; try simp only [Act.put, List.setIfInBounds_toArray, List.set_cons_zero, List.set_cons_succ]
                    refine wpAnyIn_ready (rs := [4]) (by kernel_rfl) (by simp) (AllReadyIn.cons rfl (fun K hK => ?_) AllReadyIn.nil)
                    go_simp; refine hK _ _ ?_; clear hK K; try simp only [Act.put, List.setIfInBounds_toArray, List.set_cons_zero, List.set_cons_succ]
                    refine wpAnyIn_ready (rs := [5]) (by kernel_rfl) (by simp) (AllReadyIn.cons rfl (fun K hK => ?_) AllReadyIn.nil)
                    go_simp; refine hK _ _ ?_; clear hK K; try simp only [Act.put, List.setIfInBounds_toArray, List.set_cons_zero, List.set_cons_succ]
                    refine wpAnyIn_ready (rs := [6]) (by kernel_rfl) (by simp) (AllReadyIn.cons rfl (fun K hK => ?_) AllReadyIn.nil)
                    go_simp; refine hK _ _ ?_; clear hK K; try simp only [Act.put, List.setIfInBounds_toArray, List.set_cons_zero, List.set_cons_succ]
                    refine wpAnyIn_ready (rs := [7, 10]) (by kernel_rfl) (by simp) (AllReadyIn.cons rfl (fun K hK => ?_) (AllReadyIn.cons rfl (fun K hK => ?_) AllReadyIn.nil))
                    · go_simp; refine hK _ _ ?_; clear hK K; try simp only [Act.put, List.setIfInBounds_toArray, List.set_cons_zero, List.set_cons_succ]
                      refine wpAnyIn_ready (rs := [8, 10]) (by kernel_rfl) (by simp) (AllReadyIn.cons rfl (fun K hK => ?_) (AllReadyIn.cons rfl (fun K hK => ?_) AllReadyIn.nil))
                      · go_simp; refine hK _ _ ?_; clear hK K; try simp only [Act.put, List.setIfInBounds_toArray, List.set_cons_zero, List.set_cons_succ]
                        refine wpAnyIn_ready (rs := [9, 10]) (by kernel_rfl) (by simp) (AllReadyIn.cons rfl (fun K hK => ?_) (AllReadyIn.cons rfl (fun K hK => ?_) AllReadyIn.nil))
                        · go_simp; refine hK _ _ ?_; clear hK K; try simp only [Act.put, List.setIfInBounds_toArray, List.set_cons_zero, List.set_cons_succ]
                          refine wpAnyIn_ready (rs := [10]) (by kernel_rfl) (by simp) (AllReadyIn.cons rfl (fun K hK => ?_) AllReadyIn.nil)
                          go_simp; refine hK _ _ ?_; clear hK K; try simp only [Act.put, List.setIfInBounds_toArray, List.set_cons_zero, List.set_cons_succ]
                          refine wpAnyIn_ready (rs := [11]) (by kernel_rfl) (by simp) (AllReadyIn.cons rfl (fun K hK => ?_) AllReadyIn.nil)
                          go_simp; refine hK _ _ ?_; clear hK K; try simp only [Act.put, List.setIfInBounds_toArray, List.set_cons_zero, List.set_cons_succ]
                          refine wpAnyIn_ready (rs := [12]) (by kernel_rfl) (by simp) (AllReadyIn.cons rfl (fun K hK => ?_) AllReadyIn.nil)
                          go_simp; refine hK _ _ ?_; clear hK K; try simp only [Act.put, List.setIfInBounds_toArray, List.set_cons_zero, List.set_cons_succ]
                          refine wpAnyIn_ready (rs := [13]) (by kernel_rfl) (by simp) (AllReadyIn.cons rfl (fun K hK => ?_) AllReadyIn.nil)
                          go_simp; refine hK _ _ ?_; clear hK K; try simp only [Act.put, List.setIfInBounds_toArray, List.set_cons_zero, List.set_cons_succ]
                          refine wpAnyIn_ready (rs := [14]) (by kernel_rfl) (by simp) (AllReadyIn.cons rfl (fun K hK => ?_) AllReadyIn.nil)
                          go_simp; refine hK _ _ ?_; clear hK K; try simp only [Act.put, List.setIfInBounds_toArray, List.set_cons_zero, List.set_cons_succ]
                          refine wpAnyIn_ready (rs := [15]) (by kernel_rfl) (by simp) (AllReadyIn.cons rfl (fun K hK => ?_) AllReadyIn.nil)
                          go_simp; refine hK _ _ ?_; clear hK K; try simp only [Act.put, List.setIfInBounds_toArray, List.set_cons_zero, List.set_cons_succ]
                          refine wpAnyIn_ready (rs := [16]) (by kernel_rfl) (by simp) (AllReadyIn.cons rfl (fun K hK => ?_) AllReadyIn.nil)
                          go_simp; refine hK _ _ ?_; clear hK K; try simp only [Act.put, List.setIfInBounds_toArray, List.set_cons_zero, List.set_cons_succ]
                          refine wpAnyIn_ready (rs := [17]) (by kernel_rfl) (by simp) (AllReadyIn.cons rfl (fun K hK => ?_) AllReadyIn.nil)
                          go_simp; refine hK _ _ ?_; clear hK K; try simp only [Act.put, List.setIfInBounds_toArray, List.set_cons_zero, List.set_cons_succ]
                          refine wpAnyIn_ready (rs := [18]) (by kernel_rfl) (by simp) (AllReadyIn.cons rfl (fun K hK => ?_) AllReadyIn.nil)
                          go_simp; refine hK _ _ ?_; clear hK K; try simp only [Act.put, List.setIfInBounds_toArray, List.set_cons_zero, List.set_cons_succ]
                          refine wpAnyIn_ready (rs := [19]) (by kernel_rfl) (by simp) (AllReadyIn.cons rfl (fun K hK => ?_) AllReadyIn.nil)
                          go_simp; refine hK _ _ ?_; clear hK K; try simp only [Act.put, List.setIfInBounds_toArray, List.set_cons_zero, List.set_cons_succ]
                          refine wpAnyIn_ready (rs := [20]) (by kernel_rfl) (by simp) (AllReadyIn.cons rfl (fun K hK => ?_) AllReadyIn.nil)
                          go_simp; refine hK _ _ ?_; clear hK K; try simp only [Act.put, List.setIfInBounds_toArray, List.set_cons_zero, List.set_cons_succ]
                          refine wpAnyIn_ready (rs := [21]) (by kernel_rfl) (by simp) (AllReadyIn.cons rfl (fun K hK => ?_) AllReadyIn.nil)
                          go_simp; refine hK _ _ ?_; clear hK K; try simp only [Act.put, List.setIfInBounds_toArray, List.set_cons_zero, List.set_cons_succ]
                          refine wpAnyIn_ready (rs := [22]) (by kernel_rfl) (by simp) (AllReadyIn.cons rfl (fun K hK => ?_) AllReadyIn.nil)
                          go_simp; refine hK _ _ ?_; clear hK K; try simp only [Act.put, List.setIfInBounds_toArray, List.set_cons_zero, List.set_cons_succ]
                          refine wpAnyIn_ready (rs := [23]) (by kernel_rfl) (by simp) (AllReadyIn.cons rfl (fun K hK => ?_) AllReadyIn.nil)
                          go_simp; refine hK _ _ ?_; clear hK K; try simp only [Act.put, List.setIfInBounds_toArray, List.set_cons_zero, List.set_cons_succ]
                          refine wpAnyIn_ready (rs := [24]) (by kernel_rfl) (by simp) (AllReadyIn.cons rfl (fun K hK => ?_) AllReadyIn.nil)
                          go_simp; refine hK _ _ ?_; clear hK K; try simp only [Act.put, List.setIfInBounds_toArray, List.set_cons_zero, List.set_cons_succ]
                          refine wpAnyIn_done (by kernel_rfl) ?_ _
                          (try gi_wp2_with fail)
                          gi_meet
                          exact ⟨by rw [HBD.out]; rfl, hdr⟩
                        · go_simp; refine hK _ _ ?_; clear hK K; try simp only [Act.put, List.setIfInBounds_toArray, List.set_cons_zero, List.set_cons_succ]
                          refine wpAnyIn_ready (rs := [9, 11]) (by kernel_rfl) (by simp) (AllReadyIn.cons rfl (fun K hK => ?_) (AllReadyIn.cons rfl (fun K hK => ?_) AllReadyIn.nil))
                          · go_simp; refine hK _ _ ?_; clear hK K; try simp only [Act.put, List.setIfInBounds_toArray, List.set_cons_zero, List.set_cons_succ]
                            refine wpAnyIn_ready (rs := [11]) (by kernel_rfl) (by simp) (AllReadyIn.cons rfl (fun K hK => ?_) AllReadyIn.nil)
                            go_simp; refine hK _ _ ?_; clear hK K; try simp only [Act.put, List.setIfInBounds_toArray, List.set_cons_zero, List.set_cons_succ]
                            refine wpAnyIn_ready (rs := [12]) (by kernel_rfl) (by simp) (AllReadyIn.cons rfl (fun K hK => ?_) AllReadyIn.nil)
                            go_simp; refine hK _ _ ?_; clear hK K; try simp only [Act.put, List.setIfInBounds_toArray, List.set_cons_zero, List.set_cons_succ]
                            refine wpAnyIn_ready (rs := [13]) (by kernel_rfl) (by simp) (AllReadyIn.cons rfl (fun K hK => ?_) AllReadyIn.nil)
                            go_simp; refine hK _ _ ?_; clear hK K; try simp only [Act.put, List.setIfInBounds_toArray, List.set_cons_zero, List.set_cons_succ]
                            refine wpAnyIn_ready (rs := [14]) (by kernel_rfl) (by simp) (AllReadyIn.cons rfl (fun K hK => ?_) AllReadyIn.nil)
                            go_simp; refine hK _ _ ?_; clear hK K; try simp only [Act.put, List.setIfInBounds_toArray, List.set_cons_zero, List.set_cons_succ]
                            refine wpAnyIn_ready (rs := [15]) (by kernel_rfl) (by simp) (AllReadyIn.cons rfl (fun K hK => ?_) AllReadyIn.nil)
                            go_simp; refine hK _ _ ?_; clear hK K; try simp only [Act.put, List.setIfInBounds_toArray, List.set_cons_zero, List.set_cons_succ]
                            refine wpAnyIn_ready (rs := [16]) (by kernel_rfl) (by simp) (AllReadyIn.cons rfl (fun K hK => ?_) AllReadyIn.nil)
                            go_simp; refine hK _ _ ?_; clear hK K; try simp only [Act.put, List.setIfInBounds_toArray, List.set_cons_zero, List.set_cons_succ]
                            refine wpAnyIn_ready (rs := [17]) (by kernel_rfl) (by simp) (AllReadyIn.cons rfl (fun K hK => ?_) AllReadyIn.nil)
                            go_simp; refine hK _ _ ?_; clear hK K; try simp only [Act.put, List.setIfInBounds_toArray, List.set_cons_zero, List.set_cons_succ]
                            refine wpAnyIn_ready (rs := [18]) (by kernel_rfl) (by simp) (AllReadyIn.cons rfl (fun K hK => ?_) AllReadyIn.nil)
                            go_simp; refine hK _ _ ?_; clear hK K; try simp only [Act.put, List.setIfInBounds_toArray, List.set_cons_zero, List.set_cons_succ]
                            refine wpAnyIn_ready (rs := [19]) (by kernel_rfl) (by simp) (AllReadyIn.cons rfl (fun K hK => ?_) AllReadyIn.nil)
                            go_simp; refine hK _ _ ?_; clear hK K; try simp only [Act.put, List.setIfInBounds_toArray, List.set_cons_zero, List.set_cons_succ]
                            refine wpAnyIn_ready (rs := [20]) (by kernel_rfl) (by simp) (AllReadyIn.cons rfl (fun K hK => ?_) AllReadyIn.nil)
                            go_simp; refine hK _ _ ?_; clear hK K; try simp only [Act.put, List.setIfInBounds_toArray, List.set_cons_zero, List.set_cons_succ]
                            refine wpAnyIn_ready (rs := [21]) (by kernel_rfl) (by simp) (AllReadyIn.cons rfl (fun K hK => ?_) AllReadyIn.nil)
                            go_simp; refine hK _ _ ?_; clear hK K; try simp only [Act.put, List.setIfInBounds_toArray, List.set_cons_zero, List.set_cons_succ]
                            refine wpAnyIn_ready (rs := [22]) (by kernel_rfl) (by simp) (AllReadyIn.cons rfl (fun K hK => ?_) AllReadyIn.nil)
                            go_simp; refine hK _ _ ?_; clear hK K; try simp only [Act.put, List.setIfInBounds_toArray, List.set_cons_zero, List.set_cons_succ]
                            refine wpAnyIn_ready (rs := [23]) (by kernel_rfl) (by simp) (AllReadyIn.cons rfl (fun K hK => ?_) AllReadyIn.nil)
                            go_simp; refine hK _ _ ?_; clear hK K; try simp only [Act.put, List.setIfInBounds_toArray, List.set_cons_zero, List.set_cons_succ]
                            refine wpAnyIn_ready (rs := [24]) (by kernel_rfl) (by simp) (AllReadyIn.cons rfl (fun K hK => ?_) AllReadyIn.nil)
                            go_simp; refine hK _ _ ?_; clear hK K; try simp only [Act.put, List.setIfInBounds_toArray, List.set_cons_zero, List.set_cons_succ]
                            refine wpAnyIn_done (by kernel_rfl) ?_ _
                            (try gi_wp2_with fail)
                            gi_meet
                            exact ⟨by rw [HBD.out]; rfl, hdr⟩
                          · go_simp; refine hK _ _ ?_; clear hK K; try simp only [Act.put, List.setIfInBounds_toArray, List.set_cons_zero, List.set_cons_succ]
                            refine wpAnyIn_ready (rs := [9]) (by kernel_rfl) (by simp) (AllReadyIn.cons rfl (fun K hK => ?_) AllReadyIn.nil)
                            go_simp; refine hK _ _ ?_; clear hK K; try simp only [Act.put, List.setIfInBounds_toArray, List.set_cons_zero, List.set_cons_succ]
                            refine wpAnyIn_ready (rs := [12]) (by kernel_rfl) (by simp) (AllReadyIn.cons rfl (fun K hK => ?_) AllReadyIn.nil)
                            go_simp; refine hK _ _ ?_; clear hK K; try simp only [Act.put, List.setIfInBounds_toArray, List.set_cons_zero, List.set_cons_succ]
                            refine wpAnyIn_ready (rs := [13]) (by kernel_rfl) (by simp) (AllReadyIn.cons rfl (fun K hK => ?_) AllReadyIn.nil)
                            go_simp; refine hK _ _ ?_; clear hK K; try simp only [Act.put, List.setIfInBounds_toArray, List.set_cons_zero, List.set_cons_succ]
                            refine wpAnyIn_ready (rs := [14]) (by kernel_rfl) (by simp) (AllReadyIn.cons rfl (fun K hK => ?_) AllReadyIn.nil)
                            go_simp; refine hK _ _ ?_; clear hK K; try simp only [Act.put, List.setIfInBounds_toArray, List.set_cons_zero, List.set_cons_succ]
                            refine wpAnyIn_ready (rs := [15]) (by kernel_rfl) (by simp) (AllReadyIn.cons rfl (fun K hK => ?_) AllReadyIn.nil)
                            go_simp; refine hK _ _ ?_; clear hK K; try simp only [Act.put, List.setIfInBounds_toArray, List.set_cons_zero, List.set_cons_succ]
                            refine wpAnyIn_ready (rs := [16]) (by kernel_rfl) (by simp) (AllReadyIn.cons rfl (fun K hK => ?_) AllReadyIn.nil)
                            go_simp; refine hK _ _ ?_; clear hK K; try simp only [Act.put, List.setIfInBounds_toArray, List.set_cons_zero, List.set_cons_succ]
                            refine wpAnyIn_ready (rs := [17]) (by kernel_rfl) (by simp) (AllReadyIn.cons rfl (fun K hK => ?_) AllReadyIn.nil)
                            go_simp; refine hK _ _ ?_; clear hK K; try simp only [Act.put, List.setIfInBounds_toArray, List.set_cons_zero, List.set_cons_succ]
                            refine wpAnyIn_ready (rs := [18]) (by kernel_rfl) (by simp) (AllReadyIn.cons rfl (fun K hK => ?_) AllReadyIn.nil)
                            go_simp; refine hK _ _ ?_; clear hK K; try simp only [Act.put, List.setIfInBounds_toArray, List.set_cons_zero, List.set_cons_succ]
                            refine wpAnyIn_ready (rs := [19]) (by kernel_rfl) (by simp) (AllReadyIn.cons rfl (fun K hK => ?_) AllReadyIn.nil)
                            go_simp; refine hK _ _ ?_; clear hK K; try simp only [Act.put, List.setIfInBounds_toArray, List.set_cons_zero, List.set_cons_succ]
                            refine wpAnyIn_ready (rs := [20]) (by kernel_rfl) (by simp) (AllReadyIn.cons rfl (fun K hK => ?_) AllReadyIn.nil)
                            go_simp; refine hK _ _ ?_; clear hK K; try simp only [Act.put, List.setIfInBounds_toArray, List.set_cons_zero, List.set_cons_succ]
                            refine wpAnyIn_ready (rs := [21]) (by kernel_rfl) (by simp) (AllReadyIn.cons rfl (fun K hK => ?_) AllReadyIn.nil)
                            go_simp; refine hK _ _ ?_; clear hK K; try simp only [Act.put, List.setIfInBounds_toArray, List.set_cons_zero, List.set_cons_succ]
                            refine wpAnyIn_ready (rs := [22]) (by kernel_rfl) (by simp) (AllReadyIn.cons rfl (fun K hK => ?_) AllReadyIn.nil)
                            go_simp; refine hK _ _ ?_; clear hK K; try simp only [Act.put, List.setIfInBounds_toArray, List.set_cons_zero, List.set_cons_succ]
                            refine wpAnyIn_ready (rs := [23]) (by kernel_rfl) (by simp) (AllReadyIn.cons rfl (fun K hK => ?_) AllReadyIn.nil)
                            go_simp; refine hK _ _ ?_; clear hK K; try simp only [Act.put, List.setIfInBounds_toArray, List.set_cons_zero, List.set_cons_succ]
                            refine wpAnyIn_ready (rs := [24]) (by kernel_rfl) (by simp) (AllReadyIn.cons rfl (fun K hK => ?_) AllReadyIn.nil)
                            go_simp; refine hK _ _ ?_; clear hK K; try simp only [Act.put, List.setIfInBounds_toArray, List.set_cons_zero, List.set_cons_succ]
                            refine wpAnyIn_done (by kernel_rfl) ?_ _
                            (try gi_wp2_with fail)
                            gi_meet
                            exact ⟨by rw [HBD.out]; rfl, hdr⟩
                      · go_simp; refine hK _ _ ?_; clear hK K; try simp only [Act.put, List.setIfInBounds_toArray, List.set_cons_zero, List.set_cons_succ]
                        refine wpAnyIn_ready (rs := [8, 11]) (by kernel_rfl) (by simp) (AllReadyIn.cons rfl (fun K hK => ?_) (AllReadyIn.cons rfl (fun K hK => ?_) AllReadyIn.nil))
                        · go_simp; refine hK _ _ ?_; clear hK K; try simp only [Act.put, List.setIfInBounds_toArray, List.set_cons_zero, List.set_cons_succ]
                          refine wpAnyIn_ready (rs := [9, 11]) (by kernel_rfl) (by simp) (AllReadyIn.cons rfl (fun K hK => ?_) (AllReadyIn.cons rfl (fun K hK => ?_) AllReadyIn.nil))
                          · go_simp; refine hK _ _ ?_; clear hK K; try simp only [Act.put, List.setIfInBounds_toArray, List.set_cons_zero, List.set_cons_succ]
                            refine wpAnyIn_ready (rs := [11]) (by kernel_rfl) (by simp) (AllReadyIn.cons rfl (fun K hK => ?_) AllReadyIn.nil)
                            go_simp; refine hK _ _ ?_; clear hK K; try simp only [Act.put, List.setIfInBounds_toArray, List.set_cons_zero, List.set_cons_succ]
                            refine wpAnyIn_ready (rs := [12]) (by kernel_rfl) (by simp) (AllReadyIn.cons rfl (fun K hK => ?_) AllReadyIn.nil)
                            go_simp; refine hK _ _ ?_; clear hK K; try simp only [Act.put, List.setIfInBounds_toArray, List.set_cons_zero, List.set_cons_succ]
                            refine wpAnyIn_ready (rs := [13]) (by kernel_rfl) (by simp) (AllReadyIn.cons rfl (fun K hK => ?_) AllReadyIn.nil)
                            go_simp; refine hK _ _ ?_; clear hK K; try simp only [Act.put, List.setIfInBounds_toArray, List.set_cons_zero, List.set_cons_succ]
                            refine wpAnyIn_ready (rs := [14]) (by kernel_rfl) (by simp) (AllReadyIn.cons rfl (fun K hK => ?_) AllReadyIn.nil)
                            go_simp; refine hK _ _ ?_; clear hK K; try simp only [Act.put, List.setIfInBounds_toArray, List.set_cons_zero, List.set_cons_succ]
                            refine wpAnyIn_ready (rs := [15]) (by kernel_rfl) (by simp) (AllReadyIn.cons rfl (fun K hK => ?_) AllReadyIn.nil)
                            go_simp; refine hK _ _ ?_; clear hK K; try simp only [Act.put, List.setIfInBounds_toArray, List.set_cons_zero, List.set_cons_succ]
                            refine wpAnyIn_ready (rs := [16]) (by kernel_rfl) (by simp) (AllReadyIn.cons rfl (fun K hK => ?_) AllReadyIn.nil)
                            go_simp; refine hK _ _ ?_; clear hK K; try simp only [Act.put, List.setIfInBounds_toArray, List.set_cons_zero, List.set_cons_succ]
                            refine wpAnyIn_ready (rs := [17]) (by kernel_rfl) (by simp) (AllReadyIn.cons rfl (fun K hK => ?_) AllReadyIn.nil)
                            go_simp; refine hK _ _ ?_; clear hK K; try simp only [Act.put, List.setIfInBounds_toArray, List.set_cons_zero, List.set_cons_succ]
                            refine wpAnyIn_ready (rs := [18]) (by kernel_rfl) (by simp) (AllReadyIn.cons rfl (fun K hK => ?_) AllReadyIn.nil)
                            go_simp; refine hK _ _ ?_; clear hK K; try simp only [Act.put, List.setIfInBounds_toArray, List.set_cons_zero, List.set_cons_succ]
                            refine wpAnyIn_ready (rs := [19]) (by kernel_rfl) (by simp) (AllReadyIn.cons rfl (fun K hK => ?_) AllReadyIn.nil)
                            go_simp; refine hK _ _ ?_; clear hK K; try simp only [Act.put, List.setIfInBounds_toArray, List.set_cons_zero, List.set_cons_succ]
                            refine wpAnyIn_ready (rs := [20]) (by kernel_rfl) (by simp) (AllReadyIn.cons rfl (fun K hK => ?_) AllReadyIn.nil)
                            go_simp; refine hK _ _ ?_; clear hK K; try simp only [Act.put, List.setIfInBounds_toArray, List.set_cons_zero, List.set_cons_succ]
                            refine wpAnyIn_ready (rs := [21]) (by kernel_rfl) (by simp) (AllReadyIn.cons rfl (fun K hK => ?_) AllReadyIn.nil)
                            go_simp; refine hK _ _ ?_; clear hK K; try simp only [Act.put, List.setIfInBounds_toArray, List.set_cons_zero, List.set_cons_succ]
                            refine wpAnyIn_ready (rs := [22]) (by kernel_rfl) (by simp) (AllReadyIn.cons rfl (fun K hK => ?_) AllReadyIn.nil)
                            go_simp; refine hK _ _ ?_; clear hK K; try simp only [Act.put, List.setIfInBounds_toArray, List.set_cons_zero, List.set_cons_succ]
                            refine wpAnyIn_ready (rs := [23]) (by kernel_rfl) (by simp) (AllReadyIn.cons rfl (fun K hK => ?_) AllReadyIn.nil)
                            go_simp; refine hK _ _ ?_; clear hK K; try simp only [Act.put, List.setIfInBounds_toArray, List.set_cons_zero, List.set_cons_succ]
                            refine wpAnyIn_ready (rs := [24]) (by kernel_rfl) (by simp) (AllReadyIn.cons rfl (fun K hK => ?_) AllReadyIn.nil)
                            go_simp; refine hK _ _ ?_; clear hK K; try simp only [Act.put, List.setIfInBounds_toArray, List.set_cons_zero, List.set_cons_succ]
                            refine wpAnyIn_done (by kernel_rfl) ?_ _
                            (try gi_wp2_with fail)
                            gi_meet
                            exact ⟨by rw [HBD.out]; rfl, hdr⟩
                          · go_simp; refine hK _ _ ?_; clear hK K; try simp only [Act.put, List.setIfInBounds_toArray, List.set_cons_zero, List.set_cons_succ]
                            refine wpAnyIn_ready (rs := [9]) (by kernel_rfl) (by simp) (AllReadyIn.cons rfl (fun K hK => ?_) AllReadyIn.nil)
                            go_simp; refine hK _ _ ?_; clear hK K; try simp only [Act.put, List.setIfInBounds_toArray, List.set_cons_zero, List.set_cons_succ]
                            refine wpAnyIn_ready (rs := [12]) (by kernel_rfl) (by simp) (AllReadyIn.cons rfl (fun K hK => ?_) AllReadyIn.nil)
                            go_simp; refine hK _ _ ?_; clear hK K; try simp only [Act.put, List.setIfInBounds_toArray, List.set_cons_zero, List.set_cons_succ]
                            refine wpAnyIn_ready (rs := [13]) (by kernel_rfl) (by simp) (AllReadyIn.cons rfl (fun K hK => ?_) AllReadyIn.nil)
                            go_simp; refine hK _ _ ?_; clear hK K; try simp only [Act.put, List.setIfInBounds_toArray, List.set_cons_zero, List.set_cons_succ]
                            refine wpAnyIn_ready (rs := [14]) (by kernel_rfl) (by simp) (AllReadyIn.cons rfl (fun K hK => ?_) AllReadyIn.nil)
                            go_simp; refine hK _ _ ?_; clear hK K; try simp only [Act.put, List.setIfInBounds_toArray, List.set_cons_zero, List.set_cons_succ]
                            refine wpAnyIn_ready (rs := [15]) (by kernel_rfl) (by simp) (AllReadyIn.cons rfl (fun K hK => ?_) AllReadyIn.nil)
                            go_simp; refine hK _ _ ?_; clear hK K; try simp only [Act.put, List.setIfInBounds_toArray, List.set_cons_zero, List.set_cons_succ]
                            refine wpAnyIn_ready (rs := [16]) (by kernel_rfl) (by simp) (AllReadyIn.cons rfl (fun K hK => ?_) AllReadyIn.nil)
                            go_simp; refine hK _ _ ?_; clear hK K; try simp only [Act.put, List.setIfInBounds_toArray, List.set_cons_zero, List.set_cons_succ]
                            refine wpAnyIn_ready (rs := [17]) (by kernel_rfl) (by simp) (AllReadyIn.cons rfl (fun K hK => ?_) AllReadyIn.nil)
                            go_simp; refine hK _ _ ?_; clear hK K; try simp only [Act.put, List.setIfInBounds_toArray, List.set_cons_zero, List.set_cons_succ]
                            refine wpAnyIn_ready (rs := [18]) (by kernel_rfl) (by simp) (AllReadyIn.cons rfl (fun K hK => ?_) AllReadyIn.nil)
                            go_simp; refine hK _ _ ?_; clear hK K; try simp only [Act.put, List.setIfInBounds_toArray, List.set_cons_zero, List.set_cons_succ]
                            refine wpAnyIn_ready (rs := [19]) (by kernel_rfl) (by simp) (AllReadyIn.cons rfl (fun K hK => ?_) AllReadyIn.nil)
                            go_simp; refine hK _ _ ?_; clear hK K; try simp only [Act.put, List.setIfInBounds_toArray, List.set_cons_zero, List.set_cons_succ]
                            refine wpAnyIn_ready (rs := [20]) (by kernel_rfl) (by simp) (AllReadyIn.cons rfl (fun K hK => ?_) AllReadyIn.nil)
                            go_simp; refine hK _ _ ?_; clear hK K; try simp only [Act.put, List.setIfInBounds_toArray, List.set_cons_zero, List.set_cons_succ]
                            refine wpAnyIn_ready (rs := [21]) (by kernel_rfl) (by simp) (AllReadyIn.cons rfl (fun K hK => ?_) AllReadyIn.nil)
                            go_simp; refine hK _ _ ?_; clear hK K; try simp only [Act.put, List.setIfInBounds_toArray, List.set_cons_zero, List.set_cons_succ]
                            refine wpAnyIn_ready (rs := [22]) (by kernel_rfl) (by simp) (AllReadyIn.cons rfl (fun K hK => ?_) AllReadyIn.nil)
                            go_simp; refine hK _ _ ?_; clear hK K; try simp only [Act.put, List.setIfInBounds_toArray, List.set_cons_zero, List.set_cons_succ]
                            refine wpAnyIn_ready (rs := [23]) (by kernel_rfl) (by simp) (AllReadyIn.cons rfl (fun K hK => ?_) AllReadyIn.nil)
                            go_simp; refine hK _ _ ?_; clear hK K; try simp only [Act.put, List.setIfInBounds_toArray, List.set_cons_zero, List.set_cons_succ]
                            refine wpAnyIn_ready (rs := [24]) (by kernel_rfl) (by simp) (AllReadyIn.cons rfl (fun K hK => ?_) AllReadyIn.nil)
                            go_simp; refine hK _ _ ?_; clear hK K; try simp only [Act.put, List.setIfInBounds_toArray, List.set_cons_zero, List.set_cons_succ]
                            refine wpAnyIn_done (by kernel_rfl) ?_ _
                            (try gi_wp2_with fail)
                            gi_meet
                            exact ⟨by rw [HBD.out]; rfl, hdr⟩
                        · go_simp; refine hK _ _ ?_; clear hK K; try simp only [Act.put, List.setIfInBounds_toArray, List.set_cons_zero, List.set_cons_succ]
                          refine wpAnyIn_ready (rs := [8]) (by kernel_rfl) (by simp) (AllReadyIn.cons rfl (fun K hK => ?_) AllReadyIn.nil)
                          go_simp; refine hK _ _ ?_; clear hK K; try simp only [Act.put, List.setIfInBounds_toArray, List.set_cons_zero, List.set_cons_succ]
                          refine wpAnyIn_ready (rs := [9]) (by kernel_rfl) (by simp) (AllReadyIn.cons rfl (fun K hK => ?_) AllReadyIn.nil)
                          go_simp; refine hK _ _ ?_; clear hK K; try simp only [Act.put, List.setIfInBounds_toArray, List.set_cons_zero, List.set_cons_succ]
                          refine wpAnyIn_ready (rs := [12]) (by kernel_rfl) (by simp) (AllReadyIn.cons rfl (fun K hK => ?_) AllReadyIn.nil)
                          go_simp; refine hK _ _ ?_; clear hK K; try simp only [Act.put, List.setIfInBounds_toArray, List.set_cons_zero, List.set_cons_succ]
                          refine wpAnyIn_ready (rs := [13]) (by kernel_rfl) (by simp) (AllReadyIn.cons rfl (fun K hK => ?_) AllReadyIn.nil)
                          go_simp; refine hK _ _ ?_; clear hK K; try simp only [Act.put, List.setIfInBounds_toArray, List.set_cons_zero, List.set_cons_succ]
                          refine wpAnyIn_ready (rs := [14]) (by kernel_rfl) (by simp) (AllReadyIn.cons rfl (fun K hK => ?_) AllReadyIn.nil)
                          go_simp; refine hK _ _ ?_; clear hK K; try simp only [Act.put, List.setIfInBounds_toArray, List.set_cons_zero, List.set_cons_succ]
                          refine wpAnyIn_ready (rs := [15]) (by kernel_rfl) (by simp) (AllReadyIn.cons rfl (fun K hK => ?_) AllReadyIn.nil)
                          go_simp; refine hK _ _ ?_; clear hK K; try simp only [Act.put, List.setIfInBounds_toArray, List.set_cons_zero, List.set_cons_succ]
                          refine wpAnyIn_ready (rs := [16]) (by kernel_rfl) (by simp) (AllReadyIn.cons rfl (fun K hK => ?_) AllReadyIn.nil)
                          go_simp; refine hK _ _ ?_; clear hK K; try simp only [Act.put, List.setIfInBounds_toArray, List.set_cons_zero, List.set_cons_succ]
                          refine wpAnyIn_ready (rs := [17]) (by kernel_rfl) (by simp) (AllReadyIn.cons rfl (fun K hK => ?_) AllReadyIn.nil)
                          go_simp; refine hK _ _ ?_; clear hK K; try simp only [Act.put, List.setIfInBounds_toArray, List.set_cons_zero, List.set_cons_succ]
                          refine wpAnyIn_ready (rs := [18]) (by kernel_rfl) (by simp) (AllReadyIn.cons rfl (fun K hK => ?_) AllReadyIn.nil)
                          go_simp; refine hK _ _ ?_; clear hK K; try simp only [Act.put, List.setIfInBounds_toArray, List.set_cons_zero, List.set_cons_succ]
                          refine wpAnyIn_ready (rs := [19]) (by kernel_rfl) (by simp) (AllReadyIn.cons rfl (fun K hK => ?_) AllReadyIn.nil)
                          go_simp; refine hK _ _ ?_; clear hK K; try simp only [Act.put, List.setIfInBounds_toArray, List.set_cons_zero, List.set_cons_succ]
                          refine wpAnyIn_ready (rs := [20]) (by kernel_rfl) (by simp) (AllReadyIn.cons rfl (fun K hK => ?_) AllReadyIn.nil)
                          go_simp; refine hK _ _ ?_; clear hK K; try simp only [Act.put, List.setIfInBounds_toArray, List.set_cons_zero, List.set_cons_succ]
                          refine wpAnyIn_ready (rs := [21]) (by kernel_rfl) (by simp) (AllReadyIn.cons rfl (fun K hK => ?_) AllReadyIn.nil)
                          go_simp; refine hK _ _ ?_; clear hK K; try simp only [Act.put, List.setIfInBounds_toArray, List.set_cons_zero, List.set_cons_succ]
                          refine wpAnyIn_ready (rs := [22]) (by kernel_rfl) (by simp) (AllReadyIn.cons rfl (fun K hK => ?_) AllReadyIn.nil)
                          go_simp; refine hK _ _ ?_; clear hK K; try simp only [Act.put, List.setIfInBounds_toArray, List.set_cons_zero, List.set_cons_succ]
                          refine wpAnyIn_ready (rs := [23]) (by kernel_rfl) (by simp) (AllReadyIn.cons rfl (fun K hK => ?_) AllReadyIn.nil)
                          go_simp; refine hK _ _ ?_; clear hK K; try simp only [Act.put, List.setIfInBounds_toArray, List.set_cons_zero, List.set_cons_succ]
                          refine wpAnyIn_ready (rs := [24]) (by kernel_rfl) (by simp) (AllReadyIn.cons rfl (fun K hK => ?_) AllReadyIn.nil)
                          go_simp; refine hK _ _ ?_; clear hK K; try simp only [Act.put, List.setIfInBounds_toArray, List.set_cons_zero, List.set_cons_succ]
                          refine wpAnyIn_done (by kernel_rfl) ?_ _
                          (try gi_wp2_with fail)
                          gi_meet
                          exact ⟨by rw [HBD.out]; rfl, hdr⟩
                    · go_simp; refine hK _ _ ?_; clear hK K; try simp only [Act.put, List.setIfInBounds_toArray, List.set_cons_zero, List.set_cons_succ]
                      refine wpAnyIn_ready (rs := [7, 11]) (by kernel_rfl) (by simp) (AllReadyIn.cons rfl (fun K hK => ?_) (AllReadyIn.cons rfl (fun K hK => ?_) AllReadyIn.nil))
                      · go_simp; refine hK _ _ ?_; clear hK K; try simp only [Act.put, List.setIfInBounds_toArray, List.set_cons_zero, List.set_cons_succ]
                        refine wpAnyIn_ready (rs := [8, 11]) (by kernel_rfl) (by simp) (AllReadyIn.cons rfl (fun K hK => ?_) (AllReadyIn.cons rfl (fun K hK => ?_) AllReadyIn.nil))
                        · go_simp; refine hK _ _ ?_; clear hK K; try simp only [Act.put, List.setIfInBounds_toArray, List.set_cons_zero, List.set_cons_succ]
                          refine wpAnyIn_ready (rs := [9, 11]) (by kernel_rfl) (by simp) (AllReadyIn.cons rfl (fun K hK => ?_) (AllReadyIn.cons rfl (fun K hK => ?_) AllReadyIn.nil))
                          · go_simp; refine hK _ _ ?_; clear hK K; try simp only [Act.put, List.setIfInBounds_toArray, List.set_cons_zero, List.set_cons_succ]
                            refine wpAnyIn_ready (rs := [11]) (by kernel_rfl) (by simp) (AllReadyIn.cons rfl (fun K hK => ?_) AllReadyIn.nil)
                            go_simp; refine hK _ _ ?_; clear hK K; try simp only [Act.put, List.setIfInBounds_toArray, List.set_cons_zero, List.set_cons_succ]
                            refine wpAnyIn_ready (rs := [12]) (by kernel_rfl) (by simp) (AllReadyIn.cons rfl (fun K hK => ?_) AllReadyIn.nil)
                            go_simp; refine hK _ _ ?_; clear hK K; try simp only [Act.put, List.setIfInBounds_toArray, List.set_cons_zero, List.set_cons_succ]
                            refine wpAnyIn_ready (rs := [13]) (by kernel_rfl) (by simp) (AllReadyIn.cons rfl (fun K hK => ?_) AllReadyIn.nil)
                            go_simp; refine hK _ _ ?_; clear hK K; try simp only [Act.put, List.setIfInBounds_toArray, List.set_cons_zero, List.set_cons_succ]
                            refine wpAnyIn_ready (rs := [14]) (by kernel_rfl) (by simp) (AllReadyIn.cons rfl (fun K hK => ?_) AllReadyIn.nil)
                            go_simp; refine hK _ _ ?_; clear hK K; try simp only [Act.put, List.setIfInBounds_toArray, List.set_cons_zero, List.set_cons_succ]
                            refine wpAnyIn_ready (rs := [15]) (by kernel_rfl) (by simp) (AllReadyIn.cons rfl (fun K hK => ?_) AllReadyIn.nil)
                            go_simp; refine hK _ _ ?_; clear hK K; try simp only [Act.put, List.setIfInBounds_toArray, List.set_cons_zero, List.set_cons_succ]
                            refine wpAnyIn_ready (rs := [16]) (by kernel_rfl) (by simp) (AllReadyIn.cons rfl (fun K hK => ?_) AllReadyIn.nil)
                            go_simp; refine hK _ _ ?_; clear hK K; try simp only [Act.put, List.setIfInBounds_toArray, List.set_cons_zero, List.set_cons_succ]
                            refine wpAnyIn_ready (rs := [17]) (by kernel_rfl) (by simp) (AllReadyIn.cons rfl (fun K hK => ?_) AllReadyIn.nil)
                            go_simp; refine hK _ _ ?_; clear hK K; try simp only [Act.put, List.setIfInBounds_toArray, List.set_cons_zero, List.set_cons_succ]
                            refine wpAnyIn_ready (rs := [18]) (by kernel_rfl) (by simp) (AllReadyIn.cons rfl (fun K hK => ?_) AllReadyIn.nil)
                            go_simp; refine hK _ _ ?_; clear hK K; try simp only [Act.put, List.setIfInBounds_toArray, List.set_cons_zero, List.set_cons_succ]
                            refine wpAnyIn_ready (rs := [19]) (by kernel_rfl) (by simp) (AllReadyIn.cons rfl (fun K hK => ?_) AllReadyIn.nil)
                            go_simp; refine hK _ _ ?_; clear hK K; try simp only [Act.put, List.setIfInBounds_toArray, List.set_cons_zero, List.set_cons_succ]
                            refine wpAnyIn_ready (rs := [20]) (by kernel_rfl) (by simp) (AllReadyIn.cons rfl (fun K hK => ?_) AllReadyIn.nil)
                            go_simp; refine hK _ _ ?_; clear hK K; try simp only [Act.put, List.setIfInBounds_toArray, List.set_cons_zero, List.set_cons_succ]
                            refine wpAnyIn_ready (rs := [21]) (by kernel_rfl) (by simp) (AllReadyIn.cons rfl (fun K hK => ?_) AllReadyIn.nil)
                            go_simp; refine hK _ _ ?_; clear hK K; try simp only [Act.put, List.setIfInBounds_toArray, List.set_cons_zero, List.set_cons_succ]
                            refine wpAnyIn_ready (rs := [22]) (by kernel_rfl) (by simp) (AllReadyIn.cons rfl (fun K hK => ?_) AllReadyIn.nil)
                            go_simp; refine hK _ _ ?_; clear hK K; try simp only [Act.put, List.setIfInBounds_toArray, List.set_cons_zero, List.set_cons_succ]
                            refine wpAnyIn_ready (rs := [23]) (by kernel_rfl) (by simp) (AllReadyIn.cons rfl (fun K hK => ?_) AllReadyIn.nil)
                            go_simp; refine hK _ _ ?_; clear hK K; try simp only [Act.put, List.setIfInBounds_toArray, List.set_cons_zero, List.set_cons_succ]
                            refine wpAnyIn_ready (rs := [24]) (by kernel_rfl) (by simp) (AllReadyIn.cons rfl (fun K hK => ?_) AllReadyIn.nil)
                            go_simp; refine hK _ _ ?_; clear hK K; try simp only [Act.put, List.setIfInBounds_toArray, List.set_cons_zero, List.set_cons_succ]
                            refine wpAnyIn_done (by kernel_rfl) ?_ _
                            (try gi_wp2_with fail)
                            gi_meet
                            exact ⟨by rw [HBD.out]; rfl, hdr⟩
                          · go_simp; refine hK _ _ ?_; clear hK K; try simp only [Act.put, List.setIfInBounds_toArray, List.set_cons_zero, List.set_cons_succ]
                            refine wpAnyIn_ready (rs := [9]) (by kernel_rfl) (by simp) (AllReadyIn.cons rfl (fun K hK => ?_) AllReadyIn.nil)
                            go_simp; refine hK _ _ ?_; clear hK K; try simp only [Act.put, List.setIfInBounds_toArray, List.set_cons_zero, List.set_cons_succ]
                            refine wpAnyIn_ready (rs := [12]) (by kernel_rfl) (by simp) (AllReadyIn.cons rfl (fun K hK => ?_) AllReadyIn.nil)
                            go_simp; refine hK _ _ ?_; clear hK K; try simp only [Act.put, List.setIfInBounds_toArray, List.set_cons_zero, List.set_cons_succ]
                            refine wpAnyIn_ready (rs := [13]) (by kernel_rfl) (by simp) (AllReadyIn.cons rfl (fun K hK => ?_) AllReadyIn.nil)
                            go_simp; refine hK _ _ ?_; clear hK K; try simp only [Act.put, List.setIfInBounds_toArray, List.set_cons_zero, List.set_cons_succ]
                            refine wpAnyIn_ready (rs := [14]) (by kernel_rfl) (by simp) (AllReadyIn.cons rfl (fun K hK => ?_) AllReadyIn.nil)
                            go_simp; refine hK _ _ ?_; clear hK K; try simp only [Act.put, List.setIfInBounds_toArray, List.set_cons_zero, List.set_cons_succ]
                            refine wpAnyIn_ready (rs := [15]) (by kernel_rfl) (by simp) (AllReadyIn.cons rfl (fun K hK => ?_) AllReadyIn.nil)
                            go_simp; refine hK _ _ ?_; clear hK K; try simp only [Act.put, List.setIfInBounds_toArray, List.set_cons_zero, List.set_cons_succ]
                            refine wpAnyIn_ready (rs := [16]) (by kernel_rfl) (by simp) (AllReadyIn.cons rfl (fun K hK => ?_) AllReadyIn.nil)
                            go_simp; refine hK _ _ ?_; clear hK K; try simp only [Act.put, List.setIfInBounds_toArray, List.set_cons_zero, List.set_cons_succ]
                            refine wpAnyIn_ready (rs := [17]) (by kernel_rfl) (by simp) (AllReadyIn.cons rfl (fun K hK => ?_) AllReadyIn.nil)
                            go_simp; refine hK _ _ ?_; clear hK K; try simp only [Act.put, List.setIfInBounds_toArray, List.set_cons_zero, List.set_cons_succ]
                            refine wpAnyIn_ready (rs := [18]) (by kernel_rfl) (by simp) (AllReadyIn.cons rfl (fun K hK => ?_) AllReadyIn.nil)
                            go_simp; refine hK _ _ ?_; clear hK K; try simp only [Act.put, List.setIfInBounds_toArray, List.set_cons_zero, List.set_cons_succ]
                            refine wpAnyIn_ready (rs := [19]) (by kernel_rfl) (by simp) (AllReadyIn.cons rfl (fun K hK => ?_) AllReadyIn.nil)
                            go_simp; refine hK _ _ ?_; clear hK K; try simp only [Act.put, List.setIfInBounds_toArray, List.set_cons_zero, List.set_cons_succ]
                            refine wpAnyIn_ready (rs := [20]) (by kernel_rfl) (by simp) (AllReadyIn.cons rfl (fun K hK => ?_) AllReadyIn.nil)
                            go_simp; refine hK _ _ ?_; clear hK K; try simp only [Act.put, List.setIfInBounds_toArray, List.set_cons_zero, List.set_cons_succ]
                            refine wpAnyIn_ready (rs := [21]) (by kernel_rfl) (by simp) (AllReadyIn.cons rfl (fun K hK => ?_) AllReadyIn.nil)
                            go_simp; refine hK _ _ ?_; clear hK K; try simp only [Act.put, List.setIfInBounds_toArray, List.set_cons_zero, List.set_cons_succ]
                            refine wpAnyIn_ready (rs := [22]) (by kernel_rfl) (by simp) (AllReadyIn.cons rfl (fun K hK => ?_) AllReadyIn.nil)
                            go_simp; refine hK _ _ ?_; clear hK K; try simp only [Act.put, List.setIfInBounds_toArray, List.set_cons_zero, List.set_cons_succ]
                            refine wpAnyIn_ready (rs := [23]) (by kernel_rfl) (by simp) (AllReadyIn.cons rfl (fun K hK => ?_) AllReadyIn.nil)
                            go_simp; refine hK _ _ ?_; clear hK K; try simp only [Act.put, List.setIfInBounds_toArray, List.set_cons_zero, List.set_cons_succ]
                            refine wpAnyIn_ready (rs := [24]) (by kernel_rfl) (by simp) (AllReadyIn.cons rfl (fun K hK => ?_) AllReadyIn.nil)
                            go_simp; refine hK _ _ ?_; clear hK K; try simp only [Act.put, List.setIfInBounds_toArray, List.set_cons_zero, List.set_cons_succ]
                            refine wpAnyIn_done (by kernel_rfl) ?_ _
                            (try gi_wp2_with fail)
                            gi_meet
                            exact ⟨by rw [HBD.out]; rfl, hdr⟩
                        · go_simp; refine hK _ _ ?_; clear hK K; try simp only [Act.put, List.setIfInBounds_toArray, List.set_cons_zero, List.set_cons_succ]
                          refine wpAnyIn_ready (rs := [8]) (by kernel_rfl) (by simp) (AllReadyIn.cons rfl (fun K hK => ?_) AllReadyIn.nil)
                          go_simp; refine hK _ _ ?_; clear hK K; try simp only [Act.put, List.setIfInBounds_toArray, List.set_cons_zero, List.set_cons_succ]
                          refine wpAnyIn_ready (rs := [9]) (by kernel_rfl) (by simp) (AllReadyIn.cons rfl (fun K hK => ?_) AllReadyIn.nil)
                          go_simp; refine hK _ _ ?_; clear hK K; try simp only [Act.put, List.setIfInBounds_toArray, List.set_cons_zero, List.set_cons_succ]
                          refine wpAnyIn_ready (rs := [12]) (by kernel_rfl) (by simp) (AllReadyIn.cons rfl (fun K hK => ?_) AllReadyIn.nil)
                          go_simp; refine hK _ _ ?_; clear hK K; try simp only [Act.put, List.setIfInBounds_toArray, List.set_cons_zero, List.set_cons_succ]
                          refine wpAnyIn_ready (rs := [13]) (by kernel_rfl) (by simp) (AllReadyIn.cons rfl (fun K hK => ?_) AllReadyIn.nil)
                          go_simp; refine hK _ _ ?_; clear hK K; try simp only [Act.put, List.setIfInBounds_toArray, List.set_cons_zero, List.set_cons_succ]
                          refine wpAnyIn_ready (rs := [14]) (by kernel_rfl) (by simp) (AllReadyIn.cons rfl (fun K hK => ?_) AllReadyIn.nil)
                          go_simp; refine hK _ _ ?_; clear hK K; try simp only [Act.put, List.setIfInBounds_toArray, List.set_cons_zero, List.set_cons_succ]
                          refine wpAnyIn_ready (rs := [15]) (by kernel_rfl) (by simp) (AllReadyIn.cons rfl (fun K hK => ?_) AllReadyIn.nil)
                          go_simp; refine hK _ _ ?_; clear hK K; try simp only [Act.put, List.setIfInBounds_toArray, List.set_cons_zero, List.set_cons_succ]
                          refine wpAnyIn_ready (rs := [16]) (by kernel_rfl) (by simp) (AllReadyIn.cons rfl (fun K hK => ?_) AllReadyIn.nil)
                          go_simp; refine hK _ _ ?_; clear hK K; try simp only [Act.put, List.setIfInBounds_toArray, List.set_cons_zero, List.set_cons_succ]
                          refine wpAnyIn_ready (rs := [17]) (by kernel_rfl) (by simp) (AllReadyIn.cons rfl (fun K hK => ?_) AllReadyIn.nil)
                          go_simp; refine hK _ _ ?_; clear hK K; try simp only [Act.put, List.setIfInBounds_toArray, List.set_cons_zero, List.set_cons_succ]
                          refine wpAnyIn_ready (rs := [18]) (by kernel_rfl) (by simp) (AllReadyIn.cons rfl (fun K hK => ?_) AllReadyIn.nil)
                          go_simp; refine hK _ _ ?_; clear hK K; try simp only [Act.put, List.setIfInBounds_toArray, List.set_cons_zero, List.set_cons_succ]
                          refine wpAnyIn_ready (rs := [19]) (by kernel_rfl) (by simp) (AllReadyIn.cons rfl (fun K hK => ?_) AllReadyIn.nil)
                          go_simp; refine hK _ _ ?_; clear hK K; try simp only [Act.put, List.setIfInBounds_toArray, List.set_cons_zero, List.set_cons_succ]
                          refine wpAnyIn_ready (rs := [20]) (by kernel_rfl) (by simp) (AllReadyIn.cons rfl (fun K hK => ?_) AllReadyIn.nil)
                          go_simp; refine hK _ _ ?_; clear hK K; try simp only [Act.put, List.setIfInBounds_toArray, List.set_cons_zero, List.set_cons_succ]
                          refine wpAnyIn_ready (rs := [21]) (by kernel_rfl) (by simp) (AllReadyIn.cons rfl (fun K hK => ?_) AllReadyIn.nil)
                          go_simp; refine hK _ _ ?_; clear hK K; try simp only [Act.put, List.setIfInBounds_toArray, List.set_cons_zero, List.set_cons_succ]
                          refine wpAnyIn_ready (rs := [22]) (by kernel_rfl) (by simp) (AllReadyIn.cons rfl (fun K hK => ?_) AllReadyIn.nil)
                          go_simp; refine hK _ _ ?_; clear hK K; try simp only [Act.put, List.setIfInBounds_toArray, List.set_cons_zero, List.set_cons_succ]
                          refine wpAnyIn_ready (rs := [23]) (by kernel_rfl) (by simp) (AllReadyIn.cons rfl (fun K hK => ?_) AllReadyIn.nil)
                          go_simp; refine hK _ _ ?_; clear hK K; try simp only [Act.put, List.setIfInBounds_toArray, List.set_cons_zero, List.set_cons_succ]
                          refine wpAnyIn_ready (rs := [24]) (by kernel_rfl) (by simp) (AllReadyIn.cons rfl (fun K hK => ?_) AllReadyIn.nil)
                          go_simp; refine hK _ _ ?_; clear hK K; try simp only [Act.put, List.setIfInBounds_toArray, List.set_cons_zero, List.set_cons_succ]
                          refine wpAnyIn_done (by kernel_rfl) ?_ _
                          (try gi_wp2_with fail)
                          gi_meet
                          exact ⟨by rw [HBD.out]; rfl, hdr⟩
                      · go_simp; refine hK _ _ ?_; clear hK K; try simp only [Act.put, List.setIfInBounds_toArray, List.set_cons_zero, List.set_cons_succ]
                        refine wpAnyIn_ready (rs := [7]) (by kernel_rfl) (by simp) (AllReadyIn.cons rfl (fun K hK => ?_) AllReadyIn.nil)
                        go_simp; refine hK _ _ ?_; clear hK K; try simp only [Act.put, List.setIfInBounds_toArray, List.set_cons_zero, List.set_cons_succ]
                        refine wpAnyIn_ready (rs := [8]) (by kernel_rfl) (by simp) (AllReadyIn.cons rfl (fun K hK => ?_) AllReadyIn.nil)
                        go_simp; refine hK _ _ ?_; clear hK K; try simp only [Act.put, List.setIfInBounds_toArray, List.set_cons_zero, List.set_cons_succ]
                        refine wpAnyIn_ready (rs := [9]) (by kernel_rfl) (by simp) (AllReadyIn.cons rfl (fun K hK => ?_) AllReadyIn.nil)
                        go_simp; refine hK _ _ ?_; clear hK K; try simp only [Act.put, List.setIfInBounds_toArray, List.set_cons_zero, List.set_cons_succ]
                        refine wpAnyIn_ready (rs := [12]) (by kernel_rfl) (by simp) (AllReadyIn.cons rfl (fun K hK => ?_) AllReadyIn.nil)
                        go_simp; refine hK _ _ ?_; clear hK K; try simp only [Act.put, List.setIfInBounds_toArray, List.set_cons_zero, List.set_cons_succ]
                        refine wpAnyIn_ready (rs := [13]) (by kernel_rfl) (by simp) (AllReadyIn.cons rfl (fun K hK => ?_) AllReadyIn.nil)
                        go_simp; refine hK _ _ ?_; clear hK K; try simp only [Act.put, List.setIfInBounds_toArray, List.set_cons_zero, List.set_cons_succ]
                        refine wpAnyIn_ready (rs := [14]) (by kernel_rfl) (by simp) (AllReadyIn.cons rfl (fun K hK => ?_) AllReadyIn.nil)
                        go_simp; refine hK _ _ ?_; clear hK K; try simp only [Act.put, List.setIfInBounds_toArray, List.set_cons_zero, List.set_cons_succ]
                        refine wpAnyIn_ready (rs := [15]) (by kernel_rfl) (by simp) (AllReadyIn.cons rfl (fun K hK => ?_) AllReadyIn.nil)
                        go_simp; refine hK _ _ ?_; clear hK K; try simp only [Act.put, List.setIfInBounds_toArray, List.set_cons_zero, List.set_cons_succ]
                        refine wpAnyIn_ready (rs := [16]) (by kernel_rfl) (by simp) (AllReadyIn.cons rfl (fun K hK => ?_) AllReadyIn.nil)
                        go_simp; refine hK _ _ ?_; clear hK K; try simp only [Act.put, List.setIfInBounds_toArray, List.set_cons_zero, List.set_cons_succ]
                        refine wpAnyIn_ready (rs := [17]) (by kernel_rfl) (by simp) (AllReadyIn.cons rfl (fun K hK => ?_) AllReadyIn.nil)
                        go_simp; refine hK _ _ ?_; clear hK K; try simp only [Act.put, List.setIfInBounds_toArray, List.set_cons_zero, List.set_cons_succ]
                        refine wpAnyIn_ready (rs := [18]) (by kernel_rfl) (by simp) (AllReadyIn.cons rfl (fun K hK => ?_) AllReadyIn.nil)
                        go_simp; refine hK _ _ ?_; clear hK K; try simp only [Act.put, List.setIfInBounds_toArray, List.set_cons_zero, List.set_cons_succ]
                        refine wpAnyIn_ready (rs := [19]) (by kernel_rfl) (by simp) (AllReadyIn.cons rfl (fun K hK => ?_) AllReadyIn.nil)
                        go_simp; refine hK _ _ ?_; clear hK K; try simp only [Act.put, List.setIfInBounds_toArray, List.set_cons_zero, List.set_cons_succ]
                        refine wpAnyIn_ready (rs := [20]) (by kernel_rfl) (by simp) (AllReadyIn.cons rfl (fun K hK => ?_) AllReadyIn.nil)
                        go_simp; refine hK _ _ ?_; clear hK K; try simp only [Act.put, List.setIfInBounds_toArray, List.set_cons_zero, List.set_cons_succ]
                        refine wpAnyIn_ready (rs := [21]) (by kernel_rfl) (by simp) (AllReadyIn.cons rfl (fun K hK => ?_) AllReadyIn.nil)
                        go_simp; refine hK _ _ ?_; clear hK K; try simp only [Act.put, List.setIfInBounds_toArray, List.set_cons_zero, List.set_cons_succ]
                        refine wpAnyIn_ready (rs := [22]) (by kernel_rfl) (by simp) (AllReadyIn.cons rfl (fun K hK => ?_) AllReadyIn.nil)
                        go_simp; refine hK _ _ ?_; clear hK K; try simp only [Act.put, List.setIfInBounds_toArray, List.set_cons_zero, List.set_cons_succ]
                        refine wpAnyIn_ready (rs := [23]) (by kernel_rfl) (by simp) (AllReadyIn.cons rfl (fun K hK => ?_) AllReadyIn.nil)
                        go_simp; refine hK _ _ ?_; clear hK K; try simp only [Act.put, List.setIfInBounds_toArray, List.set_cons_zero, List.set_cons_succ]
                        refine wpAnyIn_ready (rs := [24]) (by kernel_rfl) (by simp) (AllReadyIn.cons rfl (fun K hK => ?_) AllReadyIn.nil)
                        go_simp; refine hK _ _ ?_; clear hK K; try simp only [Act.put, List.setIfInBounds_toArray, List.set_cons_zero, List.set_cons_succ]
                        refine wpAnyIn_done (by kernel_rfl) ?_ _
                        (try gi_wp2_with fail)
                        gi_meet
                        exact ⟨by rw [HBD.out]; rfl, hdr⟩
                  · have hj1 : ((j : Int) == 0) = false := by rw [beq_eq_false_iff_ne]; omega
                    rw [decide_eq_false hj0] at HBD
                    refine wpIn_region_any (by kernel_rfl) ?_
                    (try (change wpAnyIn _ _ _ _ _ _ _ _ _ (World.drew _)))
                    refine wpAnyIn_ready (rs := [0]) (by kernel_rfl) (by simp) (AllReadyIn.cons rfl (fun K hK => ?_) AllReadyIn.nil)
                    go_simp; refine hK _ _ ?_; clear hK K; try simp only [Act.put, List.setIfInBounds_toArray, List.set_cons_zero, List.set_cons_succ]
                    refine wpAnyIn_ready (rs := [1]) (by kernel_rfl) (by simp) (AllReadyIn.cons rfl (fun K hK => ?_) AllReadyIn.nil)
                    go_simp; refine hK _ _ ?_; clear hK K; try simp only [Act.put, List.setIfInBounds_toArray, List.set_cons_zero, List.set_cons_succ]
                    refine wpAnyIn_ready (rs := [2]) (by kernel_rfl) (by simp) (AllReadyIn.cons rfl (fun K hK => ?_) AllReadyIn.nil)
                    go_simp; refine hK _ _ ?_; clear hK K; try simp only [Act.put, List.setIfInBounds_toArray, List.set_cons_zero, List.set_cons_succ]
                    refine wpAnyIn_ready (rs := [3]) (by kernel_rfl) (by simp) (AllReadyIn.cons rfl (fun K hK => ?_) AllReadyIn.nil)
                    go_simp; refine hK _ _ ?_; clear hK K; try simp only [Act.put, List.setIfInBounds_toArray, List.set_cons_zero, List.set_cons_succ]
                    refine wpAnyIn_ready (rs := [4]) (by kernel_rfl) (by simp) (AllReadyIn.cons rfl (fun K hK => ?_) AllReadyIn.nil)
                    go_simp; refine hK _ _ ?_; clear hK K; try simp only [Act.put, List.setIfInBounds_toArray, List.set_cons_zero, List.set_cons_succ]
                    refine wpAnyIn_ready (rs := [5]) (by kernel_rfl) (by simp) (AllReadyIn.cons rfl (fun K hK => ?_) AllReadyIn.nil)
                    go_simp; refine hK _ _ ?_; clear hK K; try simp only [Act.put, List.setIfInBounds_toArray, List.set_cons_zero, List.set_cons_succ]
                    refine wpAnyIn_ready (rs := [6]) (by kernel_rfl) (by simp) (AllReadyIn.cons rfl (fun K hK => ?_) AllReadyIn.nil)
                    go_simp; refine hK _ _ ?_; clear hK K; try simp only [Act.put, List.setIfInBounds_toArray, List.set_cons_zero, List.set_cons_succ]
                    refine wpAnyIn_ready (rs := [7, 10]) (by kernel_rfl) (by simp) (AllReadyIn.cons rfl (fun K hK => ?_) (AllReadyIn.cons rfl (fun K hK => ?_) AllReadyIn.nil))
                    · go_simp; refine hK _ _ ?_; clear hK K; try simp only [Act.put, List.setIfInBounds_toArray, List.set_cons_zero, List.set_cons_succ]
                      refine wpAnyIn_ready (rs := [8, 10]) (by kernel_rfl) (by simp) (AllReadyIn.cons rfl (fun K hK => ?_) (AllReadyIn.cons rfl (fun K hK => ?_) AllReadyIn.nil))
                      · go_simp; refine hK _ _ ?_; clear hK K; try simp only [Act.put, List.setIfInBounds_toArray, List.set_cons_zero, List.set_cons_succ]
                        refine wpAnyIn_ready (rs := [9, 10]) (by kernel_rfl) (by simp) (AllReadyIn.cons rfl (fun K hK => ?_) (AllReadyIn.cons rfl (fun K hK => ?_) AllReadyIn.nil))
                        · go_simp; refine hK _ _ ?_; clear hK K; try simp only [Act.put, List.setIfInBounds_toArray, List.set_cons_zero, List.set_cons_succ]
                          refine wpAnyIn_ready (rs := [10]) (by kernel_rfl) (by simp) (AllReadyIn.cons rfl (fun K hK => ?_) AllReadyIn.nil)
                          go_simp; refine hK _ _ ?_; clear hK K; try simp only [Act.put, List.setIfInBounds_toArray, List.set_cons_zero, List.set_cons_succ]
                          refine wpAnyIn_ready (rs := [11]) (by kernel_rfl) (by simp) (AllReadyIn.cons rfl (fun K hK => ?_) AllReadyIn.nil)
                          go_simp; refine hK _ _ ?_; clear hK K; try simp only [Act.put, List.setIfInBounds_toArray, List.set_cons_zero, List.set_cons_succ]
                          refine wpAnyIn_ready (rs := [12]) (by kernel_rfl) (by simp) (AllReadyIn.cons rfl (fun K hK => ?_) AllReadyIn.nil)
                          go_simp; refine hK _ _ ?_; clear hK K; try simp only [Act.put, List.setIfInBounds_toArray, List.set_cons_zero, List.set_cons_succ]
                          refine wpAnyIn_ready (rs := [13]) (by kernel_rfl) (by simp) (AllReadyIn.cons rfl (fun K hK => ?_) AllReadyIn.nil)
                          go_simp; refine hK _ _ ?_; clear hK K; try simp only [Act.put, List.setIfInBounds_toArray, List.set_cons_zero, List.set_cons_succ]
                          refine wpAnyIn_ready (rs := [14]) (by kernel_rfl) (by simp) (AllReadyIn.cons rfl (fun K hK => ?_) AllReadyIn.nil)
                          go_simp; refine hK _ _ ?_; clear hK K; try simp only [Act.put, List.setIfInBounds_toArray, List.set_cons_zero, List.set_cons_succ]
                          refine wpAnyIn_ready (rs := [15]) (by kernel_rfl) (by simp) (AllReadyIn.cons rfl (fun K hK => ?_) AllReadyIn.nil)
                          go_simp; refine hK _ _ ?_; clear hK K; try simp only [Act.put, List.setIfInBounds_toArray, List.set_cons_zero, List.set_cons_succ]
                          refine wpAnyIn_ready (rs := [16]) (by kernel_rfl) (by simp) (AllReadyIn.cons rfl (fun K hK => ?_) AllReadyIn.nil)
                          go_simp; refine hK _ _ ?_; clear hK K; try simp only [Act.put, List.setIfInBounds_toArray, List.set_cons_zero, List.set_cons_succ]
                          refine wpAnyIn_ready (rs := [17]) (by kernel_rfl) (by simp) (AllReadyIn.cons rfl (fun K hK => ?_) AllReadyIn.nil)
                          go_simp; refine hK _ _ ?_; clear hK K; try simp only [Act.put, List.setIfInBounds_toArray, List.set_cons_zero, List.set_cons_succ]
                          refine wpAnyIn_ready (rs := [18]) (by kernel_rfl) (by simp) (AllReadyIn.cons rfl (fun K hK => ?_) AllReadyIn.nil)
                          go_simp; refine hK _ _ ?_; clear hK K; try simp only [Act.put, List.setIfInBounds_toArray, List.set_cons_zero, List.set_cons_succ]
                          refine wpAnyIn_ready (rs := [19]) (by kernel_rfl) (by simp) (AllReadyIn.cons rfl (fun K hK => ?_) AllReadyIn.nil)
                          go_simp; refine hK _ _ ?_; clear hK K; try simp only [Act.put, List.setIfInBounds_toArray, List.set_cons_zero, List.set_cons_succ]
                          refine wpAnyIn_ready (rs := [20]) (by kernel_rfl) (by simp) (AllReadyIn.cons rfl (fun K hK => ?_) AllReadyIn.nil)
                          go_simp; refine hK _ _ ?_; clear hK K; try simp only [Act.put, List.setIfInBounds_toArray, List.set_cons_zero, List.set_cons_succ]
                          refine wpAnyIn_ready (rs := [21]) (by kernel_rfl) (by simp) (AllReadyIn.cons rfl (fun K hK => ?_) AllReadyIn.nil)
                          go_simp; refine hK _ _ ?_; clear hK K; try simp only [Act.put, List.setIfInBounds_toArray, List.set_cons_zero, List.set_cons_succ]
                          refine wpAnyIn_ready (rs := [22]) (by kernel_rfl) (by simp) (AllReadyIn.cons rfl (fun K hK => ?_) AllReadyIn.nil)
                          go_simp; refine hK _ _ ?_; clear hK K; try simp only [Act.put, List.setIfInBounds_toArray, List.set_cons_zero, List.set_cons_succ]
                          refine wpAnyIn_ready (rs := [23]) (by kernel_rfl) (by simp) (AllReadyIn.cons rfl (fun K hK => ?_) AllReadyIn.nil)
                          go_simp; refine hK _ _ ?_; clear hK K; try simp only [Act.put, List.setIfInBounds_toArray, List.set_cons_zero, List.set_cons_succ]
                          refine wpAnyIn_ready (rs := [24]) (by kernel_rfl) (by simp) (AllReadyIn.cons rfl (fun K hK => ?_) AllReadyIn.nil)
                          go_simp; refine hK _ _ ?_; clear hK K; try simp only [Act.put, List.setIfInBounds_toArray, List.set_cons_zero, List.set_cons_succ]
                          refine wpAnyIn_done (by kernel_rfl) ?_ _
                          (try gi_wp2_with fail)
                          gi_meet
                          exact ⟨by rw [HBD.out]; rfl, hdr⟩
                        · go_simp; refine hK _ _ ?_; clear hK K; try simp only [Act.put, List.setIfInBounds_toArray, List.set_cons_zero, List.set_cons_succ]
                          refine wpAnyIn_ready (rs := [9, 11]) (by kernel_rfl) (by simp) (AllReadyIn.cons rfl (fun K hK => ?_) (AllReadyIn.cons rfl (fun K hK => ?_) AllReadyIn.nil))
                          · go_simp; refine hK _ _ ?_; clear hK K; try simp only [Act.put, List.setIfInBounds_toArray, List.set_cons_zero, List.set_cons_succ]
                            refine wpAnyIn_ready (rs := [11]) (by kernel_rfl) (by simp) (AllReadyIn.cons rfl (fun K hK => ?_) AllReadyIn.nil)
                            go_simp; refine hK _ _ ?_; clear hK K; try simp only [Act.put, List.setIfInBounds_toArray, List.set_cons_zero, List.set_cons_succ]
                            refine wpAnyIn_ready (rs := [12]) (by kernel_rfl) (by simp) (AllReadyIn.cons rfl (fun K hK => ?_) AllReadyIn.nil)
                            go_simp; refine hK _ _ ?_; clear hK K; try simp only [Act.put, List.setIfInBounds_toArray, List.set_cons_zero, List.set_cons_succ]
                            refine wpAnyIn_ready (rs := [13]) (by kernel_rfl) (by simp) (AllReadyIn.cons rfl (fun K hK => ?_) AllReadyIn.nil)
                            go_simp; refine hK _ _ ?_; clear hK K; try simp only [Act.put, List.setIfInBounds_toArray, List.set_cons_zero, List.set_cons_succ]
                            refine wpAnyIn_ready (rs := [14]) (by kernel_rfl) (by simp) (AllReadyIn.cons rfl (fun K hK => ?_) AllReadyIn.nil)
                            go_simp; refine hK _ _ ?_; clear hK K; try simp only [Act.put, List.setIfInBounds_toArray, List.set_cons_zero, List.set_cons_succ]
                            refine wpAnyIn_ready (rs := [15]) (by kernel_rfl) (by simp) (AllReadyIn.cons rfl (fun K hK => ?_) AllReadyIn.nil)
                            go_simp; refine hK _ _ ?_; clear hK K; try simp only [Act.put, List.setIfInBounds_toArray, List.set_cons_zero, List.set_cons_succ]
                            refine wpAnyIn_ready (rs := [16]) (by kernel_rfl) (by simp) (AllReadyIn.cons rfl (fun K hK => ?_) AllReadyIn.nil)
                            go_simp; refine hK _ _ ?_; clear hK K; try simp only [Act.put, List.setIfInBounds_toArray, List.set_cons_zero, List.set_cons_succ]
                            refine wpAnyIn_ready (rs := [17]) (by kernel_rfl) (by simp) (AllReadyIn.cons rfl (fun K hK => ?_) AllReadyIn.nil)
                            go_simp; refine hK _ _ ?_; clear hK K; try simp only [Act.put, List.setIfInBounds_toArray, List.set_cons_zero, List.set_cons_succ]
                            refine wpAnyIn_ready (rs := [18]) (by kernel_rfl) (by simp) (AllReadyIn.cons rfl (fun K hK => ?_) AllReadyIn.nil)
                            go_simp; refine hK _ _ ?_; clear hK K; try simp only [Act.put, List.setIfInBounds_toArray, List.set_cons_zero, List.set_cons_succ]
                            refine wpAnyIn_ready (rs := [19]) (by kernel_rfl) (by simp) (AllReadyIn.cons rfl (fun K hK => ?_) AllReadyIn.nil)
                            go_simp; refine hK _ _ ?_; clear hK K; try simp only [Act.put, List.setIfInBounds_toArray, List.set_cons_zero, List.set_cons_succ]
                            refine wpAnyIn_ready (rs := [20]) (by kernel_rfl) (by simp) (AllReadyIn.cons rfl (fun K hK => ?_) AllReadyIn.nil)
                            go_simp; refine hK _ _ ?_; clear hK K; try simp only [Act.put, List.setIfInBounds_toArray, List.set_cons_zero, List.set_cons_succ]
                            refine wpAnyIn_ready (rs := [21]) (by kernel_rfl) (by simp) (AllReadyIn.cons rfl (fun K hK => ?_) AllReadyIn.nil)
                            go_simp; refine hK _ _ ?_; clear hK K; try simp only [Act.put, List.setIfInBounds_toArray, List.set_cons_zero, List.set_cons_succ]
                            refine wpAnyIn_ready (rs := [22]) (by kernel_rfl) (by simp) (AllReadyIn.cons rfl (fun K hK => ?_) AllReadyIn.nil)
                            go_simp; refine hK _ _ ?_; clear hK K; try simp only [Act.put, List.setIfInBounds_toArray, List.set_cons_zero, List.set_cons_succ]
                            refine wpAnyIn_ready (rs := [23]) (by kernel_rfl) (by simp) (AllReadyIn.cons rfl (fun K hK => ?_) AllReadyIn.nil)
                            go_simp; refine hK _ _ ?_; clear hK K; try simp only [Act.put, List.setIfInBounds_toArray, List.set_cons_zero, List.set_cons_succ]
                            refine wpAnyIn_ready (rs := [24]) (by kernel_rfl) (by simp) (AllReadyIn.cons rfl (fun K hK => ?_) AllReadyIn.nil)
                            go_simp; refine hK _ _ ?_; clear hK K; try simp only [Act.put, List.setIfInBounds_toArray, List.set_cons_zero, List.set_cons_succ]
                            refine wpAnyIn_done (by kernel_rfl) ?_ _
                            (try gi_wp2_with fail)
                            gi_meet
                            exact ⟨by rw [HBD.out]; rfl, hdr⟩
                          · go_simp; refine hK _ _ ?_; clear hK K; try simp only [Act.put, List.setIfInBounds_toArray, List.set_cons_zero, List.set_cons_succ]
                            refine wpAnyIn_ready (rs := [9]) (by kernel_rfl) (by simp) (AllReadyIn.cons rfl (fun K hK => ?_) AllReadyIn.nil)
                            go_simp; refine hK _ _ ?_; clear hK K; try simp only [Act.put, List.setIfInBounds_toArray, List.set_cons_zero, List.set_cons_succ]
                            refine wpAnyIn_ready (rs := [12]) (by kernel_rfl) (by simp) (AllReadyIn.cons rfl (fun K hK => ?_) AllReadyIn.nil)
                            go_simp; refine hK _ _ ?_; clear hK K; try simp only [Act.put, List.setIfInBounds_toArray, List.set_cons_zero, List.set_cons_succ]
                            refine wpAnyIn_ready (rs := [13]) (by kernel_rfl) (by simp) (AllReadyIn.cons rfl (fun K hK => ?_) AllReadyIn.nil)
                            go_simp; refine hK _ _ ?_; clear hK K; try simp only [Act.put, List.setIfInBounds_toArray, List.set_cons_zero, List.set_cons_succ]
                            refine wpAnyIn_ready (rs := [14]) (by kernel_rfl) (by simp) (AllReadyIn.cons rfl (fun K hK => ?_) AllReadyIn.nil)
                            go_simp; refine hK _ _ ?_; clear hK K; try simp only [Act.put, List.setIfInBounds_toArray, List.set_cons_zero, List.set_cons_succ]
                            refine wpAnyIn_ready (rs := [15]) (by kernel_rfl) (by simp) (AllReadyIn.cons rfl (fun K hK => ?_) AllReadyIn.nil)
                            go_simp; refine hK _ _ ?_; clear hK K; try simp only [Act.put, List.setIfInBounds_toArray, List.set_cons_zero, List.set_cons_succ]
                            refine wpAnyIn_ready (rs := [16]) (by kernel_rfl) (by simp) (AllReadyIn.cons rfl (fun K hK => ?_) AllReadyIn.nil)
                            go_simp; refine hK _ _ ?_; clear hK K; try simp only [Act.put, List.setIfInBounds_toArray, List.set_cons_zero, List.set_cons_succ]
                            refine wpAnyIn_ready (rs := [17]) (by kernel_rfl) (by simp) (AllReadyIn.cons rfl (fun K hK => ?_) AllReadyIn.nil)
                            go_simp; refine hK _ _ ?_; clear hK K; try simp only [Act.put, List.setIfInBounds_toArray, List.set_cons_zero, List.set_cons_succ]
                            refine wpAnyIn_ready (rs := [18]) (by kernel_rfl) (by simp) (AllReadyIn.cons rfl (fun K hK => ?_) AllReadyIn.nil)
                            go_simp; refine hK _ _ ?_; clear hK K; try simp only [Act.put, List.setIfInBounds_toArray, List.set_cons_zero, List.set_cons_succ]
                            refine wpAnyIn_ready (rs := [19]) (by kernel_rfl) (by simp) (AllReadyIn.cons rfl (fun K hK => ?_) AllReadyIn.nil)
                            go_simp; refine hK _ _ ?_; clear hK K; try simp only [Act.put, List.setIfInBounds_toArray, List.set_cons_zero, List.set_cons_succ]
                            refine wpAnyIn_ready (rs := [20]) (by kernel_rfl) (by simp) (AllReadyIn.cons rfl (fun K hK => ?_) AllReadyIn.nil)
                            go_simp; refine hK _ _ ?_; clear hK K; try simp only [Act.put, List.setIfInBounds_toArray, List.set_cons_zero, List.set_cons_succ]
                            refine wpAnyIn_ready (rs := [21]) (by kernel_rfl) (by simp) (AllReadyIn.cons rfl (fun K hK => ?_) AllReadyIn.nil)
                            go_simp; refine hK _ _ ?_; clear hK K; try simp only [Act.put, List.setIfInBounds_toArray, List.set_cons_zero, List.set_cons_succ]
                            refine wpAnyIn_ready (rs := [22]) (by kernel_rfl) (by simp) (AllReadyIn.cons rfl (fun K hK => ?_) AllReadyIn.nil)
                            go_simp; refine hK _ _ ?_; clear hK K; try simp only [Act.put, List.setIfInBounds_toArray, List.set_cons_zero, List.set_cons_succ]
                            refine wpAnyIn_ready (rs := [23]) (by kernel_rfl) (by simp) (AllReadyIn.cons rfl (fun K hK => ?_) AllReadyIn.nil)
                            go_simp; refine hK _ _ ?_; clear hK K; try simp only [Act.put, List.setIfInBounds_toArray, List.set_cons_zero, List.set_cons_succ]
                            refine wpAnyIn_ready (rs := [24]) (by kernel_rfl) (by simp) (AllReadyIn.cons rfl (fun K hK => ?_) AllReadyIn.nil)
                            go_simp; refine hK _ _ ?_; clear hK K; try simp only [Act.put, List.setIfInBounds_toArray, List.set_cons_zero, List.set_cons_succ]
                            refine wpAnyIn_done (by kernel_rfl) ?_ _
                            (try gi_wp2_with fail)
                            gi_meet
                            exact ⟨by rw [HBD.out]; rfl, hdr⟩
                      · go_simp; refine hK _ _ ?_; clear hK K; try simp only [Act.put, List.setIfInBounds_toArray, List.set_cons_zero, List.set_cons_succ]
                        refine wpAnyIn_ready (rs := [8, 11]) (by kernel_rfl) (by simp) (AllReadyIn.cons rfl (fun K hK => ?_) (AllReadyIn.cons rfl (fun K hK => ?_) AllReadyIn.nil))
                        · go_simp; refine hK _ _ ?_; clear hK K; try simp only [Act.put, List.setIfInBounds_toArray, List.set_cons_zero, List.set_cons_succ]
                          refine wpAnyIn_ready (rs := [9, 11]) (by kernel_rfl) (by simp) (AllReadyIn.cons rfl (fun K hK => ?_) (AllReadyIn.cons rfl (fun K hK => ?_) AllReadyIn.nil))
                          · go_simp; refine hK _ _ ?_; clear hK K; try simp only [Act.put, List.setIfInBounds_toArray, List.set_cons_zero, List.set_cons_succ]
                            refine wpAnyIn_ready (rs := [11]) (by kernel_rfl) (by simp) (AllReadyIn.cons rfl (fun K hK => ?_) AllReadyIn.nil)
                            go_simp; refine hK _ _ ?_; clear hK K; try simp only [Act.put, List.setIfInBounds_toArray, List.set_cons_zero, List.set_cons_succ]
                            refine wpAnyIn_ready (rs := [12]) (by kernel_rfl) (by simp) (AllReadyIn.cons rfl (fun K hK => ?_) AllReadyIn.nil)
                            go_simp; refine hK _ _ ?_; clear hK K; try simp only [Act.put, List.setIfInBounds_toArray, List.set_cons_zero, List.set_cons_succ]
                            refine wpAnyIn_ready (rs := [13]) (by kernel_rfl) (by simp) (AllReadyIn.cons rfl (fun K hK => ?_) AllReadyIn.nil)
                            go_simp; refine hK _ _ ?_; clear hK K; try simp only [Act.put, List.setIfInBounds_toArray, List.set_cons_zero, List.set_cons_succ]
                            refine wpAnyIn_ready (rs := [14]) (by kernel_rfl) (by simp) (AllReadyIn.cons rfl (fun K hK => ?_) AllReadyIn.nil)
                            go_simp; refine hK _ _ ?_; clear hK K; try simp only [Act.put, List.setIfInBounds_toArray, List.set_cons_zero, List.set_cons_succ]
                            refine wpAnyIn_ready (rs := [15]) (by kernel_rfl) (by simp) (AllReadyIn.cons rfl (fun K hK => ?_) AllReadyIn.nil)
                            go_simp; refine hK _ _ ?_; clear hK K; try simp only [Act.put, List.setIfInBounds_toArray, List.set_cons_zero, List.set_cons_succ]
                            refine wpAnyIn_ready (rs := [16]) (by kernel_rfl) (by simp) (AllReadyIn.cons rfl (fun K hK => ?_) AllReadyIn.nil)
                            go_simp; refine hK _ _ ?_; clear hK K; try simp only [Act.put, List.setIfInBounds_toArray, List.set_cons_zero, List.set_cons_succ]
                            refine wpAnyIn_ready (rs := [17]) (by kernel_rfl) (by simp) (AllReadyIn.cons rfl (fun K hK => ?_) AllReadyIn.nil)
                            go_simp; refine hK _ _ ?_; clear hK K; try simp only [Act.put, List.setIfInBounds_toArray, List.set_cons_zero, List.set_cons_succ]
                            refine wpAnyIn_ready (rs := [18]) (by kernel_rfl) (by simp) (AllReadyIn.cons rfl (fun K hK => ?_) AllReadyIn.nil)
                            go_simp; refine hK _ _ ?_; clear hK K; try simp only [Act.put, List.setIfInBounds_toArray, List.set_cons_zero, List.set_cons_succ]
                            refine wpAnyIn_ready (rs := [19]) (by kernel_rfl) (by simp) (AllReadyIn.cons rfl (fun K hK => ?_) AllReadyIn.nil)
                            go_simp; refine hK _ _ ?_; clear hK K; try simp only [Act.put, List.setIfInBounds_toArray, List.set_cons_zero, List.set_cons_succ]
                            refine wpAnyIn_ready (rs := [20]) (by kernel_rfl) (by simp) (AllReadyIn.cons rfl (fun K hK => ?_) AllReadyIn.nil)
                            go_simp; refine hK _ _ ?_; clear hK K; try simp only [Act.put, List.setIfInBounds_toArray, List.set_cons_zero, List.set_cons_succ]
                            refine wpAnyIn_ready (rs := [21]) (by kernel_rfl) (by simp) (AllReadyIn.cons rfl (fun K hK => ?_) AllReadyIn.nil)
                            go_simp; refine hK _ _ ?_; clear hK K; try simp only [Act.put, List.setIfInBounds_toArray, List.set_cons_zero, List.set_cons_succ]
                            refine wpAnyIn_ready (rs := [22]) (by kernel_rfl) (by simp) (AllReadyIn.cons rfl (fun K hK => ?_) AllReadyIn.nil)
                            go_simp; refine hK _ _ ?_; clear hK K; try simp only [Act.put, List.setIfInBounds_toArray, List.set_cons_zero, List.set_cons_succ]
                            refine wpAnyIn_ready (rs := [23]) (by kernel_rfl) (by simp) (AllReadyIn.cons rfl (fun K hK => ?_) AllReadyIn.nil)
                            go_simp; refine hK _ _ ?_; clear hK K; try simp only [Act.put, List.setIfInBounds_toArray, List.set_cons_zero, List.set_cons_succ]
                            refine wpAnyIn_ready (rs := [24]) (by kernel_rfl) (by simp) (AllReadyIn.cons rfl (fun K hK => ?_) AllReadyIn.nil)
                            go_simp; refine hK _ _ ?_; clear hK K; try simp only [Act.put, List.setIfInBounds_toArray, List.set_cons_zero, List.set_cons_succ]
                            refine wpAnyIn_done (by kernel_rfl) ?_ _
                            (try gi_wp2_with fail)
                            gi_meet
                            exact ⟨by rw [HBD.out]; rfl, hdr⟩
                          · go_simp; refine hK _ _ ?_; clear hK K; try simp only [Act.put, List.setIfInBounds_toArray, List.set_cons_zero, List.set_cons_succ]
                            refine wpAnyIn_ready (rs := [9]) (by kernel_rfl) (by simp) (AllReadyIn.cons rfl (fun K hK => ?_) AllReadyIn.nil)
                            go_simp; refine hK _ _ ?_; clear hK K; try simp only [Act.put, List.setIfInBounds_toArray, List.set_cons_zero, List.set_cons_succ]
                            refine wpAnyIn_ready (rs := [12]) (by kernel_rfl) (by simp) (AllReadyIn.cons rfl (fun K hK => ?_) AllReadyIn.nil)
                            go_simp; refine hK _ _ ?_; clear hK K; try simp only [Act.put, List.setIfInBounds_toArray, List.set_cons_zero, List.set_cons_succ]
                            refine wpAnyIn_ready (rs := [13]) (by kernel_rfl) (by simp) (AllReadyIn.cons rfl (fun K hK => ?_) AllReadyIn.nil)
                            go_simp; refine hK _ _ ?_; clear hK K; try simp only [Act.put, List.setIfInBounds_toArray, List.set_cons_zero, List.set_cons_succ]
                            refine wpAnyIn_ready (rs := [14]) (by kernel_rfl) (by simp) (AllReadyIn.cons rfl (fun K hK => ?_) AllReadyIn.nil)
                            go_simp; refine hK _ _ ?_; clear hK K; try simp only [Act.put, List.setIfInBounds_toArray, List.set_cons_zero, List.set_cons_succ]
                            refine wpAnyIn_ready (rs := [15]) (by kernel_rfl) (by simp) (AllReadyIn.cons rfl (fun K hK => ?_) AllReadyIn.nil)
                            go_simp; refine hK _ _ ?_; clear hK K; try simp only [Act.put, List.setIfInBounds_toArray, List.set_cons_zero, List.set_cons_succ]
                            refine wpAnyIn_ready (rs := [16]) (by kernel_rfl) (by simp) (AllReadyIn.cons rfl (fun K hK => ?_) AllReadyIn.nil)
                            go_simp; refine hK _ _ ?_; clear hK K; try simp only [Act.put, List.setIfInBounds_toArray, List.set_cons_zero, List.set_cons_succ]
                            refine wpAnyIn_ready (rs := [17]) (by kernel_rfl) (by simp) (AllReadyIn.cons rfl (fun K hK => ?_) AllReadyIn.nil)
                            go_simp; refine hK _ _ ?_; clear hK K; try simp only [Act.put, List.setIfInBounds_toArray, List.set_cons_zero, List.set_cons_succ]
                            refine wpAnyIn_ready (rs := [18]) (by kernel_rfl) (by simp) (AllReadyIn.cons rfl (fun K hK => ?_) AllReadyIn.nil)
                            go_simp; refine hK _ _ ?_; clear hK K; try simp only [Act.put, List.setIfInBounds_toArray, List.set_cons_zero, List.set_cons_succ]
                            refine wpAnyIn_ready (rs := [19]) (by kernel_rfl) (by simp) (AllReadyIn.cons rfl (fun K hK => ?_) AllReadyIn.nil)
                            go_simp; refine hK _ _ ?_; clear hK K; try simp only [Act.put, List.setIfInBounds_toArray, List.set_cons_zero, List.set_cons_succ]
                            refine wpAnyIn_ready (rs := [20]) (by kernel_rfl) (by simp) (AllReadyIn.cons rfl (fun K hK => ?_) AllReadyIn.nil)
                            go_simp; refine hK _ _ ?_; clear hK K; try simp only [Act.put, List.setIfInBounds_toArray, List.set_cons_zero, List.set_cons_succ]
                            refine wpAnyIn_ready (rs := [21]) (by kernel_rfl) (by simp) (AllReadyIn.cons rfl (fun K hK => ?_) AllReadyIn.nil)
                            go_simp; refine hK _ _ ?_; clear hK K; try simp only [Act.put, List.setIfInBounds_toArray, List.set_cons_zero, List.set_cons_succ]
                            refine wpAnyIn_ready (rs := [22]) (by kernel_rfl) (by simp) (AllReadyIn.cons rfl (fun K hK => ?_) AllReadyIn.nil)
                            go_simp; refine hK _ _ ?_; clear hK K; try simp only [Act.put, List.setIfInBounds_toArray, List.set_cons_zero, List.set_cons_succ]
                            refine wpAnyIn_ready (rs := [23]) (by kernel_rfl) (by simp) (AllReadyIn.cons rfl (fun K hK => ?_) AllReadyIn.nil)
                            go_simp; refine hK _ _ ?_; clear hK K; try simp only [Act.put, List.setIfInBounds_toArray, List.set_cons_zero, List.set_cons_succ]
                            refine wpAnyIn_ready (rs := [24]) (by kernel_rfl) (by simp) (AllReadyIn.cons rfl (fun K hK => ?_) AllReadyIn.nil)
                            go_simp; refine hK _ _ ?_; clear hK K; try simp only [Act.put, List.setIfInBounds_toArray, List.set_cons_zero, List.set_cons_succ]
                            refine wpAnyIn_done (by kernel_rfl) ?_ _
                            (try gi_wp2_with fail)
                            gi_meet
                            exact ⟨by rw [HBD.out]; rfl, hdr⟩
                        · go_simp; refine hK _ _ ?_; clear hK K; try simp only [Act.put, List.setIfInBounds_toArray, List.set_cons_zero, List.set_cons_succ]
                          refine wpAnyIn_ready (rs := [8]) (by kernel_rfl) (by simp) (AllReadyIn.cons rfl (fun K hK => ?_) AllReadyIn.nil)
                          go_simp; refine hK _ _ ?_; clear hK K; try simp only [Act.put, List.setIfInBounds_toArray, List.set_cons_zero, List.set_cons_succ]
                          refine wpAnyIn_ready (rs := [9]) (by kernel_rfl) (by simp) (AllReadyIn.cons rfl (fun K hK => ?_) AllReadyIn.nil)
                          go_simp; refine hK _ _ ?_; clear hK K; try simp only [Act.put, List.setIfInBounds_toArray, List.set_cons_zero, List.set_cons_succ]
                          refine wpAnyIn_ready (rs := [12]) (by kernel_rfl) (by simp) (AllReadyIn.cons rfl (fun K hK => ?_) AllReadyIn.nil)
                          go_simp; refine hK _ _ ?_; clear hK K; try simp only [Act.put, List.setIfInBounds_toArray, List.set_cons_zero, List.set_cons_succ]
                          refine wpAnyIn_ready (rs := [13]) (by kernel_rfl) (by simp) (AllReadyIn.cons rfl (fun K hK => ?_) AllReadyIn.nil)
                          go_simp; refine hK _ _ ?_; clear hK K; try simp only [Act.put, List.setIfInBounds_toArray, List.set_cons_zero, List.set_cons_succ]
                          refine wpAnyIn_ready (rs := [14]) (by kernel_rfl) (by simp) (AllReadyIn.cons rfl (fun K hK => ?_) AllReadyIn.nil)
                          go_simp; refine hK _ _ ?_; clear hK K; try simp only [Act.put, List.setIfInBounds_toArray, List.set_cons_zero, List.set_cons_succ]
                          refine wpAnyIn_ready (rs := [15]) (by kernel_rfl) (by simp) (AllReadyIn.cons rfl (fun K hK => ?_) AllReadyIn.nil)
                          go_simp; refine hK _ _ ?_; clear hK K; try simp only [Act.put, List.setIfInBounds_toArray, List.set_cons_zero, List.set_cons_succ]
                          refine wpAnyIn_ready (rs := [16]) (by kernel_rfl) (by simp) (AllReadyIn.cons rfl (fun K hK => ?_) AllReadyIn.nil)
                          go_simp; refine hK _ _ ?_; clear hK K; try simp only [Act.put, List.setIfInBounds_toArray, List.set_cons_zero, List.set_cons_succ]
                          refine wpAnyIn_ready (rs := [17]) (by kernel_rfl) (by simp) (AllReadyIn.cons rfl (fun K hK => ?_) AllReadyIn.nil)
                          go_simp; refine hK _ _ ?_; clear hK K; try simp only [Act.put, List.setIfInBounds_toArray, List.set_cons_zero, List.set_cons_succ]
                          refine wpAnyIn_ready (rs := [18]) (by kernel_rfl) (by simp) (AllReadyIn.cons rfl (fun K hK => ?_) AllReadyIn.nil)
                          go_simp; refine hK _ _ ?_; clear hK K; try simp only [Act.put, List.setIfInBounds_toArray, List.set_cons_zero, List.set_cons_succ]
                          refine wpAnyIn_ready (rs := [19]) (by kernel_rfl) (by simp) (AllReadyIn.cons rfl (fun K hK => ?_) AllReadyIn.nil)
                          go_simp; refine hK _ _ ?_; clear hK K; try simp only [Act.put, List.setIfInBounds_toArray, List.set_cons_zero, List.set_cons_succ]
                          refine wpAnyIn_ready (rs := [20]) (by kernel_rfl) (by simp) (AllReadyIn.cons rfl (fun K hK => ?_) AllReadyIn.nil)
                          go_simp; refine hK _ _ ?_; clear hK K; try simp only [Act.put, List.setIfInBounds_toArray, List.set_cons_zero, List.set_cons_succ]
                          refine wpAnyIn_ready (rs := [21]) (by kernel_rfl) (by simp) (AllReadyIn.cons rfl (fun K hK => ?_) AllReadyIn.nil)
                          go_simp; refine hK _ _ ?_; clear hK K; try simp only [Act.put, List.setIfInBounds_toArray, List.set_cons_zero, List.set_cons_succ]
                          refine wpAnyIn_ready (rs := [22]) (by kernel_rfl) (by simp) (AllReadyIn.cons rfl (fun K hK => ?_) AllReadyIn.nil)
                          go_simp; refine hK _ _ ?_; clear hK K; try simp only [Act.put, List.setIfInBounds_toArray, List.set_cons_zero, List.set_cons_succ]
                          refine wpAnyIn_ready (rs := [23]) (by kernel_rfl) (by simp) (AllReadyIn.cons rfl (fun K hK => ?_) AllReadyIn.nil)
                          go_simp; refine hK _ _ ?_; clear hK K; try simp only [Act.put, List.setIfInBounds_toArray, List.set_cons_zero, List.set_cons_succ]
                          refine wpAnyIn_ready (rs := [24]) (by kernel_rfl) (by simp) (AllReadyIn.cons rfl (fun K hK => ?_) AllReadyIn.nil)
                          go_simp; refine hK _ _ ?_; clear hK K; try simp only [Act.put, List.setIfInBounds_toArray, List.set_cons_zero, List.set_cons_succ]
                          refine wpAnyIn_done (by kernel_rfl) ?_ _
                          (try gi_wp2_with fail)
                          gi_meet
                          exact ⟨by rw [HBD.out]; rfl, hdr⟩
                    · go_simp; refine hK _ _ ?_; clear hK K; try simp only [Act.put, List.setIfInBounds_toArray, List.set_cons_zero, List.set_cons_succ]
                      refine wpAnyIn_ready (rs := [7, 11]) (by kernel_rfl) (by simp) (AllReadyIn.cons rfl (fun K hK => ?_) (AllReadyIn.cons rfl (fun K hK => ?_) AllReadyIn.nil))
                      · go_simp; refine hK _ _ ?_; clear hK K; try simp only [Act.put, List.setIfInBounds_toArray, List.set_cons_zero, List.set_cons_succ]
                        refine wpAnyIn_ready (rs := [8, 11]) (by kernel_rfl) (by simp) (AllReadyIn.cons rfl (fun K hK => ?_) (AllReadyIn.cons rfl (fun K hK => ?_) AllReadyIn.nil))
                        · go_simp; refine hK _ _ ?_; clear hK K; try simp only [Act.put, List.setIfInBounds_toArray, List.set_cons_zero, List.set_cons_succ]
                          refine wpAnyIn_ready (rs := [9, 11]) (by kernel_rfl) (by simp) (AllReadyIn.cons rfl (fun K hK => ?_) (AllReadyIn.cons rfl (fun K hK => ?_) AllReadyIn.nil))
                          · go_simp; refine hK _ _ ?_; clear hK K; try simp only [Act.put, List.setIfInBounds_toArray, List.set_cons_zero, List.set_cons_succ]
                            refine wpAnyIn_ready (rs := [11]) (by kernel_rfl) (by simp) (AllReadyIn.cons rfl (fun K hK => ?_) AllReadyIn.nil)
                            go_simp; refine hK _ _ ?_; clear hK K; try simp only [Act.put, List.setIfInBounds_toArray, List.set_cons_zero, List.set_cons_succ]
                            refine wpAnyIn_ready (rs := [12]) (by kernel_rfl) (by simp) (AllReadyIn.cons rfl (fun K hK => ?_) AllReadyIn.nil)
                            go_simp; refine hK _ _ ?_; clear hK K; try simp only [Act.put, List.setIfInBounds_toArray, List.set_cons_zero, List.set_cons_succ]
                            refine wpAnyIn_ready (rs := [13]) (by kernel_rfl) (by simp) (AllReadyIn.cons rfl (fun K hK => ?_) AllReadyIn.nil)
                            go_simp; refine hK _ _ ?_; clear hK K; try simp only [Act.put, List.setIfInBounds_toArray, List.set_cons_zero, List.set_cons_succ]
                            refine wpAnyIn_ready (rs := [14]) (by kernel_rfl) (by simp) (AllReadyIn.cons rfl (fun K hK => ?_) AllReadyIn.nil)
                            go_simp; refine hK _ _ ?_; clear hK K; try simp only [Act.put, List.setIfInBounds_toArray, List.set_cons_zero, List.set_cons_succ]
                            refine wpAnyIn_ready (rs := [15]) (by kernel_rfl) (by simp) (AllReadyIn.cons rfl (fun K hK => ?_) AllReadyIn.nil)
                            go_simp; refine hK _ _ ?_; clear hK K; try simp only [Act.put, List.setIfInBounds_toArray, List.set_cons_zero, List.set_cons_succ]
                            refine wpAnyIn_ready (rs := [16]) (by kernel_rfl) (by simp) (AllReadyIn.cons rfl (fun K hK => ?_) AllReadyIn.nil)
                            go_simp; refine hK _ _ ?_; clear hK K; try simp only [Act.put, List.setIfInBounds_toArray, List.set_cons_zero, List.set_cons_succ]
                            refine wpAnyIn_ready (rs := [17]) (by kernel_rfl) (by simp) (AllReadyIn.cons rfl (fun K hK => ?_) AllReadyIn.nil)
                            go_simp; refine hK _ _ ?_; clear hK K; try simp only [Act.put, List.setIfInBounds_toArray, List.set_cons_zero, List.set_cons_succ]
                            refine wpAnyIn_ready (rs := [18]) (by kernel_rfl) (by simp) (AllReadyIn.cons rfl (fun K hK => ?_) AllReadyIn.nil)
                            go_simp; refine hK _ _ ?_; clear hK K; try simp only [Act.put, List.setIfInBounds_toArray, List.set_cons_zero, List.set_cons_succ]
                            refine wpAnyIn_ready (rs := [19]) (by kernel_rfl) (by simp) (AllReadyIn.cons rfl (fun K hK => ?_) AllReadyIn.nil)
                            go_simp; refine hK _ _ ?_; clear hK K; try simp only [Act.put, List.setIfInBounds_toArray, List.set_cons_zero, List.set_cons_succ]
                            refine wpAnyIn_ready (rs := [20]) (by kernel_rfl) (by simp) (AllReadyIn.cons rfl (fun K hK => ?_) AllReadyIn.nil)
                            go_simp; refine hK _ _ ?_; clear hK K; try simp only [Act.put, List.setIfInBounds_toArray, List.set_cons_zero, List.set_cons_succ]
                            refine wpAnyIn_ready (rs := [21]) (by kernel_rfl) (by simp) (AllReadyIn.cons rfl (fun K hK => ?_) AllReadyIn.nil)
                            go_simp; refine hK _ _ ?_; clear hK K; try simp only [Act.put, List.setIfInBounds_toArray, List.set_cons_zero, List.set_cons_succ]
                            refine wpAnyIn_ready (rs := [22]) (by kernel_rfl) (by simp) (AllReadyIn.cons rfl (fun K hK => ?_) AllReadyIn.nil)
                            go_simp; refine hK _ _ ?_; clear hK K; try simp only [Act.put, List.setIfInBounds_toArray, List.set_cons_zero, List.set_cons_succ]
                            refine wpAnyIn_ready (rs := [23]) (by kernel_rfl) (by simp) (AllReadyIn.cons rfl (fun K hK => ?_) AllReadyIn.nil)
                            go_simp; refine hK _ _ ?_; clear hK K; try simp only [Act.put, List.setIfInBounds_toArray, List.set_cons_zero, List.set_cons_succ]
                            refine wpAnyIn_ready (rs := [24]) (by kernel_rfl) (by simp) (AllReadyIn.cons rfl (fun K hK => ?_) AllReadyIn.nil)
                            go_simp; refine hK _ _ ?_; clear hK K; try simp only [Act.put, List.setIfInBounds_toArray, List.set_cons_zero, List.set_cons_succ]
                            refine wpAnyIn_done (by kernel_rfl) ?_ _
                            (try gi_wp2_with fail)
                            gi_meet
                            exact ⟨by rw [HBD.out]; rfl, hdr⟩
                          · go_simp; refine hK _ _ ?_; clear hK K; try simp only [Act.put, List.setIfInBounds_toArray, List.set_cons_zero, List.set_cons_succ]
                            refine wpAnyIn_ready (rs := [9]) (by kernel_rfl) (by simp) (AllReadyIn.cons rfl (fun K hK => ?_) AllReadyIn.nil)
                            go_simp; refine hK _ _ ?_; clear hK K; try simp only [Act.put, List.setIfInBounds_toArray, List.set_cons_zero, List.set_cons_succ]
                            refine wpAnyIn_ready (rs := [12]) (by kernel_rfl) (by simp) (AllReadyIn.cons rfl (fun K hK => ?_) AllReadyIn.nil)
                            go_simp; refine hK _ _ ?_; clear hK K; try simp only [Act.put, List.setIfInBounds_toArray, List.set_cons_zero, List.set_cons_succ]
                            refine wpAnyIn_ready (rs := [13]) (by kernel_rfl) (by simp) (AllReadyIn.cons rfl (fun K hK => ?_) AllReadyIn.nil)
                            go_simp; refine hK _ _ ?_; clear hK K; try simp only [Act.put, List.setIfInBounds_toArray, List.set_cons_zero, List.set_cons_succ]
                            refine wpAnyIn_ready (rs := [14]) (by kernel_rfl) (by simp) (AllReadyIn.cons rfl (fun K hK => ?_) AllReadyIn.nil)
                            go_simp; refine hK _ _ ?_; clear hK K; try simp only [Act.put, List.setIfInBounds_toArray, List.set_cons_zero, List.set_cons_succ]
                            refine wpAnyIn_ready (rs := [15]) (by kernel_rfl) (by simp) (AllReadyIn.cons rfl (fun K hK => ?_) AllReadyIn.nil)
                            go_simp; refine hK _ _ ?_; clear hK K; try simp only [Act.put, List.setIfInBounds_toArray, List.set_cons_zero, List.set_cons_succ]
                            refine wpAnyIn_ready (rs := [16]) (by kernel_rfl) (by simp) (AllReadyIn.cons rfl (fun K hK => ?_) AllReadyIn.nil)
                            go_simp; refine hK _ _ ?_; clear hK K; try simp only [Act.put, List.setIfInBounds_toArray, List.set_cons_zero, List.set_cons_succ]
                            refine wpAnyIn_ready (rs := [17]) (by kernel_rfl) (by simp) (AllReadyIn.cons rfl (fun K hK => ?_) AllReadyIn.nil)
                            go_simp; refine hK _ _ ?_; clear hK K; try simp only [Act.put, List.setIfInBounds_toArray, List.set_cons_zero, List.set_cons_succ]
                            refine wpAnyIn_ready (rs := [18]) (by kernel_rfl) (by simp) (AllReadyIn.cons rfl (fun K hK => ?_) AllReadyIn.nil)
                            go_simp; refine hK _ _ ?_; clear hK K; try simp only [Act.put, List.setIfInBounds_toArray, List.set_cons_zero, List.set_cons_succ]
                            refine wpAnyIn_ready (rs := [19]) (by kernel_rfl) (by simp) (AllReadyIn.cons rfl (fun K hK => ?_) AllReadyIn.nil)
                            go_simp; refine hK _ _ ?_; clear hK K; try simp only [Act.put, List.setIfInBounds_toArray, List.set_cons_zero, List.set_cons_succ]
                            refine wpAnyIn_ready (rs := [20]) (by kernel_rfl) (by simp) (AllReadyIn.cons rfl (fun K hK => ?_) AllReadyIn.nil)
                            go_simp; refine hK _ _ ?_; clear hK K; try simp only [Act.put, List.setIfInBounds_toArray, List.set_cons_zero, List.set_cons_succ]
                            refine wpAnyIn_ready (rs := [21]) (by kernel_rfl) (by simp) (AllReadyIn.cons rfl (fun K hK => ?_) AllReadyIn.nil)
                            go_simp; refine hK _ _ ?_; clear hK K; try simp only [Act.put, List.setIfInBounds_toArray, List.set_cons_zero, List.set_cons_succ]
                            refine wpAnyIn_ready (rs := [22]) (by kernel_rfl) (by simp) (AllReadyIn.cons rfl (fun K hK => ?_) AllReadyIn.nil)
                            go_simp; refine hK _ _ ?_; clear hK K; try simp only [Act.put, List.setIfInBounds_toArray, List.set_cons_zero, List.set_cons_succ]
                            refine wpAnyIn_ready (rs := [23]) (by kernel_rfl) (by simp) (AllReadyIn.cons rfl (fun K hK => ?_) AllReadyIn.nil)
                            go_simp; refine hK _ _ ?_; clear hK K; try simp only [Act.put, List.setIfInBounds_toArray, List.set_cons_zero, List.set_cons_succ]
                            refine wpAnyIn_ready (rs := [24]) (by kernel_rfl) (by simp) (AllReadyIn.cons rfl (fun K hK => ?_) AllReadyIn.nil)
                            go_simp; refine hK _ _ ?_; clear hK K; try simp only [Act.put, List.setIfInBounds_toArray, List.set_cons_zero, List.set_cons_succ]
                            refine wpAnyIn_done (by kernel_rfl) ?_ _
                            (try gi_wp2_with fail)
                            gi_meet
                            exact ⟨by rw [HBD.out]; rfl, hdr⟩
                        · go_simp; refine hK _ _ ?_; clear hK K; try simp only [Act.put, List.setIfInBounds_toArray, List.set_cons_zero, List.set_cons_succ]
                          refine wpAnyIn_ready (rs := [8]) (by kernel_rfl) (by simp) (AllReadyIn.cons rfl (fun K hK => ?_) AllReadyIn.nil)
                          go_simp; refine hK _ _ ?_; clear hK K; try simp only [Act.put, List.setIfInBounds_toArray, List.set_cons_zero, List.set_cons_succ]
                          refine wpAnyIn_ready (rs := [9]) (by kernel_rfl) (by simp) (AllReadyIn.cons rfl (fun K hK => ?_) AllReadyIn.nil)
                          go_simp; refine hK _ _ ?_; clear hK K; try simp only [Act.put, List.setIfInBounds_toArray, List.set_cons_zero, List.set_cons_succ]
                          refine wpAnyIn_ready (rs := [12]) (by kernel_rfl) (by simp) (AllReadyIn.cons rfl (fun K hK => ?_) AllReadyIn.nil)
                          go_simp; refine hK _ _ ?_; clear hK K; try simp only [Act.put, List.setIfInBounds_toArray, List.set_cons_zero, List.set_cons_succ]
                          refine wpAnyIn_ready (rs := [13]) (by kernel_rfl) (by simp) (AllReadyIn.cons rfl (fun K hK => ?_) AllReadyIn.nil)
                          go_simp; refine hK _ _ ?_; clear hK K; try simp only [Act.put, List.setIfInBounds_toArray, List.set_cons_zero, List.set_cons_succ]
                          refine wpAnyIn_ready (rs := [14]) (by kernel_rfl) (by simp) (AllReadyIn.cons rfl (fun K hK => ?_) AllReadyIn.nil)
                          go_simp; refine hK _ _ ?_; clear hK K; try simp only [Act.put, List.setIfInBounds_toArray, List.set_cons_zero, List.set_cons_succ]
                          refine wpAnyIn_ready (rs := [15]) (by kernel_rfl) (by simp) (AllReadyIn.cons rfl (fun K hK => ?_) AllReadyIn.nil)
                          go_simp; refine hK _ _ ?_; clear hK K; try simp only [Act.put, List.setIfInBounds_toArray, List.set_cons_zero, List.set_cons_succ]
                          refine wpAnyIn_ready (rs := [16]) (by kernel_rfl) (by simp) (AllReadyIn.cons rfl (fun K hK => ?_) AllReadyIn.nil)
                          go_simp; refine hK _ _ ?_; clear hK K; try simp only [Act.put, List.setIfInBounds_toArray, List.set_cons_zero, List.set_cons_succ]
                          refine wpAnyIn_ready (rs := [17]) (by kernel_rfl) (by simp) (AllReadyIn.cons rfl (fun K hK => ?_) AllReadyIn.nil)
                          go_simp; refine hK _ _ ?_; clear hK K; try simp only [Act.put, List.setIfInBounds_toArray, List.set_cons_zero, List.set_cons_succ]
                          refine wpAnyIn_ready (rs := [18]) (by kernel_rfl) (by simp) (AllReadyIn.cons rfl (fun K hK => ?_) AllReadyIn.nil)
                          go_simp; refine hK _ _ ?_; clear hK K; try simp only [Act.put, List.setIfInBounds_toArray, List.set_cons_zero, List.set_cons_succ]
                          refine wpAnyIn_ready (rs := [19]) (by kernel_rfl) (by simp) (AllReadyIn.cons rfl (fun K hK => ?_) AllReadyIn.nil)
                          go_simp; refine hK _ _ ?_; clear hK K; try simp only [Act.put, List.setIfInBounds_toArray, List.set_cons_zero, List.set_cons_succ]
                          refine wpAnyIn_ready (rs := [20]) (by kernel_rfl) (by simp) (AllReadyIn.cons rfl (fun K hK => ?_) AllReadyIn.nil)
                          go_simp; refine hK _ _ ?_; clear hK K; try simp only [Act.put, List.setIfInBounds_toArray, List.set_cons_zero, List.set_cons_succ]
                          refine wpAnyIn_ready (rs := [21]) (by kernel_rfl) (by simp) (AllReadyIn.cons rfl (fun K hK => ?_) AllReadyIn.nil)
                          go_simp; refine hK _ _ ?_; clear hK K; try simp only [Act.put, List.setIfInBounds_toArray, List.set_cons_zero, List.set_cons_succ]
                          refine wpAnyIn_ready (rs := [22]) (by kernel_rfl) (by simp) (AllReadyIn.cons rfl (fun K hK => ?_) AllReadyIn.nil)
                          go_simp; refine hK _ _ ?_; clear hK K; try simp only [Act.put, List.setIfInBounds_toArray, List.set_cons_zero, List.set_cons_succ]
                          refine wpAnyIn_ready (rs := [23]) (by kernel_rfl) (by simp) (AllReadyIn.cons rfl (fun K hK => ?_) AllReadyIn.nil)
                          go_simp; refine hK _ _ ?_; clear hK K; try simp only [Act.put, List.setIfInBounds_toArray, List.set_cons_zero, List.set_cons_succ]
                          refine wpAnyIn_ready (rs := [24]) (by kernel_rfl) (by simp) (AllReadyIn.cons rfl (fun K hK => ?_) AllReadyIn.nil)
                          go_simp; refine hK _ _ ?_; clear hK K; try simp only [Act.put, List.setIfInBounds_toArray, List.set_cons_zero, List.set_cons_succ]
                          refine wpAnyIn_done (by kernel_rfl) ?_ _
                          (try gi_wp2_with fail)
                          gi_meet
                          exact ⟨by rw [HBD.out]; rfl, hdr⟩
                      · go_simp; refine hK _ _ ?_; clear hK K; try simp only [Act.put, List.setIfInBounds_toArray, List.set_cons_zero, List.set_cons_succ]
                        refine wpAnyIn_ready (rs := [7]) (by kernel_rfl) (by simp) (AllReadyIn.cons rfl (fun K hK => ?_) AllReadyIn.nil)
                        go_simp; refine hK _ _ ?_; clear hK K; try simp only [Act.put, List.setIfInBounds_toArray, List.set_cons_zero, List.set_cons_succ]
                        refine wpAnyIn_ready (rs := [8]) (by kernel_rfl) (by simp) (AllReadyIn.cons rfl (fun K hK => ?_) AllReadyIn.nil)
                        go_simp; refine hK _ _ ?_; clear hK K; try simp only [Act.put, List.setIfInBounds_toArray, List.set_cons_zero, List.set_cons_succ]
                        refine wpAnyIn_ready (rs := [9]) (by kernel_rfl) (by simp) (AllReadyIn.cons rfl (fun K hK => ?_) AllReadyIn.nil)
                        go_simp; refine hK _ _ ?_; clear hK K; try simp only [Act.put, List.setIfInBounds_toArray, List.set_cons_zero, List.set_cons_succ]
                        refine wpAnyIn_ready (rs := [12]) (by kernel_rfl) (by simp) (AllReadyIn.cons rfl (fun K hK => ?_) AllReadyIn.nil)
                        go_simp; refine hK _ _ ?_; clear hK K; try simp only [Act.put, List.setIfInBounds_toArray, List.set_cons_zero, List.set_cons_succ]
                        refine wpAnyIn_ready (rs := [13]) (by kernel_rfl) (by simp) (AllReadyIn.cons rfl (fun K hK => ?_) AllReadyIn.nil)
                        go_simp; refine hK _ _ ?_; clear hK K; try simp only [Act.put, List.setIfInBounds_toArray, List.set_cons_zero, List.set_cons_succ]
                        refine wpAnyIn_ready (rs := [14]) (by kernel_rfl) (by simp) (AllReadyIn.cons rfl (fun K hK => ?_) AllReadyIn.nil)
                        go_simp; refine hK _ _ ?_; clear hK K; try simp only [Act.put, List.setIfInBounds_toArray, List.set_cons_zero, List.set_cons_succ]
                        refine wpAnyIn_ready (rs := [15]) (by kernel_rfl) (by simp) (AllReadyIn.cons rfl (fun K hK => ?_) AllReadyIn.nil)
                        go_simp; refine hK _ _ ?_; clear hK K; try simp only [Act.put, List.setIfInBounds_toArray, List.set_cons_zero, List.set_cons_succ]
                        refine wpAnyIn_ready (rs := [16]) (by kernel_rfl) (by simp) (AllReadyIn.cons rfl (fun K hK => ?_) AllReadyIn.nil)
                        go_simp; refine hK _ _ ?_; clear hK K; try simp only [Act.put, List.setIfInBounds_toArray, List.set_cons_zero, List.set_cons_succ]
                        refine wpAnyIn_ready (rs := [17]) (by kernel_rfl) (by simp) (AllReadyIn.cons rfl (fun K hK => ?_) AllReadyIn.nil)
                        go_simp; refine hK _ _ ?_; clear hK K; try simp only [Act.put, List.setIfInBounds_toArray, List.set_cons_zero, List.set_cons_succ]
                        refine wpAnyIn_ready (rs := [18]) (by kernel_rfl) (by simp) (AllReadyIn.cons rfl (fun K hK => ?_) AllReadyIn.nil)
                        go_simp; refine hK _ _ ?_; clear hK K; try simp only [Act.put, List.setIfInBounds_toArray, List.set_cons_zero, List.set_cons_succ]
                        refine wpAnyIn_ready (rs := [19]) (by kernel_rfl) (by simp) (AllReadyIn.cons rfl (fun K hK => ?_) AllReadyIn.nil)
                        go_simp; refine hK _ _ ?_; clear hK K; try simp only [Act.put, List.setIfInBounds_toArray, List.set_cons_zero, List.set_cons_succ]
                        refine wpAnyIn_ready (rs := [20]) (by kernel_rfl) (by simp) (AllReadyIn.cons rfl (fun K hK => ?_) AllReadyIn.nil)
                        go_simp; refine hK _ _ ?_; clear hK K; try simp only [Act.put, List.setIfInBounds_toArray, List.set_cons_zero, List.set_cons_succ]
                        refine wpAnyIn_ready (rs := [21]) (by kernel_rfl) (by simp) (AllReadyIn.cons rfl (fun K hK => ?_) AllReadyIn.nil)
                        go_simp; refine hK _ _ ?_; clear hK K; try simp only [Act.put, List.setIfInBounds_toArray, List.set_cons_zero, List.set_cons_succ]
                        refine wpAnyIn_ready (rs := [22]) (by kernel_rfl) (by simp) (AllReadyIn.cons rfl (fun K hK => ?_) AllReadyIn.nil)
                        go_simp; refine hK _ _ ?_; clear hK K; try simp only [Act.put, List.setIfInBounds_toArray, List.set_cons_zero, List.set_cons_succ]
                        refine wpAnyIn_ready (rs := [23]) (by kernel_rfl) (by simp) (AllReadyIn.cons rfl (fun K hK => ?_) AllReadyIn.nil)
                        go_simp; refine hK _ _ ?_; clear hK K; try simp only [Act.put, List.setIfInBounds_toArray, List.set_cons_zero, List.set_cons_succ]
                        refine wpAnyIn_ready (rs := [24]) (by kernel_rfl) (by simp) (AllReadyIn.cons rfl (fun K hK => ?_) AllReadyIn.nil)
                        go_simp; refine hK _ _ ?_; clear hK K; try simp only [Act.put, List.setIfInBounds_toArray, List.set_cons_zero, List.set_cons_succ]
                        refine wpAnyIn_done (by kernel_rfl) ?_ _
                        (try gi_wp2_with fail)
                        gi_meet
                        exact ⟨by rw [HBD.out]; rfl, hdr⟩
          case rest =>
            obtain ⟨rfl, hbz⟩ := hcut
            have hbw := bthen HBC.out hbz
            have d2 := HB.out.2.1.carry hbw
            have e20 := d2.cell (j := 0) (v := .slice none 0 0) rfl
            have e21 := d2.cell (j := 1) (v := .slice none 0 0) rfl
            have e22 := d2.cell (j := 2) (v := .slice none 0 0) rfl
            have e23 := d2.cell (j := 3) (v := .slice none 0 0) rfl
            have f20 := d2.frozen 0
            have f21 := d2.frozen 1
            have f22 := d2.frozen 2
            have f23 := d2.frozen 3
            have c3 := (HB.out.2.2.1.carry hbw).cell (j := 0) (v := .int .i64 0) rfl
            have c4 := (HB.out.2.2.2.1.carry hbw).cell (j := 0) (v := .int .i64 0) rfl
            have c6 := (HB.out.2.2.2.2.carry hbw).cell (j := 0) (v := .int .i64 (np : Int)) rfl
            have f3 := (HB.out.2.2.1.carry hbw).frozen 0
            have f4 := (HB.out.2.2.2.1.carry hbw).frozen 0
            have HBZ := Lib.hid hbw
            clear d2 hbw
            have hver := line_verdict HLN.out HFV.out HIS.out HEQ.out HWN.out HWR.out HBD.out
            cases bad with
            | true =>
              have hbl2 := hver.1 rfl
              rw [HNP.out] at hbl2
              have HE := Lib.hid (fun (a : Act) => exit_post (a := a) (m := mb) (x := (Value.string ⟨xl.toArray⟩, xl)) (Kp := fun A B => B.heap[M + 1]? = A.heap[M + 1]?) sV hM5 HBZ.out HGD.out hbl2 HB.out.2.1 HB.out.2.2.1 HB.out.2.2.2.1 hBW)
              rw [← HNP.out] at HE
              clear hbl2 hver
              gi_wp2_with fail
              gi_region
              all_goals gi_wp2
              all_goals exact HE.out _
            | false =>
              obtain ⟨hgl, h4, rfl⟩ := hver.2 rfl
              clear hver
              have hbz2 := HBZ.out
              obtain ⟨vs, hv4, b5, hvs⟩ := HLT.out
              obtain ⟨v9, hv9⟩ : ∃ v, vs[np]? = some v := ⟨_, List.getElem?_eq_getElem (by omega)⟩
              have x1c := cellb x1 hbz
              have hent := field_enter np h4
              have FA := Lib.hid (field_any np h4 (w.heap.size + 1 + 1 + 1) wc)
              have hol : OwnI 3 (w3.heap.size + 1) wc (.slice pa j pc) (wt.map numV) := HOW.out.carry hbz
              have CA := Lib.hid (Clone_any (.slice pa j pc) (wt.map numV) wc hol.ints (by rw [List.length_map, ← HWN.out]; omega))
              have v0 : IntKind.i64.wrap ((np : Int) + 1) = (np : Int) + 1 := IntWalk.i64_in _ (by omega)
              have HC6 := Lib.hid (HB.out.2.2.2.2)
              clear x1 e20 e21 e22 e23 f20 f21 f22 f23 c3 c4 c6 f3 f4 c0 t0 t1
              gi_wp2_with fail
              refine (((callsIn_wide (n := 2)).2 FA.out).inRound l).mono ?_
              rintro e wd ⟨rfl, rfl⟩
              gi_wp2_with fail
              refine (((callsIn_wide (n := 2)).2 CA.out).inRound l).mono ?_
              rintro e wd ⟨⟨cv, rfl, hcv⟩, hb9⟩
              have hbw9 := bthen hbz2 hb9
              have hsz9 := hbz2.size
              obtain ⟨ca, cc, hce⟩ := ownsRow_sl hcv
              rw [List.length_map, ← HWN.out] at hce
              subst hce
              have c5 : wd.cell? ⟨w.heap.size + 1 + 1 + 1, np, none⟩ = some v9 := (b5.carry hbw9).cell hv9
              have f5 : wd.frozen? ⟨w.heap.size + 1 + 1 + 1, np, none⟩ = false := (b5.carry hbw9).frozen np
              have c6 := (HC6.out.carry hbw9).cell (j := 0) (v := .int .i64 (np : Int)) rfl
              have f6 := (HC6.out.carry hbw9).frozen 0
              rw [HNP.out] at hgl
              have HNX := Lib.hid (fun (a : Act) => next_post (a := a) (x := (Value.string ⟨xl.toArray⟩, xl)) sV hM5 hbw9 HPI.out hgl (OwnI.base hcv (by omega)))
              rw [← HNP.out] at HNX
              clear hgl hcv hb9 hbw9 b5 hvs hv9 hv4 FA CA hol hsz9 hbz2 hbz
              gi_wp2_with fail
              exact HNX.out _
    case done =>
      rintro D xs W hD hS ⟨hgood, b2, b3, b4, ⟨vs, hv4, b5, hvs⟩, b6, b7, hmap, hBW, hsz⟩ hK
      have hsW := hBW.size
      obtain ⟨v0, v1, v2, v3, rfl⟩ : ∃ v0 v1 v2 v3, vs = [v0, v1, v2, v3] := by
        match vs, hv4 with
        | [a, b, c, d], _ => exact ⟨a, b, c, d, rfl⟩
      have o0 := hvs 0 v0 rfl
      have o1 := hvs 1 v1 rfl
      have o2 := hvs 2 v2 rfl
      have o3 := hvs 3 v3 rfl
      have hba : badN (linesL L) = none := badN_none (fun j x hx => by
        rw [← hS, List.getElem?_map] at hx
        obtain ⟨z, hz, rfl⟩ := Option.map_eq_some_iff.1 hx
        exact hgood j z hz)
      have hn4 := badN_len hba
      have hxl : xs.length = (linesL L).length := by rw [← hS, List.length_map]
      rw [hS] at o0 o1 o2 o3
      rw [hxl] at b6
      have HR := Lib.hid hba
      have HLL := Lib.hid (show ¬ 4096 < L.length by rw [HL.out]; exact hlt)
      have hq : ∀ k, (polyN (linesL L) k).length ≤ 100000 := fun k => by
        unfold polyN
        cases hx : (linesL L)[k]? with
        | none => simp
        | some x =>
          have h1 := lineL_len (L := L) (x := x) (List.mem_of_getElem? hx)
          have h2 := bodyL_len x
          have h3 := splitC_length 32 (bodyL x)
          have h4 : (bodyL x).count 32 ≤ (bodyL x).length := List.count_le_length
          have := HL.out
          simp only [Option.bind_some]
          unfold lineN
          by_cases hc : k < 4 ∧ endsL x = true
          · rw [if_pos hc]
            unfold lineI
            cases hs : splitC 32 (bodyL x) with
            | nil => simp
            | cons q r =>
              rw [hs, List.length_cons] at h3
              simp only
              split
              · simp; omega
              · simp
          · rw [if_neg hc]; simp
      have hq0 := hq 0
      have hq1 := hq 1
      have hq2 := hq 2
      have hq3 := hq 3
      obtain ⟨nl, hnl⟩ : ∃ b, b = (linesL L).length := ⟨_, rfl⟩
      obtain ⟨q0, hq0e⟩ : ∃ b, b = polyN (linesL L) 0 := ⟨_, rfl⟩
      obtain ⟨q1, hq1e⟩ : ∃ b, b = polyN (linesL L) 1 := ⟨_, rfl⟩
      obtain ⟨q2, hq2e⟩ : ∃ b, b = polyN (linesL L) 2 := ⟨_, rfl⟩
      obtain ⟨q3, hq3e⟩ : ∃ b, b = polyN (linesL L) 3 := ⟨_, rfl⟩
      rw [← hnl] at b6 hn4
      rw [← hq0e] at o0 hq0
      rw [← hq1e] at o1 hq1
      rw [← hq2e] at o2 hq2
      rw [← hq3e] at o3 hq3
      have HE := Lib.hid (And.intro hnl (And.intro hq0e (And.intro hq1e (And.intro hq2e hq3e))))
      clear hba hgood hS hxl hq hnl hq0e hq1e hq2e hq3e hvs hv4
      obtain ⟨a0, k0, rfl⟩ := ownsRow_sl o0
      obtain ⟨a1, k1, rfl⟩ := ownsRow_sl o1
      obtain ⟨a2, k2, rfl⟩ := ownsRow_sl o2
      obtain ⟨a3, k3, rfl⟩ := ownsRow_sl o3
      have c6 := b6.cell (j := 0) (v := .int .i64 (nl : Int)) rfl
      have c7 := b7.cell (j := 0) (v := .map (some mb)) rfl
      have c50 := b5.cell (j := 0) (v := .slice a0 q0.length k0) rfl
      have c51 := b5.cell (j := 1) (v := .slice a1 q1.length k1) rfl
      have c52 := b5.cell (j := 2) (v := .slice a2 q2.length k2) rfl
      have c53 := b5.cell (j := 3) (v := .slice a3 q3.length k3) rfl
      have HMP := Lib.hid hmap
      have CL := Lib.hid (fun (X : World) (h : Below W.heap.size W X) => CheckLoop_any _ _ _ _ q0 q1 q2 q3 X (o0.carry h).ints (o1.carry h).ints (o2.carry h).ints (o3.carry h).ints hq0 hq1 hq2 hq3)
      obtain ⟨ce, hce⟩ : ∃ e, e = checkLoopE q0 q1 q2 q3 := ⟨_, rfl⟩
      rw [← hce] at CL
      have HCE := Lib.hid hce
      have TW := Lib.hid (fun (X : World) => when_any (decide ((nl : Int) < 4)) 2 X)
      obtain ⟨we, hwe⟩ : ∃ e, e = whenE (decide ((nl : Int) < 4)) 2 := ⟨_, rfl⟩
      rw [← hwe] at TW
      have HWE := Lib.hid hwe
      have TF := Lib.hid (fun (u : Value) (X : World) (h : Ints X u [we, ce]) => first_any u [we, ce] X (by simp [maxLen]) h)
      obtain ⟨fe, hfe⟩ : ∃ e, e = firstE [we, ce] := ⟨_, rfl⟩
      rw [← hfe] at TF
      have HFE := Lib.hid hfe
      have HO := Lib.hid (And.intro o0 (And.intro o1 (And.intro o2 o3)))
      have HB := Lib.hid (And.intro b2 (And.intro b3 (And.intro b4 (And.intro b5 b6))))
      have HK := Lib.hid hK
      have h0 := Below.refl W.heap.size W
      clear hce hwe hfe o0 o1 o2 o3 hmap b2 b3 b4 b5 b6 b7 hK
      go_upto_region 21 with fail
      refine wp_region_E 9 (by kernel_rfl) ?_
      obtain ⟨wz, hwz⟩ : ∃ v, v = W.drew := ⟨_, rfl⟩
      rw [← hwz]
      have hlz : Below W.heap.size W wz := by rw [hwz]; exact (Below.refl _ _).drew
      have hbz := bthen h0 hlz
      have c6 := cellb c6 hlz
      have c7 := cellb c7 hlz
      have c50 := cellb c50 hlz
      have c51 := cellb c51 hlz
      have c52 := cellb c52 hlz
      have c53 := cellb c53 hlz
      clear hwz hlz
      refine wpAnyE_take (i := 0) (oi := { dst := some 93, op := Op.load 3 (Operand.tmp 6), type := 3, pos := "ring.go:215", after := #[], guard := none }) (v := ?_) rfl (by kernel_rfl) (by kernel_rfl) (by kernel_rfl) (by kernel_rfl) (fun _ _ _ h => h) (Or.inl ⟨by rfl, ?_⟩) ?_
      rotate_left
      · (intro w hE; have c6 := cellb c6 hE; have c7 := cellb c7 hE; have c50 := cellb c50 hE; have c51 := cellb c51 hE; have c52 := cellb c52 hE; have c53 := cellb c53 hE; (try dsimp only); go_simp); (try with_reducible rfl)
      try simp only [Act.put, List.setIfInBounds_toArray, List.set_cons_zero, List.set_cons_succ]
      refine wpAnyE_take (i := 1) (oi := { dst := some 94, op := Op.load 86 (Operand.tmp 7), type := 86, pos := "ring.go:215", after := #[], guard := none }) (v := ?_) rfl (by kernel_rfl) (by kernel_rfl) (by kernel_rfl) (by kernel_rfl) (fun _ _ _ h => h) (Or.inl ⟨by rfl, ?_⟩) ?_
      rotate_left
      · (intro w hE; have c6 := cellb c6 hE; have c7 := cellb c7 hE; have c50 := cellb c50 hE; have c51 := cellb c51 hE; have c52 := cellb c52 hE; have c53 := cellb c53 hE; (try dsimp only); go_simp); (try with_reducible rfl)
      try simp only [Act.put, List.setIfInBounds_toArray, List.set_cons_zero, List.set_cons_succ]
      refine wpAnyE_take (i := 2) (oi := { dst := some 95, op := Op.call { callee := Callee.builtin Builtin.len, args := #[Operand.tmp 94], argTypes := #[86] }, type := 3, pos := "ring.go:215", after := #[{ on := 1, ground := Ground.data }], guard := none }) (v := ?_) rfl (by kernel_rfl) (by kernel_rfl) (by kernel_rfl) (by kernel_rfl) (fun _ _ _ h => h) (Or.inl ⟨by rfl, ?_⟩) ?_
      rotate_left
      · (intro w hE; have c6 := cellb c6 hE; have c7 := cellb c7 hE; have c50 := cellb c50 hE; have c51 := cellb c51 hE; have c52 := cellb c52 hE; have c53 := cellb c53 hE; (try dsimp only); have hlr := fld_lenR (map_below (map_below HMP.out hbz) hE) 3 ; go_simp); (try with_reducible rfl)
      try simp only [Act.put, List.setIfInBounds_toArray, List.set_cons_zero, List.set_cons_succ]
      refine wpAnyE_take (i := 3) (oi := { dst := some 96, op := Op.binOp BinOp.lss 3 (Operand.tmp 93) (Operand.tmp 95) 3, type := 4, pos := "ring.go:215", after := #[{ on := 0, ground := Ground.data }, { on := 2, ground := Ground.data }], guard := none }) (v := ?_) rfl (by kernel_rfl) (by kernel_rfl) (by kernel_rfl) (by kernel_rfl) (fun _ _ _ h => h) (Or.inl ⟨by rfl, ?_⟩) ?_
      rotate_left
      · (intro w hE; have c6 := cellb c6 hE; have c7 := cellb c7 hE; have c50 := cellb c50 hE; have c51 := cellb c51 hE; have c52 := cellb c52 hE; have c53 := cellb c53 hE; (try dsimp only); go_simp); (try with_reducible rfl)
      try simp only [Act.put, List.setIfInBounds_toArray, List.set_cons_zero, List.set_cons_succ]
      refine wpAnyE_take (i := 5) (oi := { dst := some 98, op := Op.load 32 (Operand.tmp 5), type := 32, pos := "ring.go:215", after := #[], guard := none }) (v := ?_) rfl (by kernel_rfl) (by kernel_rfl) (by kernel_rfl) (by kernel_rfl) (fun _ _ _ h => h) (Or.inl ⟨by rfl, ?_⟩) ?_
      rotate_left
      · (intro w hE; have c6 := cellb c6 hE; have c7 := cellb c7 hE; have c50 := cellb c50 hE; have c51 := cellb c51 hE; have c52 := cellb c52 hE; have c53 := cellb c53 hE; (try dsimp only); go_simp); (try with_reducible rfl)
      try simp only [Act.put, List.setIfInBounds_toArray, List.set_cons_zero, List.set_cons_succ]
      refine wpAnyE_call (i := 4) (oi := { dst := some 97, op := Op.call { callee := Callee.value (Operand.func 46), args := #[Operand.tmp 96, Operand.const (Value.int IntKind.i64 2)], argTypes := #[4, 27] }, type := 27, pos := "ring.go:215", after := #[{ on := 3, ground := Ground.data }, { on := 2, ground := Ground.chain }], guard := none }) (fun w hE => ofPure (TW.out w)) rfl (by kernel_rfl) (by kernel_rfl) (by kernel_rfl) (by kernel_rfl) (fun _ _ _ h => h) (by rfl) (fun w hE => by (try dsimp only); go_simp) ?_
      try simp only [Act.put, List.setIfInBounds_toArray, List.set_cons_zero, List.set_cons_succ]
      refine wpAnyE_call (i := 6) (oi := { dst := some 99, op := Op.call { callee := Callee.value (Operand.func 34), args := #[Operand.tmp 98], argTypes := #[32] }, type := 27, pos := "ring.go:215", after := #[{ on := 5, ground := Ground.data }, { on := 4, ground := Ground.chain }], guard := none }) (fun w hE => CL.out w (bthen hbz hE)) rfl (by kernel_rfl) (by kernel_rfl) (by kernel_rfl) (by kernel_rfl) (fun _ _ _ h => h) (by rfl) (fun w hE => by (try dsimp only); go_simp) ?_
      try simp only [Act.put, List.setIfInBounds_toArray, List.set_cons_zero, List.set_cons_succ]
      refine wpAnyE_one (i := 7) (o := { dst := some 100, op := Op.buildSlice 155 2 #[(0, Operand.tmp 97), (1, Operand.tmp 99)], type := 155, pos := "ring.go:215", after := #[{ on := 4, ground := Ground.data }, { on := 6, ground := Ground.data }], guard := none }) (by kernel_rfl) rfl (fun wy1 hE K hK => ?_)
      have c6 := cellb c6 hE
      have c7 := cellb c7 hE
      have c50 := cellb c50 hE
      have c51 := cellb c51 hE
      have c52 := cellb c52 hE
      have c53 := cellb c53 hE
      have hbz1 := bthen hbz hE
      clear hE
      go_simp
      obtain ⟨wx1, hwz⟩ : ∃ v, v = wy1.alloc (Obj.cells #[.int .i64 we, .int .i64 ce] 27) := ⟨_, rfl⟩
      rw [← hwz]
      have hl : Below wy1.heap.size wy1 wx1 := by rw [hwz]; exact below_new _ _
      have hcz1 := bthen hbz1 hl
      have iN : BlkI wx1 wy1.heap.size 27 [we, ce] := by rw [hwz]; exact Blk.new _ _ _
      generalize wy1.heap.size = G at iN ⊢
      have c6 := cellb c6 hl
      have c7 := cellb c7 hl
      have c50 := cellb c50 hl
      have c51 := cellb c51 hl
      have c52 := cellb c52 hl
      have c53 := cellb c53 hl
      clear hwz
      refine hK _ _ (fun _ => hl) ?_
      clear hK K hl
      try simp only [Act.put, List.setIfInBounds_toArray, List.set_cons_zero, List.set_cons_succ]
      refine wpAnyE_call (i := 8) (oi := { dst := some 101, op := Op.call { callee := Callee.value (Operand.func 45), args := #[Operand.tmp 100], argTypes := #[155] }, type := 27, pos := "ring.go:215", after := #[{ on := 7, ground := Ground.data }, { on := 6, ground := Ground.chain }], guard := none }) (fun w hE => ofPure (TF.out _ w ((BlkI.ints iN rfl).carry hE))) rfl (by kernel_rfl) (by kernel_rfl) (by kernel_rfl) (by kernel_rfl) (fun _ _ _ h => h) (by rfl) (fun w hE => by (try dsimp only); go_simp) ?_
      try simp only [Act.put, List.setIfInBounds_toArray, List.set_cons_zero, List.set_cons_succ]
      refine wpAnyE_one (i := 9) (o := { dst := some 18, op := Op.assign (Operand.tmp 101), type := 27, pos := "ring.go:215", after := #[{ on := 8, ground := Ground.data }, { on := 8, ground := Ground.chain }, { on := 0, ground := Ground.phase }, { on := 1, ground := Ground.phase }, { on := 2, ground := Ground.phase }, { on := 3, ground := Ground.phase }, { on := 4, ground := Ground.phase }, { on := 5, ground := Ground.phase }, { on := 6, ground := Ground.phase }, { on := 7, ground := Ground.phase }, { on := 8, ground := Ground.phase }], guard := none }) (by kernel_rfl) rfl (fun wy2 hE K hK => ?_)
      have c6 := cellb c6 hE
      have c7 := cellb c7 hE
      have c50 := cellb c50 hE
      have c51 := cellb c51 hE
      have c52 := cellb c52 hE
      have c53 := cellb c53 hE
      have hbz2 := bthen hcz1 hE
      go_simp
      refine hK _ _ (fun _ => Below.refl _ _) ?_
      clear hK K hE
      try simp only [Act.put, List.setIfInBounds_toArray, List.set_cons_zero, List.set_cons_succ]
      refine wpAnyE_done (by kernel_rfl) (fun wy3 hE => ?_) _
      have hbz3 := bthen hbz2 hE
      have c6 := cellb c6 hE
      have c7 := cellb c7 hE
      have c50 := cellb c50 hE
      have c51 := cellb c51 hE
      have c52 := cellb c52 hE
      have c53 := cellb c53 hE
      clear hE
      have hz := hbz3
      obtain ⟨W5, hW5⟩ : ∃ v, v = wy3 := ⟨_, rfl⟩
      rw [← hW5] at hz c6 c7 c50 c51 c52 c53 ⊢
      clear hW5
      have hK5 := (hz.block D (Array.getElem?_eq_some_iff.1 HK.out).1).trans HK.out
      obtain ⟨b2, b3, b4, _, _⟩ := HB.out
      have d2 := b2.carry hz
      have d3 := b3.carry hz
      have d4 := b4.carry hz
      have hB5 := bthen hBW hz
      have e20 := d2.cell (j := 0) (v := .slice none 0 0) rfl
      have e21 := d2.cell (j := 1) (v := .slice none 0 0) rfl
      have e22 := d2.cell (j := 2) (v := .slice none 0 0) rfl
      have e23 := d2.cell (j := 3) (v := .slice none 0 0) rfl
      have f20 := d2.frozen 0
      have f21 := d2.frozen 1
      have f22 := d2.frozen 2
      have f23 := d2.frozen 3
      have c3 := d3.cell (j := 0) (v := .int .i64 0) rfl
      have c4 := d4.cell (j := 0) (v := .int .i64 0) rfl
      have f3 := d3.frozen 0
      have f4 := d4.frozen 0
      have hDw : w.heap.size + 2 < D := by omega
      have HO5 := Lib.hid (And.intro (HO.out.1.carry hz) (And.intro (HO.out.2.1.carry hz) (And.intro (HO.out.2.2.1.carry hz) (HO.out.2.2.2.carry hz))))
      have HRES := Lib.hid (fun (e : Ending) (W' : World) => show (if nl < 4 then e = .returned (.tuple #[zeroL, .int .i64 (nl : Int), .int .i64 2]) else
          if ce = 0 then ∃ u0 u1 u2 u3, e = .returned (.tuple #[.agg #[u0, u1, u2, u3], .int .i64 0, .int .i64 0]) ∧ Ints W' u0 q0 ∧ Ints W' u1 q1 ∧ Ints W' u2 q2 ∧ Ints W' u3 q3
          else e = .returned (.tuple #[zeroL, .int .i64 (nl : Int), .int .i64 ce])) → ParsePost L e W' from fun h => by
        unfold ParsePost
        rw [if_neg HLL.out, HR.out]
        simp only
        rw [← HE.out.1, ← HE.out.2.1, ← HE.out.2.2.1, ← HE.out.2.2.2.1, ← HE.out.2.2.2.2, ← HCE.out]
        exact h)
      clear HO HB HK b2 b3 b4 hz HE CL TF TW HMP hsz
      by_cases he : fe = 0
      · subst he
        have h1 := firstE_cons_ok HFE.out.symm
        have h2 := firstE_cons_ok h1.2
        have hce0 : ce = 0 := h2.1
        have hn : ¬ nl < 4 := by
          have h3 := HWE.out
          rw [h1.1] at h3
          intro h4
          rw [decide_eq_true (show (nl : Int) < 4 by omega)] at h3
          cases h3
        have HRS := Lib.hid (fun (e : Ending) (W' : World) h => HRES.out e W' (by rw [if_neg hn, if_pos hce0]; exact h))
        clear h1 h2 HRES
        go_wp2_with fail
        obtain ⟨Z, hZ, a2', a3', a4', hBZ, hKZ, hoZ⟩ := sixW_mark (.slice a0 q0.length k0) (.slice a1 q1.length k1) (.slice a2 q2.length k2) (.slice a3 q3.length k3) (.int .i64 0) (.int .i64 0) d2 d3 d4 hB5 hDw hK5
        have HOZ := Lib.hid (And.intro (hoZ (by omega) HO5.out.1) (And.intro (hoZ (by omega) HO5.out.2.1) (And.intro (hoZ (by omega) HO5.out.2.2.1) (hoZ (by omega) HO5.out.2.2.2))))
        unfold sixW at hZ
        rw [← hZ]
        have g0 := blk_mark (j := 0) (v := .slice a0 q0.length k0) a2' (D := D) (by omega) rfl
        have g1 := blk_mark (j := 1) (v := .slice a1 q1.length k1) a2' (D := D) (by omega) rfl
        have g2 := blk_mark (j := 2) (v := .slice a2 q2.length k2) a2' (D := D) (by omega) rfl
        have g3 := blk_mark (j := 3) (v := .slice a3 q3.length k3) a2' (D := D) (by omega) rfl
        have g4 := blk_mark (j := 0) (v := .int .i64 0) a3' (D := D) (by omega) rfl
        have g5 := blk_mark (j := 0) (v := .int .i64 0) a4' (D := D) (by omega) rfl
        clear hZ hoZ a2' a3' a4' d2 d3 d4 e20 e21 e22 e23 f20 f21 f22 f23 c3 c4 f3 f4 c6 c7 c50 c51 c52 c53 HO5
        go_wp2
        refine postR_mark (v := .tuple #[.agg #[.slice a0 q0.length k0, .slice a1 q1.length k1, .slice a2 q2.length k2, .slice a3 q3.length k3], .int .i64 0, .int .i64 0]) hKZ rfl ?_ ⟨HRS.out _ _ ⟨_, _, _, _, rfl, owni_mark HOZ.out.1 hKZ, owni_mark HOZ.out.2.1 hKZ, owni_mark HOZ.out.2.2.1 hKZ, owni_mark HOZ.out.2.2.2 hKZ⟩, hBZ.trans (belowK_b (w := w) (Nat.le_refl _) _ D _ _ (by omega) hKZ rfl rfl)⟩
        simp [results, Tryz.f9, go_sem, g0, g1, g2, g3, g4, g5]
      · have hzb : (fe != 0) = true := by rw [bne_iff_ne]; exact he
        have HRS := Lib.hid (fun (W' : World) => HRES.out (.returned (.tuple #[zeroL, .int .i64 (nl : Int), .int .i64 fe])) W' (by
          by_cases h4 : nl < 4
          · rw [if_pos h4]
            have h3 := HWE.out
            rw [decide_eq_true (show (nl : Int) < 4 by omega)] at h3
            have h5 : we = 2 := h3
            have h6 := HFE.out
            rw [h5] at h6
            have h7 : fe = 2 := h6
            rw [h7]
          · rw [if_neg h4]
            have h3 := HWE.out
            rw [decide_eq_false (show ¬ (nl : Int) < 4 by omega)] at h3
            have h5 : we = 0 := h3
            have h6 := HFE.out
            rw [h5] at h6
            have h7 : fe = ce := by
              rw [h6]
              simp only [firstE, if_true]
              split
              · rename_i h8; rw [h8]
              · rfl
            rw [if_neg (by rw [← h7]; exact he), h7]))
        clear HRES HO5 c50 c51 c52 c53
        go_wp2_with fail
        go_region
        obtain ⟨Z, hZ, a2', a3', a4', hBZ, hKZ, _⟩ := sixW_mark (.slice none 0 0) (.slice none 0 0) (.slice none 0 0) (.slice none 0 0) (.int .i64 (nl : Int)) (.int .i64 fe) d2 d3 d4 hB5 hDw hK5
        unfold sixW at hZ
        rw [← hZ]
        obtain ⟨Y, hY⟩ : ∃ v, v = Z.drew := ⟨_, rfl⟩
        replace a2' : Blk Y w.heap.size 32 [.slice none 0 0, .slice none 0 0, .slice none 0 0, .slice none 0 0] := by rw [hY]; exact a2'
        replace a3' : Blk Y (w.heap.size + 1) 3 [.int .i64 (nl : Int)] := by rw [hY]; exact a3'
        replace a4' : Blk Y (w.heap.size + 2) 27 [.int .i64 fe] := by rw [hY]; exact a4'
        replace hKZ : Y.heap[D]? = some (.deferred (some [])) := by rw [hY]; exact hKZ
        replace hBZ : Below w.heap.size w Y := by rw [hY]; exact hBZ.drew
        rw [← hY]
        clear hY hZ
        have g0 := blk_mark (j := 0) (v := .slice none 0 0) a2' (D := D) (by omega) rfl
        have g1 := blk_mark (j := 1) (v := .slice none 0 0) a2' (D := D) (by omega) rfl
        have g2 := blk_mark (j := 2) (v := .slice none 0 0) a2' (D := D) (by omega) rfl
        have g3 := blk_mark (j := 3) (v := .slice none 0 0) a2' (D := D) (by omega) rfl
        have g4 := blk_mark (j := 0) (v := .int .i64 (nl : Int)) a3' (D := D) (by omega) rfl
        have g5 := blk_mark (j := 0) (v := .int .i64 fe) a4' (D := D) (by omega) rfl
        clear a2' a3' a4' d2 d3 d4 e20 e21 e22 e23 f20 f21 f22 f23 c3 c4 f3 f4 c6 c7
        go_wp2
        refine postR_mark (v := .tuple #[zeroL, .int .i64 (nl : Int), .int .i64 fe]) hKZ rfl ?_ ⟨HRS.out _, hBZ.trans (belowK_b (w := w) (Nat.le_refl _) _ D _ _ (by omega) hKZ rfl rfl)⟩
        simp [results, Tryz.f9, go_sem, g0, g1, g2, g3, g4, g5, zeroL]
    case stop =>
      rintro D c pre W hD ⟨post, hpost⟩ ⟨⟨rfl, pre', x, rfl, hgood, hbad⟩, b2, b3, b4, hBW⟩ hK
      have hsW := hBW.size
      have hpl : (pre' ++ [x]).length - 1 = pre'.length := by simp
      rw [hpl] at b3
      have hba : badN (linesL L) = some pre'.length := badN_some (l := x.2) (by
          rw [← hpost, List.map_append, List.append_assoc, List.getElem?_append_right (by rw [List.length_map]; omega)]
          simp) hbad (fun j y hj hy => by
          rw [← hpost, List.map_append, List.append_assoc, List.getElem?_append_left (by rw [List.length_map]; exact hj), List.getElem?_map] at hy
          obtain ⟨z, hz, rfl⟩ := Option.map_eq_some_iff.1 hy
          exact hgood j z hz)
      have HR := Lib.hid hba
      have HLL := Lib.hid (show ¬ 4096 < L.length by rw [HL.out]; exact hlt)
      clear hba hbad hpost hgood hpl
      have g0 := blk_mark (j := 0) (v := .slice none 0 0) b2 (D := D) (by omega) rfl
      have g1 := blk_mark (j := 1) (v := .slice none 0 0) b2 (D := D) (by omega) rfl
      have g2 := blk_mark (j := 2) (v := .slice none 0 0) b2 (D := D) (by omega) rfl
      have g3 := blk_mark (j := 3) (v := .slice none 0 0) b2 (D := D) (by omega) rfl
      have g4 := blk_mark (j := 0) (v := .int .i64 (pre'.length : Int)) b3 (D := D) (by omega) rfl
      have g5 := blk_mark (j := 0) (v := .int .i64 25) b4 (D := D) (by omega) rfl
      go_wp2
      refine postR_mark (v := .tuple #[zeroL, .int .i64 (pre'.length : Int), .int .i64 25]) hK rfl ?_ ⟨?_, hBW.trans (belowK_b (w := w) (Nat.le_refl _) _ D _ _ (by omega) hK rfl rfl)⟩
      · simp [results, Tryz.f9, go_sem, g0, g1, g2, g3, g4, g5, zeroL]
      · unfold ParsePost
        rw [if_neg HLL.out, HR.out]
end Go.Proofs.YtfdehcphmmhjaaaGreatDoor

/- Texts: the reference's Parse. -/
import Derived.Test.YtoihfmndhfnmmaaGreatDoorTxtJ
import Derived.Test.YtoihfmndhfnmmaaGreatDoorHqD
namespace Go.Proofs.YtoihfmndhfnmmaaGreatDoor
set_option linter.unusedSimpArgs false
set_option linter.unusedVariables false
open Go.RowKit

theorem lineP_end (p : List UInt8) : lineP (p ++ [10]) = brW (splitC 32 p) := by
  unfold lineP
  rw [if_pos (by simp), List.dropLast_concat]
theorem lineP_free {p : List UInt8} (h : (10 : UInt8) ∉ p) : lineP p = none := by
  unfold lineP
  rw [if_neg]
  intro e
  exact h (List.mem_of_getLast? e)
/-- the parts of a text: whole lines, and what stands behind the last end. -/
theorem parts (L : List UInt8) : ∃ init last, splitC 10 L = init ++ [last] ∧ (10 : UInt8) ∉ last ∧ linesL L = init.map (· ++ [10]) ++ (if last = [] then [] else [last]) := by
  have hne := splitC_ne 10 L
  refine ⟨(splitC 10 L).dropLast, (splitC 10 L).getLast hne, (List.dropLast_concat_getLast hne).symm, splitC_free 10 L _ (List.getLast_mem hne), rfl⟩
def brP (p : List UInt8) : Option (Int × Int) := brW (splitC 32 p)
/-- a line that is wrong. -/
theorem bad_mid {L : List UInt8} {init : List (List UInt8)} {last p : List UInt8} (hl : linesL L = init.map (· ++ [10]) ++ (if last = [] then [] else [last])) {k : Nat} (hk : init[k]? = some p) (hp : brP p = none)
    (hg : ∀ q ∈ init.take k, brP q ≠ none) : badAt (linesL L) = some k := by
  have hkl := (List.getElem?_eq_some_iff.1 hk).1
  refine badAt_some (l := p ++ [10]) ?_ (by rw [lineP_end]; exact hp) (fun j x hj hx => ?_)
  · rw [hl, List.getElem?_append_left (by rw [List.length_map]; exact hkl), List.getElem?_map, hk]; rfl
  · rw [hl, List.getElem?_append_left (by rw [List.length_map]; omega), List.getElem?_map] at hx
    obtain ⟨q, hq, rfl⟩ := Option.map_eq_some_iff.1 hx
    rw [lineP_end]
    refine hg q (List.mem_iff_getElem?.2 ⟨j, ?_⟩)
    rw [List.getElem?_take, if_pos hj]; exact hq
theorem bad_last {L : List UInt8} {init : List (List UInt8)} {last : List UInt8} (hl : linesL L = init.map (· ++ [10]) ++ (if last = [] then [] else [last])) (hf : (10 : UInt8) ∉ last) (hn : last ≠ [])
    (hg : ∀ q ∈ init, brP q ≠ none) : badAt (linesL L) = some init.length := by
  rw [if_neg hn] at hl
  refine badAt_some (l := last) ?_ (lineP_free hf) (fun j x hj hx => ?_)
  · rw [hl, List.getElem?_append_right (by rw [List.length_map]; exact Nat.le_refl _), List.length_map]; simp
  · rw [hl, List.getElem?_append_left (by rw [List.length_map]; omega), List.getElem?_map] at hx
    obtain ⟨q, hq, rfl⟩ := Option.map_eq_some_iff.1 hx
    rw [lineP_end]
    exact hg q (List.mem_of_getElem? hq)
theorem bad_none {L : List UInt8} {init : List (List UInt8)} (hl : linesL L = init.map (· ++ [10]) ++ (if ([] : List UInt8) = [] then [] else [([] : List UInt8)])) (hg : ∀ q ∈ init, brP q ≠ none) :
    badAt (linesL L) = none ∧ brsOf (linesL L) = init.filterMap brP ∧ (linesL L).length = init.length := by
  rw [if_pos rfl, List.append_nil] at hl
  rw [hl]
  refine ⟨badAt_none fun x hx => ?_, ?_, by rw [List.length_map]⟩
  · obtain ⟨q, hq, rfl⟩ := List.mem_map.1 hx
    rw [lineP_end]; exact hg q hq
  · unfold brsOf
    rw [List.filterMap_map]
    congr 1
    funext q
    exact lineP_end q
theorem brP_some {p : List UInt8} {ws : List (List UInt8)} (hw : splitC 32 p = ws) (h3 : ws.length = 3) (h0 : ws[0]?.getD [] = [98, 114, 97, 110, 99, 104]) (h1 : digOk (ws[1]?.getD []) = true) (h2 : digOk (ws[2]?.getD []) = true) :
    brP p = some (valD (ws[1]?.getD []), valD (ws[2]?.getD [])) := by
  unfold brP brW
  rw [hw, if_pos ⟨h3, h0, h1, h2⟩]
theorem brP_none {p : List UInt8} {ws : List (List UInt8)} (hw : splitC 32 p = ws) (h : ¬ (ws.length = 3 ∧ ws[0]?.getD [] = [98, 114, 97, 110, 99, 104] ∧ digOk (ws[1]?.getD []) = true ∧ digOk (ws[2]?.getD []) = true)) :
    brP p = none := by
  unfold brP brW
  rw [hw, if_neg h]
theorem splitAt (c : UInt8) (L : List UInt8) (w : World) (hl : L.length ≤ 1000000) (d : Int) (hd : d = (c.toNat : Int)) :
    Calls Tryz.prog 38 #[.string ⟨L.toArray⟩, .int .u8 d] w fun e w' => (∃ g cap, e = .returned (.slice (some ⟨g, 0, none⟩) (splitC c L).length cap) ∧ (w.heap.size ≤ g ∧ g < w'.heap.size) ∧ ∀ j p, (splitC c L)[j]? = some p → w'.cell? ⟨g, j, none⟩ = some (.string ⟨p.toArray⟩)) ∧ Below w.heap.size w w' := by
  subst hd
  refine (Split_any ⟨L.toArray⟩ c w (by rw [mk_size]; exact hl)).mono ?_
  rintro e w' ⟨⟨u, rfl, hu⟩, hb⟩
  refine ⟨?_, hb⟩
  have hu' : OwnS w.heap.size w' u (splitC c L) := hu
  have hlen := splitC_length c L
  unfold OwnS at hu'
  obtain ⟨n, hn⟩ : ∃ n, (splitC c L).length = n + 1 := ⟨_, hlen⟩
  rw [hn] at hu' ⊢
  obtain ⟨g, cap, rfl⟩ := ownsRow_succ hu'
  refine ⟨g, cap, rfl, hu'.lt g rfl, fun j p hj => ?_⟩
  have hjl := (List.getElem?_eq_some_iff.1 hj).1
  rw [hu'.cellAt j (by omega), List.getElem?_map, hj]
  rfl
theorem digitsAt (q : List UInt8) (hq : q.length ≤ 1000000) (w : World) :
    Calls Tryz.prog 89 #[.string ⟨q.toArray⟩] w fun e w' => e = .returned (.tuple #[.int .i64 (digV q), .bool (digOk q)]) ∧ w = w' := Digits_any ⟨q.toArray⟩ w (by rw [mk_size]; exact hq)
theorem Keep.cell {S : Nat → Prop} {W W1 : World} (h : Keep S W W1) {b o : Nat} {v : Value} (hc : W.cell? ⟨b, o, none⟩ = some v) (hs : ¬ S b) : W1.cell? ⟨b, o, none⟩ = some v := by
  cases hh : W.heap[b]? with
  | none => simp [World.cell?, hh] at hc
  | some ob =>
    have h1 := h.same b ob hh (.inl hs)
    simp only [World.cell?, hh, h1] at hc ⊢
    exact hc
theorem Tryz.undBrR : Tryz.prog.underlying 65 = some (.slice 151) := by kernel_rfl
set_option maxRecDepth 100000 in
set_option maxHeartbeats 8000000 in
theorem ParseR_any (s : ByteArray) (w : World) (hs : s.size ≤ 100000) :
    Calls Tryz.prog 34 #[.string s] w fun e W' => ParsePost s.data.toList e W' ∧ Below w.heap.size w W' := by
  have HL := Lib.hid (data_len s)
  obtain ⟨L, hL⟩ : ∃ L, L = s.data.toList := ⟨_, rfl⟩
  have hsL : s = ⟨L.toArray⟩ := baEq (by rw [hL])
  rw [← hL] at HL ⊢
  clear hL
  subst hsL
  rw [mk_size] at hs
  have hLn : (⟨L.toArray⟩ : ByteArray).size = L.length := mk_size L
  clear HL
  obtain ⟨i0, hi, hz0, hz1, hz2⟩ := info_parts Tryz.infoBranchR
  go_enter Tryz.func34, Tryz.ntmps34
  by_cases hlt : 4096 < L.length
  · have hlt' : 4096 < (L.length : Int) := by omega
    go_upto_region 1 with fail
    obtain ⟨W1, hW1⟩ : ∃ v, v = World.alloc w (Obj.cells #[.slice none 0 0] 67) := ⟨_, rfl⟩
    have kW1 : Below w.heap.size w W1 := by rw [hW1]; exact below_new _ _
    have iW1 : Blk W1 (w.heap.size) 67 [.slice none 0 0] := by rw [hW1]; exact Blk.new _ _ _
    have sW1 : W1.heap.size = w.heap.size + 1 := by rw [hW1]; simp
    rw [← hW1]
    clear hW1
    have c2 := iW1.cell (j := 0) (v := .slice none 0 0) rfl
    have f2 := iW1.frozen 0
    go_wp2
    have e2 := (iW1.set 0 (.slice none 0 0)).cell (j := 0) (v := .slice none 0 0) rfl
    refine bodyPost_ret (v := .tuple #[.agg #[.slice none 0 0], .int .i64 0, .int .i64 26]) (by simp [results, Tryz.f34, go_sem, e2]) rfl ⟨?_, kW1.setCell (by simp) _⟩
    unfold ParsePost
    rw [if_pos hlt]
  · have hlt' : ¬ 4096 < (L.length : Int) := by omega
    obtain ⟨init, last, hps, hfree, hlines⟩ := parts L
    have HS := Lib.hid (fun W => splitAt 10 L W (by omega) 10 rfl)
    have hml := splitC_length 10 L
    have hcl : L.count 10 ≤ L.length := List.count_le_length
    have HPL := Lib.hid (fun q (hq : q ∈ init ++ [last]) => by rw [← hps] at hq; exact splitC_len 10 L q hq)
    rw [hps] at HS
    obtain ⟨m, hm⟩ : ∃ m, m = init.length := ⟨_, rfl⟩
    have hlen : (init ++ [last]).length = m + 1 := by rw [List.length_append, hm]; rfl
    rw [hlen] at HS
    have hm5 : m ≤ 100000 := by rw [hps, hlen] at hml; omega
    have HM := Lib.hid hm
    have HLI := Lib.hid hlines
    have HFR := Lib.hid hfree
    clear hps hml hcl hlen hm hlines hfree
    go_upto_region 1 with fail
    obtain ⟨W1, hW1⟩ : ∃ v, v = World.alloc w (Obj.cells #[.slice none 0 0] 67) := ⟨_, rfl⟩
    have kW1 : Below w.heap.size w W1 := by rw [hW1]; exact below_new _ _
    have iW1 : Blk W1 (w.heap.size) 67 [.slice none 0 0] := by rw [hW1]; exact Blk.new _ _ _
    have sW1 : W1.heap.size = w.heap.size + 1 := by rw [hW1]; simp
    rw [← hW1]
    clear hW1
    go_upto_region 4 with fail
    obtain ⟨W2, hW2⟩ : ∃ v, v = World.alloc W1 (Obj.cells #[.slice none 0 0] 67) := ⟨_, rfl⟩
    have kW2 : Below W1.heap.size W1 W2 := by rw [hW2]; exact below_new _ _
    have iW2 : Blk W2 (w.heap.size + 1) 67 [.slice none 0 0] := by rw [hW2, ← sW1]; exact Blk.new _ _ _
    have sW2 : W2.heap.size = w.heap.size + 1 + 1 := by rw [hW2]; simp [sW1]
    rw [← hW2]
    clear hW2
    have b2 := iW1.carry kW2
    have b5 := iW2
    have hB2 := bthen kW1 kW2
    have s2 : W2.heap.size = w.heap.size + 2 := by omega
    clear iW1 iW2 kW1 kW2 sW1 sW2
    go_wp2_with fail
    refine (HS.out W2).mono ?_
    rintro e W3 ⟨⟨g, cap, rfl, hg, hcs⟩, hb3⟩
    have b2 := b2.carry hb3
    have b5 := b5.carry hb3
    have hB3 := bthen hB2 hb3
    have s3 := hb3.size
    have HCS := Lib.hid hcs
    clear hcs hb3 hB2 HS
    go_wp2_with fail
    go_loopw [7] (fun i wr => ∃ (k : Nat) (fv : Value), k ≤ m + 1 ∧ i = .int .i64 k ∧ (∀ q ∈ init.take k, brP q ≠ none) ∧ (k = m + 1 → last = []) ∧ Blk wr (w.heap.size + 1) 67 [fv] ∧
      wr.ownsRow W3.heap.size 151 2 fv ((init.take k).filterMap brP).length ((flat2 ((init.take k).filterMap brP)).map (Value.int .i64)) ∧ Keep (fun j => j = w.heap.size + 1 ∨ W3.heap.size ≤ j) W3 wr) (fun i _ => m + 1 - (intOf i).toNat)
    case atStart => exact ⟨0, _, by omega, rfl, fun q hq => by simp at hq, fun h => by omega, b5, World.ownsRow_nil _ _ _ _, Keep.refl _ _⟩
    case round =>
      clear b5
      obtain ⟨k, fv, hk, rfl, hgood, hlast, b5, hown, hkp⟩ := hrel
      have b2z := hkp.blk b2 (by omega)
      have hBz : Below w.heap.size w wr := hB3.trans (hkp.below (fun j hj => by omega) (by omega))
      have c2 := b2z.cell (j := 0) (v := .slice none 0 0) rfl
      have f2 := b2z.frozen 0
      have v0 : IntKind.i64.wrap ((m : Int) + 1 - 1) = (m : Int) := (IntWalk.i64_in _ (by omega)).trans (by omega)
      have v1 : IntKind.i64.wrap (m : Int) = (m : Int) := IntWalk.i64_in _ (by omega)
      by_cases hlt1 : k < m + 1
      · have d1 : (k : Int) < (m : Int) + 1 := by omega
        have d3 : 0 ≤ (k : Int) := by omega
        clear hlast
        by_cases hkm : k = m
        · subst hkm
          have hget : (init ++ [last])[k]? = some last := by rw [HM.out]; simp
          have cw := hkp.cell (HCS.out k last hget) (by omega)
          have hga : ∀ q ∈ init, brP q ≠ none := fun q hq => hgood q (by rw [HM.out, List.take_length]; exact hq)
          by_cases hle : last = []
          · have HTK := Lib.hid (show init.take (k + 1) = init.take k by rw [HM.out, List.take_of_length_le (by omega), List.take_length])
            have HGA := Lib.hid hga
            have HLE := Lib.hid hle
            have hlb : last.isEmpty = true := by rw [hle]; rfl
            have hlb2 : (last == []) = true := by rw [hle]; rfl
            clear hga hgood hget hle
            go_wp2
            go_roundw
            case rel => exact ⟨k + 1, fv, by omega, by go_num, fun q hq => HGA.out q (List.mem_of_mem_take hq), fun _ => HLE.out, b5, by rw [HTK.out]; exact hown, hkp⟩
            case measure => simp [intOf]
          · have HBAD := Lib.hid (show badAt (linesL L) = some k by rw [HM.out]; exact bad_last HLI.out HFR.out hle hga)
            have hlb : last.isEmpty = false := by
              cases last with
              | nil => exact absurd rfl hle
              | cons a b => rfl
            have hlb2 : (last == []) = false := by
              cases last with
              | nil => exact absurd rfl hle
              | cons a b => rfl
            clear hga hgood hget
            go_wp2
            have e2 := (b2z.set 0 (.slice none 0 0)).cell (j := 0) (v := .slice none 0 0) rfl
            refine bodyPost_ret (v := .tuple #[.agg #[.slice none 0 0], .int .i64 (k : Int), .int .i64 25]) (by simp [results, Tryz.f34, go_sem, e2]) rfl ⟨?_, hBz.setCell (by simp) _⟩
            unfold ParsePost
            rw [if_neg hlt, HBAD.out]
        · obtain ⟨p, hp⟩ : ∃ p, init[k]? = some p := ⟨_, List.getElem?_eq_getElem (by rw [← HM.out]; omega)⟩
          have hget : (init ++ [last])[k]? = some p := by rw [List.getElem?_append_left (by rw [← HM.out]; omega)]; exact hp
          have cw := hkp.cell (HCS.out k p hget) (by omega)
          have d2 : (k : Int) ≠ (m : Int) := by omega
          have d4 : ((k : Int) == (m : Int)) = false := by simpa using d2
          have hpl : p.length ≤ 100000 := by have := HPL.out p (List.mem_of_getElem? hget); omega
          have HBD := Lib.hid (fun (h : brP p = none) => bad_mid HLI.out hp h hgood)
          have HTK := Lib.hid (show init.take (k + 1) = init.take k ++ [p] by rw [List.take_add_one, hp]; rfl)
          have HGD := Lib.hid hgood
          have HSW := Lib.hid (splitAt 32 p wr (by omega) 32 rfl)
          obtain ⟨ws, hws⟩ : ∃ ws, ws = splitC 32 p := ⟨_, rfl⟩
          have HWL := Lib.hid (fun q (hq : q ∈ ws) => by rw [hws] at hq; exact splitC_len 32 p q hq)
          have hwl : ws.length ≤ 100001 := by
            have h1 := splitC_length 32 p
            have h2 : p.count 32 ≤ p.length := List.count_le_length
            rw [hws]; omega
          have HWS := Lib.hid hws.symm
          rw [← hws] at HSW
          clear hws hget hgood hp
          go_wp2_with fail
          refine HSW.out.mono ?_
          rintro e W4 ⟨⟨g2, cap2, rfl, hg2, hcw⟩, hb4⟩
          replace b5 := b5.carry hb4
          replace hown := own_below hown hb4
          replace hkp := hkp.trans (Keep.of_below hb4)
          replace b2z := b2z.carry hb4
          replace hBz := bthen hBz hb4
          replace c2 := cellb c2 hb4
          replace f2 := b2z.frozen 0
          have HCW := Lib.hid hcw
          clear hcw cw HSW
          by_cases h3 : ws.length = 3
          · have HW3 := Lib.hid h3
            obtain ⟨q0, q1, q2, rfl⟩ : ∃ a b c, ws = [a, b, c] := by
              match ws, h3 with
              | [a, b, c], _ => exact ⟨a, b, c, rfl⟩
            have x0 := HCW.out 0 q0 rfl
            have x1 := HCW.out 1 q1 rfl
            have x2 := HCW.out 2 q2 rfl
            by_cases hq0 : q0 = [98, 114, 97, 110, 99, 104]
            · have hq0b : (q0 == [98, 114, 97, 110, 99, 104]) = true := by rw [hq0]; rfl
              have HQ0 := Lib.hid hq0
              have D1 := Lib.hid (fun W => digitsAt q1 (by have := HWL.out q1 (by simp); omega) W)
              have D2 := Lib.hid (fun W => digitsAt q2 (by have := HWL.out q2 (by simp); omega) W)
              have hbr := fun h1 h2 => brP_some HWS.out h3 (by rw [hq0]; rfl) (show digOk q1 = true from h1) (show digOk q2 = true from h2)
              have HBR := Lib.hid hbr
              have HBN := Lib.hid (fun (h : ¬ (digOk q1 = true ∧ digOk q2 = true)) => HBD.out (brP_none HWS.out (fun e => h ⟨e.2.2.1, e.2.2.2⟩)))
              clear hq0 hbr h3
              obtain ⟨o1, ho1⟩ : ∃ o, o = digOk q1 := ⟨_, rfl⟩
              obtain ⟨o2, ho2⟩ : ∃ o, o = digOk q2 := ⟨_, rfl⟩
              have HV1 := Lib.hid (fun h : o1 = true => digV_true (l := q1) (by rw [← ho1]; exact h))
              have HV2 := Lib.hid (fun h : o2 = true => digV_true (l := q2) (by rw [← ho2]; exact h))
              rw [← ho1] at D1 HBR HBN
              rw [← ho2] at D2 HBR HBN
              clear ho1 ho2
              cases o1 with
              | false =>
                have HBAD := Lib.hid (HBN.out (fun e => by cases e.1))
                go_wp2_with fail
                refine (D1.out W4).mono ?_
                rintro e W5 ⟨rfl, rfl⟩
                go_wp2_with fail
                refine (D2.out _).mono ?_
                rintro e W5 ⟨rfl, rfl⟩
                go_wp2
                have e2 := (b2z.set 0 (.slice none 0 0)).cell (j := 0) (v := .slice none 0 0) rfl
                refine bodyPost_ret (v := .tuple #[.agg #[.slice none 0 0], .int .i64 (k : Int), .int .i64 25]) (by simp [results, Tryz.f34, go_sem, e2]) rfl ⟨?_, hBz.setCell (by simp) _⟩
                unfold ParsePost
                rw [if_neg hlt, HBAD.out]
              | true =>
                cases o2 with
                | false =>
                  have HBAD := Lib.hid (HBN.out (fun e => by cases e.2))
                  go_wp2_with fail
                  refine (D1.out W4).mono ?_
                  rintro e W5 ⟨rfl, rfl⟩
                  go_wp2_with fail
                  refine (D2.out _).mono ?_
                  rintro e W5 ⟨rfl, rfl⟩
                  go_wp2
                  have e2 := (b2z.set 0 (.slice none 0 0)).cell (j := 0) (v := .slice none 0 0) rfl
                  refine bodyPost_ret (v := .tuple #[.agg #[.slice none 0 0], .int .i64 (k : Int), .int .i64 25]) (by simp [results, Tryz.f34, go_sem, e2]) rfl ⟨?_, hBz.setCell (by simp) _⟩
                  unfold ParsePost
                  rw [if_neg hlt, HBAD.out]
                | true =>
                  have HB2 := Lib.hid (show brP p = some (digV q1, digV q2) by rw [HV1.out rfl, HV2.out rfl]; exact HBR.out rfl rfl)
                  generalize digV q1 = v1' at HB2 D1
                  generalize digV q2 = v2' at HB2 D2
                  obtain ⟨fa, fc, rfl⟩ := ownsRow_sl hown
                  have HFL := Lib.hid (show ((init.take k).filterMap brP).length ≤ 1000000 from Nat.le_trans (List.length_filterMap_le ..) (by rw [List.length_take]; omega))
                  obtain ⟨fl, hfl⟩ : ∃ fl, fl = (init.take k).filterMap brP := ⟨_, rfl⟩
                  rw [← hfl] at hown b5 HFL
                  have HFLE := Lib.hid hfl
                  clear hfl
                  have c5 := b5.cell (j := 0) (v := .slice fa fl.length fc) rfl
                  have f5 := b5.frozen 0
                  have hfl2 := HFL.out
                  go_wp2_with fail
                  refine (D1.out W4).mono ?_
                  rintro e W5 ⟨rfl, rfl⟩
                  go_wp2_with fail
                  refine (D2.out _).mono ?_
                  rintro e W5 ⟨rfl, rfl⟩
                  go_wp2_with (at_builtin; refine wpList_append_own _ rfl _ _ 65 rfl W3.heap.size 151 i0 (.agg #[.int .i64 0, .int .i64 0]) 2 16 Tryz.undBrR hi hz0 hz1 hz2 rfl (by decide) _ _ _ rfl (hown.alloc _) ⟨W4.heap.size, 0, none⟩ 1 1 [.int .i64 v1', .int .i64 v2'] rfl rfl (fun j u hj => (Blk.new W4 151 [.int .i64 v1', .int .i64 v2']).news j u hj) (by simp [Value.oneCell']) (by unfold maxLen; omega) (by omega) (by have := hkp.size; simp; omega) ?_; intro v' W6 ho3 hg3 _; obtain ⟨fa', fc', rfl⟩ := ownsRow_sl ho3; have jF := Blk.own_kept (b5.carry (below_new W4 (.cells #[.int .i64 v1', .int .i64 v2'] 151))) (hown.alloc _) (by decide) hg3; have cF := jF.cell (j := 0) (v := .slice fa fl.length fc) rfl; have fF := jF.frozen 0)
                  have hoa := hown.alloc (.cells #[.int .i64 v1', .int .i64 v2'] 151)
                  have hk6 := (hkp.trans (Keep.of_below (below_new W4 (.cells #[.int .i64 v1', .int .i64 v2'] 151)))).grown hg3 (fun b hb => ⟨.inr (hoa.lt b hb).1, fun o ho' => ownsRow_cells hoa hb ho'⟩)
                  have hk7 := hk6.setCell (o := 0) jF (.inl rfl) (.slice fa' (fl.length + 1) fc')
                  have hFs : w.heap.size + 1 < W3.heap.size := by omega
                  have ho7 := ownsRow_setO (j := 0) (x := .slice fa' (fl.length + 1) fc') ho3 hFs
                  have b7 := jF.set 0 (.slice fa' (fl.length + 1) fc')
                  have hfm : (init.take (k + 1)).filterMap brP = fl ++ [(v1', v2')] := by
                    rw [HTK.out, List.filterMap_append, ← HFLE.out]
                    simp [HB2.out]
                  go_wp2_with fail
                  go_roundw
                  case rel => exact ⟨k + 1, _, by omega, by go_num, fun q hq => by
                    rw [HTK.out] at hq
                    rcases List.mem_append.1 hq with hq | hq
                    · exact HGD.out q hq
                    · rw [List.mem_singleton.1 hq, HB2.out]; simp, fun h => absurd h (by omega), b7, by
                    rw [hfm, List.length_append, List.length_singleton, flat2_snoc, List.map_append]
                    exact ho7, hk7⟩
                  case measure => simp [intOf]; omega
            · have hq0b : (q0 == [98, 114, 97, 110, 99, 104]) = false := by simpa using hq0
              have HBAD := Lib.hid (HBD.out (brP_none HWS.out (fun e => hq0 e.2.1)))
              clear h3
              go_wp2
              have e2 := (b2z.set 0 (.slice none 0 0)).cell (j := 0) (v := .slice none 0 0) rfl
              refine bodyPost_ret (v := .tuple #[.agg #[.slice none 0 0], .int .i64 (k : Int), .int .i64 25]) (by simp [results, Tryz.f34, go_sem, e2]) rfl ⟨?_, hBz.setCell (by simp) _⟩
              unfold ParsePost
              rw [if_neg hlt, HBAD.out]
          · have h3b : ((ws.length : Int) == 3) = false := by
              rw [beq_eq_false_iff_ne]; omega
            have h3c : (ws.length : Int) ≠ 3 := by omega
            have HBAD := Lib.hid (HBD.out (brP_none HWS.out (fun e => h3 e.1)))
            go_wp2
            have e2 := (b2z.set 0 (.slice none 0 0)).cell (j := 0) (v := .slice none 0 0) rfl
            refine bodyPost_ret (v := .tuple #[.agg #[.slice none 0 0], .int .i64 (k : Int), .int .i64 25]) (by simp [results, Tryz.f34, go_sem, e2]) rfl ⟨?_, hBz.setCell (by simp) _⟩
            unfold ParsePost
            rw [if_neg hlt, HBAD.out]
      · obtain rfl : k = m + 1 := by omega
        have hl0 := hlast rfl
        subst hl0
        have htk : init.take (m + 1) = init := List.take_of_length_le (by rw [← HM.out]; omega)
        rw [htk] at hgood hown
        obtain ⟨z1, z2, z3⟩ := bad_none HLI.out hgood
        rw [← HM.out] at z3
        obtain ⟨bl, hblq⟩ : ∃ bl, bl = init.filterMap brP := ⟨_, rfl⟩
        rw [← hblq] at hown z2
        have hbl : bl.length ≤ 1000000 := by
          rw [hblq]
          exact Nat.le_trans (List.length_filterMap_le ..) (by rw [← HM.out]; omega)
        have hp : Pairs wr fv bl := Pairs.of_own hown
        obtain ⟨fa, fc, rfl, _, _⟩ := id hp
        have c5 := b5.cell (j := 0) (v := .slice fa bl.length fc) rfl
        have TC := Lib.hid (CheckFilterR_any _ bl wr hp hbl)
        have HO := Lib.hid hown
        have Z := Lib.hid (And.intro z1 (And.intro z2 z3))
        have d1 : ¬ ((m : Int) + 1) < (m : Int) + 1 := by omega
        clear hgood htk z1 z2 z3 hp hown hblq hlast
        go_wp2_with fail
        refine TC.out.mono ?_
        rintro e W4 ⟨rfl, hb4⟩
        replace b2z := b2z.carry hb4
        replace b5 := b5.carry hb4
        replace hBz := bthen hBz hb4
        have ho4 := own_below HO.out hb4
        have hFs : w.heap.size < W3.heap.size := by omega
        obtain ⟨fe, hfe⟩ : ∃ fe, fe = fltE bl := ⟨_, rfl⟩
        rw [← hfe]
        have HFE := Lib.hid hfe
        clear hfe c2 f2 c5 TC hb4
        have c2 := b2z.cell (j := 0) (v := .slice none 0 0) rfl
        have f2 := b2z.frozen 0
        have c5 := b5.cell (j := 0) (v := .slice fa bl.length fc) rfl
        by_cases hz : fe = 0
        · subst hz
          have ho7 := ownsRow_setO (j := 0) (x := .slice fa bl.length fc) ho4 hFs
          go_wp2
          have e2 := (b2z.set 0 (.slice fa bl.length fc)).cell (j := 0) (v := .slice fa bl.length fc) rfl
          refine bodyPost_ret (v := .tuple #[.agg #[.slice fa bl.length fc], .int .i64 0, .int .i64 0]) (by simp [results, Tryz.f34, go_sem, e2]) rfl ⟨?_, hBz.setCell (by simp) _⟩
          unfold ParsePost
          rw [if_neg hlt, Z.out.1]
          simp only
          rw [Z.out.2.1, ← HFE.out, if_pos rfl]
          exact ⟨_, rfl, Pairs.of_own ho7⟩
        · have hzb : (fe != 0) = true := by rw [bne_iff_ne]; exact hz
          go_wp2
          have e2 := (b2z.set 0 (.slice none 0 0)).cell (j := 0) (v := .slice none 0 0) rfl
          refine bodyPost_ret (v := .tuple #[.agg #[.slice none 0 0], .int .i64 (m : Int), .int .i64 fe]) (by simp [results, Tryz.f34, go_sem, e2]) rfl ⟨?_, hBz.setCell (by simp) _⟩
          unfold ParsePost
          rw [if_neg hlt, Z.out.1]
          simp only
          rw [Z.out.2.1, Z.out.2.2, ← HFE.out, if_neg hz]
end Go.Proofs.YtoihfmndhfnmmaaGreatDoor

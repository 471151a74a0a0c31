/- Texts of loops: the reference's signed integers and lines. -/
import Derived.Test.YtfdehcphmmhjaaaGreatDoorLopA
import Derived.Test.YtfdehcphmmhjaaaGreatDoorRefL
namespace Go.Proofs.YtfdehcphmmhjaaaGreatDoor
set_option linter.unusedSimpArgs false
set_option linter.unusedVariables false
open Go.RowKit

theorem splitAt (c : UInt8) (L : List UInt8) (w : World) (hl : L.length ≤ 1000000) (d : Int) (hd : d = (c.toNat : Int)) :
    Calls Tryz.prog 15 #[.string ⟨L.toArray⟩, .int .u8 d] w fun e w' => (∃ g cap, e = .returned (.slice (some ⟨g, 0, none⟩) (splitC c L).length cap) ∧ (w.heap.size ≤ g ∧ g < w'.heap.size) ∧ ∀ j p, (splitC c L)[j]? = some p → w'.cell? ⟨g, j, none⟩ = some (.string ⟨p.toArray⟩)) ∧ Below w.heap.size w w' := by
  subst hd
  refine (Split_any ⟨L.toArray⟩ c w (by rw [mk_size]; exact hl)).mono ?_
  rintro e w' ⟨⟨u, rfl, hu⟩, hb⟩
  refine ⟨?_, hb⟩
  have hu' : OwnS w.heap.size w' u (splitC c L) := hu
  have hlen := splitC_length c L
  unfold OwnS at hu'
  obtain ⟨n, hn⟩ : ∃ n, (splitC c L).length = n + 1 := ⟨_, hlen⟩
  rw [hn] at hu' ⊢
  obtain ⟨g, cap, rfl⟩ := ownsRow_succ hu'
  refine ⟨g, cap, rfl, hu'.lt g rfl, fun j p hj => ?_⟩
  have hjl := (List.getElem?_eq_some_iff.1 hj).1
  rw [hu'.cellAt j (by omega), List.getElem?_map, hj]
  rfl
theorem digitsAt (q : List UInt8) (hq : q.length ≤ 1000000) (w : World) :
    Calls Tryz.prog 122 #[.string ⟨q.toArray⟩] w fun e w' => e = .returned (.tuple #[.int .i64 (digV q), .bool (digOk q)]) ∧ w = w' := Digits_any ⟨q.toArray⟩ w (by rw [mk_size]; exact hq)
theorem digV_bd (q : List UInt8) : 0 ≤ digV q ∧ digV q ≤ 999999999 := by
  cases h : digOk q with
  | false => rw [digV_false h]; decide
  | true =>
    rw [digV_true h]
    obtain ⟨_, d9, da⟩ := dig_of_digOk h
    exact valD_9 d9 da
/-- the number that the reference reads. -/
def sgW (p : List UInt8) : Int := if p.head? = some 45 then -digV p.tail else digV p
theorem sgW_ok {p : List UInt8} (h : sgOk p = true) : sgW p = sgV p := by
  unfold sgOk at h
  unfold sgW sgV
  by_cases h45 : p.head? = some 45
  · rw [if_pos h45, Bool.and_eq_true] at h
    rw [if_pos h45, if_pos h45, digV_true h.1]
  · rw [if_neg h45] at h
    rw [if_neg h45, if_neg h45, digV_true h]
set_option maxRecDepth 100000 in
set_option maxHeartbeats 2000000 in
theorem Signed_any (p : List UInt8) (hp : p.length ≤ 1000000) (w : World) :
    Calls Tryz.prog 92 #[.string ⟨p.toArray⟩] w fun e w' => e = .returned (.tuple #[.int .i64 (sgW p), .bool (sgOk p)]) ∧ w = w' := by
  cases p with
  | nil =>
    have hD := Lib.hid (digitsAt [] (by simp) w)
    have hsz : (⟨#[]⟩ : ByteArray).size = 0 := rfl
    go_enter Tryz.func92, Tryz.ntmps92
    go_wp2_with fail
    refine hD.out.mono ?_
    rintro e w1 ⟨rfl, rfl⟩
    go_wp2
    go_ret2
    exact ⟨rfl, rfl⟩
  | cons c t =>
    have hsz : (⟨(c :: t).toArray⟩ : ByteArray).size = t.length + 1 := by rw [mk_size]; rfl
    have d0 : (0 : Int) < (t.length : Int) + 1 := by omega
    have hix : Sem.run Tryz.prog (Instr.index 9 (.string (⟨(c :: t).toArray⟩ : ByteArray)) (.int .i64 0)) w = .ok (.int .u8 (c.toNat : Int)) w := by
      have h := idxS 9 Tryz.underlying9 ⟨(c :: t).toArray⟩ 0 (by rw [hsz]; omega) w
      simpa using h
    by_cases h45 : c = 45
    · subst h45
      have hex : (⟨((45 : UInt8) :: t).toArray⟩ : ByteArray).extract 1 (t.length + 1) = ⟨t.toArray⟩ := baEq (by
        have h := Lib.extract_to_end (⟨((45 : UInt8) :: t).toArray⟩ : ByteArray) 1
        rw [hsz] at h
        exact h)
      have HEX := Lib.hid hex
      have hD := Lib.hid (digitsAt t (by simp at hp; omega) w)
      have hb := digV_bd t
      have HS := Lib.hid (show sgW (45 :: t) = -digV t by simp [sgW])
      have HO := Lib.hid (show sgOk (45 :: t) = (digOk t && decide (0 < digV t)) by
        have e1 : ((45 : UInt8) :: t).head? = some 45 := rfl
        unfold sgOk
        rw [if_pos e1]
        show (digOk t && decide (0 < valD t)) = _
        cases h : digOk t with
        | false => rfl
        | true => rw [digV_true h])
      have v0 : IntKind.i64.wrap (-digV t) = -digV t := IntWalk.i64_in _ (by omega)
      rw [HS.out, HO.out]
      obtain ⟨ok, hok⟩ : ∃ ok, ok = digOk t := ⟨_, rfl⟩
      obtain ⟨n, hn⟩ : ∃ n, n = digV t := ⟨_, rfl⟩
      rw [← hok, ← hn] at hD ⊢
      rw [← hn] at v0
      have e45 : ((45 : UInt8).toNat : Int) = 45 := rfl
      rw [e45] at hix
      clear hok hn hb HS HO hex
      go_enter Tryz.func92, Tryz.ntmps92
      cases ok with
      | false =>
        go_wp2_with fail
        rw [HEX.out]
        refine hD.out.mono ?_
        rintro e w1 ⟨rfl, rfl⟩
        go_wp2
        go_ret2
        exact ⟨rfl, rfl⟩
      | true =>
        go_wp2_with fail
        rw [HEX.out]
        refine hD.out.mono ?_
        rintro e w1 ⟨rfl, rfl⟩
        go_wp2
        go_ret2
        exact ⟨rfl, rfl⟩
    · have hD := Lib.hid (digitsAt (c :: t) hp w)
      have hne : ((c.toNat : Int) == 45) = false := by
        rw [beq_eq_false_iff_ne]
        intro e
        exact h45 (UInt8.toNat_inj.1 (by rw [show (45 : UInt8).toNat = 45 from rfl]; omega))
      have HS := Lib.hid (show sgW (c :: t) = digV (c :: t) by simp [sgW, h45])
      have HO := Lib.hid (show sgOk (c :: t) = digOk (c :: t) by simp [sgOk, h45])
      rw [HS.out, HO.out]
      generalize digV (c :: t) = n at hD ⊢
      generalize digOk (c :: t) = ok at hD ⊢
      clear HS HO
      go_enter Tryz.func92, Tryz.ntmps92
      go_wp2_with fail
      refine hD.out.mono ?_
      rintro e w1 ⟨rfl, rfl⟩
      go_wp2
      go_ret2
      exact ⟨rfl, rfl⟩
theorem Tryz.infoIntK : (Tryz.prog.info? 3).map (fun i => (i.zero, i.size, i.bytes)) = some (some (.int .i64 0), 1, 8) := by kernel_rfl
/-- what the reference reads of a line. -/
def ReadPost (base : Nat) (r : Option (List Int)) (e : Ending) (W' : World) : Prop := match r with
  | some l => ∃ u, e = .returned (.tuple #[u, .bool true]) ∧ OwnI 3 base W' u l
  | none => e = .returned (.tuple #[.slice none 0 0, .bool false])
theorem neq_str (a b : List UInt8) : (!((⟨a.toArray⟩ : ByteArray) == ⟨b.toArray⟩)) = decide (a ≠ b) := by
  rw [beq_data]
  by_cases h : a = b
  · subst h; simp
  · have : ¬ (⟨a.toArray⟩ : ByteArray) = ⟨b.toArray⟩ := fun e => h (by
      have := congrArg (fun b : ByteArray => b.data.toList) e
      simpa using this)
    simp [this, h]
theorem lineI_cons (wd q : List UInt8) (r : List (List UInt8)) : lineI wd (q :: r) = if q = wd ∧ r ≠ [] ∧ r.all sgOk = true then some (r.map sgV) else none := rfl
set_option maxRecDepth 100000 in
set_option maxHeartbeats 4000000 in
theorem read_any (p wd : List UInt8) (w : World) (hp : p.length ≤ 1000000) :
    Calls Tryz.prog 53 #[.string ⟨p.toArray⟩, .string ⟨wd.toArray⟩] w fun e w' => ReadPost w.heap.size (lineI wd (splitC 32 p)) e w' ∧ Below w.heap.size w w' := by
  have HS := Lib.hid (splitAt 32 p w hp 32 rfl)
  have hml := splitC_length 32 p
  have hcl : p.count 32 ≤ p.length := List.count_le_length
  have HPL := Lib.hid (fun q (hq : q ∈ splitC 32 p) => splitC_len 32 p q hq)
  obtain ⟨ws, hws⟩ : ∃ ws, ws = splitC 32 p := ⟨_, rfl⟩
  rw [← hws] at HS HPL hml ⊢
  clear hws
  obtain ⟨q, r, rfl⟩ : ∃ q r, ws = q :: r := by
    cases ws with
    | nil => simp at hml
    | cons q r => exact ⟨q, r, rfl⟩
  rw [List.length_cons] at hml HS
  obtain ⟨n, hn⟩ : ∃ n, n = r.length := ⟨_, rfl⟩
  have hn5 : n ≤ 1000000 := by omega
  rw [← hn] at HS
  have HN := Lib.hid hn
  have HLC := Lib.hid (lineI_cons wd q r)
  obtain ⟨i0, hi, hz0, hz1, hz2⟩ := info_parts Tryz.infoIntK
  have hne := neq_str q wd
  clear hml hcl hn
  go_enter Tryz.func53, Tryz.ntmps53
  go_wp2_with fail
  refine HS.out.mono ?_
  rintro e W1 ⟨⟨g, cap, rfl, hg, hcs⟩, hb1⟩
  have c0 := hcs 0 q rfl
  have HCS := Lib.hid (fun j x (h : r[j]? = some x) => hcs (j + 1) x (by simpa using h))
  clear hcs HS
  by_cases hq : q = wd
  · have HQ := Lib.hid hq
    rw [decide_eq_false (show ¬ q ≠ wd from fun e => e hq)] at hne
    clear hq
    by_cases h0 : n = 0
    · subst h0
      have HR := Lib.hid (show lineI wd (q :: r) = none by
        rw [HLC.out, if_neg]
        rintro ⟨_, h, _⟩
        exact h (List.length_eq_zero_iff.1 HN.out.symm))
      go_wp2
      go_ret2
      exact ⟨by rw [HR.out]; exact rfl, hb1⟩
    · have hn1 : ¬ (n : Int) + 1 < 2 := by omega
      go_wp2_with fail
      go_loopw [7, 8] (fun v i wr => ∃ k : Nat, k ≤ n ∧ i = .int .i64 ((k : Int) + 1) ∧ (r.take k).all sgOk = true ∧ OwnI 3 W1.heap.size wr v ((r.take k).map sgV) ∧ Below W1.heap.size W1 wr) (fun _ i _ => n + 1 - (intOf i).toNat)
      case atStart => exact ⟨0, by omega, rfl, rfl, World.ownsRow_nil _ _ _ _, Below.refl _ _⟩
      case round =>
        obtain ⟨k, hk, rfl, hgood, hown, hbr⟩ := hrel
        by_cases hlt : k < n
        · have d1 : (k : Int) + 1 < (n : Int) + 1 := by omega
          have d3 : 0 ≤ (k : Int) + 1 := by omega
          obtain ⟨x, hx⟩ : ∃ x, r[k]? = some x := ⟨_, List.getElem?_eq_getElem (by rw [← HN.out]; exact hlt)⟩
          have cx := cellb (HCS.out k x hx) hbr
          have hxl : x.length ≤ 1000000 := by have := HPL.out x (List.mem_cons_of_mem _ (List.mem_of_getElem? hx)); omega
          have HT := Lib.hid (show r.take (k + 1) = r.take k ++ [x] by rw [List.take_add_one, hx]; rfl)
          have HSG := Lib.hid (Signed_any x hxl wr)
          have HSV := Lib.hid (fun h => sgW_ok (p := x) h)
          have HXM := Lib.hid (List.mem_of_getElem? hx)
          obtain ⟨ok, hok⟩ : ∃ ok, ok = sgOk x := ⟨_, rfl⟩
          rw [← hok] at HSG HSV
          have HOK := Lib.hid hok
          generalize sgW x = nx at HSG HSV
          have HGD := Lib.hid hgood
          have hkl : ((r.take k).map sgV).length = k := by rw [List.length_map, List.length_take, ← HN.out]; omega
          clear hok hx hgood
          cases ok with
          | false =>
            have HR := Lib.hid (show lineI wd (q :: r) = none by
              rw [HLC.out, if_neg]
              rintro ⟨_, _, h⟩
              have := List.all_eq_true.1 h x HXM.out
              rw [← HOK.out] at this; cases this)
            go_wp2_with fail
            refine HSG.out.mono ?_
            rintro e w1 ⟨rfl, rfl⟩
            go_wp2
            go_ret2
            exact ⟨by rw [HR.out]; exact rfl, bthen hb1 hbr⟩
          | true =>
            have hown' : wr.ownsRow W1.heap.size 3 1 u7 k (((r.take k).map sgV).map (Value.int .i64)) := by
              have h := hown
              unfold OwnI at h
              rw [hkl] at h
              exact h
            obtain ⟨l, hl⟩ : ∃ l, l = (r.take k).map sgV := ⟨_, rfl⟩
            have HL := Lib.hid hl
            rw [← hl] at hown' hkl
            have hsz := hbr.size
            clear hown hl
            go_wp2_with fail
            refine HSG.out.mono ?_
            rintro e w1 ⟨rfl, rfl⟩
            go_wp2_with (at_builtin; refine wpList_append_own _ rfl _ _ 22 rfl W1.heap.size 3 i0 (.int .i64 0) 1 8 Tryz.underlying22 hi hz0 hz1 hz2 rfl (by decide) _ _ _ rfl (hown'.alloc _) ⟨wr.heap.size, 0, none⟩ 1 1 [.int .i64 nx] rfl rfl (cell_one_new _ _ _) (by simp [Value.oneCell']) (by unfold maxLen; omega) (by omega) (by simp; omega) ?_; intro v' w3 ho3 hg3 _)
            have hb3 := below_own hbr hown' hg3
            go_wp2_with fail
            go_roundw
            case rel => exact ⟨k + 1, by omega, by go_num, by rw [HT.out, List.all_append, HGD.out, List.all_cons, ← HOK.out]; rfl, by
              unfold OwnI
              rw [HT.out, List.map_append, ← HL.out, List.length_append, List.map_append, hkl, List.map_cons, List.map_nil, List.map_cons, List.map_nil, ← HSV.out (by simp)]
              exact ho3, hb3⟩
            case measure => simp [intOf]; omega
        · obtain rfl : k = n := by omega
          have hta : r.take k = r := List.take_of_length_le (by rw [← HN.out]; omega)
          rw [hta] at hgood hown
          have HR := Lib.hid (show lineI wd (q :: r) = some (r.map sgV) by
            rw [HLC.out, if_pos ⟨HQ.out, fun e => h0 (by rw [HN.out, e]; rfl), hgood⟩])
          go_wp2
          go_ret2
          exact ⟨by rw [HR.out]; exact ⟨_, rfl, OwnI.base hown hb1.size⟩, bthen hb1 hbr⟩
  · have HR := Lib.hid (show lineI wd (q :: r) = none by
      rw [HLC.out, if_neg]
      rintro ⟨h, _⟩
      exact hq h)
    rw [decide_eq_true (show q ≠ wd from hq)] at hne
    go_wp2
    go_ret2
    exact ⟨by rw [HR.out]; exact rfl, hb1⟩
end Go.Proofs.YtfdehcphmmhjaaaGreatDoor

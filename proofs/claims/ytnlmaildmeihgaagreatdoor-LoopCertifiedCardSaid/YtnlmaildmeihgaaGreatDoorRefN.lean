/- The reference's boxes: Members, CheckBox, Certify. -/
import Derived.Test.YtnlmaildmeihgaaGreatDoorRefM
import Derived.Test.YtnlmaildmeihgaaGreatDoorMem
namespace Go.Proofs.YtnlmaildmeihgaaGreatDoor
open Go.RowKit

/-- 'append([]int{}, l...)': owned from a base on. -/
theorem run_append_freshB {P : Program} (w : World) (t tx ty e' : TypeId) (i : TypeInfo) (z : Value) (ht : P.underlying t = some (.slice 3)) (htx : P.underlying tx = some (.slice e')) (hi : P.info? 3 = some i) (hz : i.zero = some z) (hs1 : i.size = 1) (hby : i.bytes = 8) (hzs : z.cells.size = 1)
    (g base : Nat) (hg : Blk w g 3 []) (hb1 : base ≤ g) (hb2 : base ≤ w.heap.size) (v : Value) (l : List Int) (hv : Ints w v l) (hl : l.length ≤ 1000000) :
    ∃ u w', (Builtin.append_ #[t, tx] ty #[.slice (some ⟨g, 0, none⟩) 0 0, v]).run P w = .ok u w' ∧ OwnI 3 base w' u l ∧ Below w.heap.size w w' := by
  rcases Nat.eq_zero_or_pos l.length with h0 | h0
  · obtain rfl : l = [] := List.length_eq_zero_iff.1 h0
    obtain ⟨a, cp, rfl, hc, hv⟩ := hv
    exact ⟨_, _, run_append_empty (P := P) w t tx ty 3 e' i z ht htx hi hz g 0 a cp, ⟨rfl, .inr ⟨g, 0, #[], rfl, hb1, hg, Nat.le_refl _, by unfold maxLen; omega, rfl, rfl⟩⟩, Below.refl _ _⟩
  · obtain ⟨u, w', hr, ho, hb⟩ := run_append_freshO (P := P) w t tx ty 3 i z 1 8 ht hi hz hs1 hby hzs g 0 v l.length (l.map (Value.int .i64)) (hv.src htx h0) h0 (by unfold maxLen; omega) (by omega)
    exact ⟨u, w', hr, OwnI.base ho hb2, hb⟩
theorem wpList_append_freshB {P : Program} {ops : Array Oper} {rest : List Oper} {o : Oper} {a : Act} {w : World} {Q : Exit → Act → World → Prop} (hgd : o.guard = none) (s x : Operand) (t tx e' : TypeId)
    (ho : o.op = .call { callee := .builtin .append, args := #[s, x], argTypes := #[t, tx] })
    (i : TypeInfo) (z : Value) (ht : P.underlying t = some (.slice 3)) (htx : P.underlying tx = some (.slice e')) (hi : P.info? 3 = some i) (hz : i.zero = some z) (hs1 : i.size = 1) (hby : i.bytes = 8) (hzs : z.cells.size = 1)
    (g base : Nat) (hg : Blk w g 3 []) (hb1 : base ≤ g) (hb2 : base ≤ w.heap.size) (hs : a.eval s = .slice (some ⟨g, 0, none⟩) 0 0) (v : Value) (l : List Int) (hx : a.eval x = v) (hv : Ints w v l) (hl : l.length ≤ 1000000)
    (h : ∀ u w', OwnI 3 base w' u l → Below w.heap.size w w' → wpList P ops Q rest (a.put o.dst u) w') : wpList P ops Q (o :: rest) a w :=
  wpList_plain hgd fun _ hK => by
    obtain ⟨u, w', hr, h2, h3⟩ := run_append_freshB (P := P) w t tx o.type e' i z ht htx hi hz hs1 hby hzs g base hg hb1 hb2 v l hv hl
    unfold Oper.wp execOp
    simp only [ho, resolve, invoke, builtin, Sem.run_bind, Sem.run_pure, Result.andThen_ok, List.map_toArray, List.map_cons, List.map_nil, hs, hx, hr]
    exact hK _ _ (h u w' h2 h3)

/-- rows that are appended to: each of its values is owned and holds its list. -/
def NextRows (base : Nat) (w : World) (v : Value) (L : List (List Int)) : Prop :=
  ∃ us : List Value, us.length = L.length ∧ w.ownsRow base 22 1 v L.length us ∧ ∀ (j : Nat) (u : Value) (l : List Int), us[j]? = some u → L[j]? = some l → OwnI 3 0 w u l
theorem NextRows.nil (base : Nat) (w : World) : NextRows base w (.slice none 0 0) [] := ⟨[], rfl, World.ownsRow_nil _ _ _ _, fun j u l h => by simp at h⟩
theorem NextRows.carry {base : Nat} {w w' : World} {v : Value} {L : List (List Int)} (h : NextRows base w v L) (hb : Below w.heap.size w w') : NextRows base w' v L := by
  obtain ⟨us, h1, h2, h3⟩ := h
  exact ⟨us, h1, own_below h2 hb, fun j u l hu hl => (h3 j u l hu hl).carry hb⟩
theorem NextRows.rows {base : Nat} {w : World} {v : Value} {L : List (List Int)} (h : NextRows base w v L) : RowsOf w v L := by
  obtain ⟨us, h1, h2, h3⟩ := h
  exact ⟨us, Vals.of_own (by rw [h1]; exact h2), h1, fun j u l hu hl => (h3 j u l hu hl).ints⟩
theorem NextRows.kint {base : Nat} {w w' : World} {v' : Value} {L : List (List Int)} {us : List Value} {u : Value} {l : List Int} (h1 : us.length = L.length) (h3 : ∀ (j : Nat) (u : Value) (l : List Int), us[j]? = some u → L[j]? = some l → OwnI 3 0 w u l) (hu : OwnI 3 0 w u l) (hk : KInt w w')
    (h2 : w'.ownsRow base 22 1 v' (L.length + 1) (us ++ [u])) : NextRows base w' v' (L ++ [l]) := by
  refine ⟨us ++ [u], by simp [h1], by rw [List.length_append]; exact h2, fun j y x hy hx => ?_⟩
  rcases Nat.lt_or_ge j us.length with hj | hj
  · rw [List.getElem?_append_left hj] at hy
    rw [List.getElem?_append_left (by omega)] at hx
    exact (h3 j y x hy hx).kint hk
  · rw [List.getElem?_append_right hj] at hy
    rw [List.getElem?_append_right (by omega)] at hx
    have hjl : ¬ us.length < j := fun hne => by
      rw [List.getElem?_eq_none (by simp; omega)] at hy
      cases hy
    obtain rfl : j = us.length := by omega
    rw [Nat.sub_self] at hy
    rw [h1, Nat.sub_self] at hx
    cases hy; cases hx
    exact hu.kint hk

theorem flat_take_le {α β : Type} (L : List α) (G : α → List β) (k : Nat) : ((L.take k).flatMap G).length ≤ (L.flatMap G).length := by
  have h : ((L.take k) ++ (L.drop k)).flatMap G = (L.take k).flatMap G ++ (L.drop k).flatMap G := List.flatMap_append
  rw [List.take_append_drop] at h
  rw [h, List.length_append]; omega

set_option maxRecDepth 100000 in
set_option maxHeartbeats 8000000 in
theorem MembersR_any (v : Value) (b : List (Int × Int)) (w : World) (hv : Pairs w v b) (hbd : ∀ x ∈ b, -1000 ≤ x.1 ∧ x.1 ≤ 1000 ∧ -1000 ≤ x.2 ∧ x.2 ≤ 1000 ∧ x.1 ≤ x.2) (hl : b.length ≤ 1000) (hm : (membersW b).length ≤ 1000) :
    Calls Tryz.prog 59 #[v] w fun e w' => (∃ u, e = .returned u ∧ RowsOf w' u (membersW b)) ∧ Below w.heap.size w w' := by
  have HV := Lib.hid hv
  have HBD := Lib.hid hbd
  obtain ⟨xb, cb, rfl, _⟩ := id hv
  obtain ⟨i0, hi, hz0, hz1, hz2⟩ := info_parts Tryz.infoInt
  obtain ⟨j0, hjj, jz0, jz1, jz2⟩ := info_parts Tryz.infoInts
  clear hv hbd
  go_enter Tryz.func59, Tryz.ntmps59
  go_wp2_with fail
  obtain ⟨W1, hW1⟩ : ∃ v, v = World.alloc w (Obj.cells #[] 3) := ⟨_, rfl⟩
  have kW1 : Below w.heap.size w W1 := by rw [hW1]; exact below_new _ _
  have iW1 : Blk W1 (w.heap.size) 3 [] := by rw [hW1]; exact Blk.new _ _ _
  have sW1 : W1.heap.size = w.heap.size + 1 := by rw [hW1]; simp
  rw [← hW1]
  clear hW1
  obtain ⟨W2, hW2⟩ : ∃ v, v = World.alloc W1 (Obj.cells #[.slice (some ⟨w.heap.size, 0, none⟩) 0 0] 22) := ⟨_, rfl⟩
  have kW2 : Below W1.heap.size W1 W2 := by rw [hW2]; exact below_new _ _
  have iW2 : Blk W2 (w.heap.size + 1) 22 [.slice (some ⟨w.heap.size, 0, none⟩) 0 0] := by rw [hW2, ← sW1]; exact Blk.new _ _ _
  have sW2 : W2.heap.size = w.heap.size + 1 + 1 := by rw [hW2]; simp [sW1]
  rw [← hW2]
  clear hW2
  have hR : RowsOf W2 (.slice (some ⟨w.heap.size + 1, 0, none⟩) 1 1) (membersW (b.take 0)) := RowsOf.of_blk iW2 rfl rfl fun j x y hx hy => by
    match j, hx, hy with
    | 0, hx, hy => cases hx; cases hy; exact ⟨_, 0, rfl, by simp, fun h => by simp at h⟩
  have hB := bthen kW1 kW2
  clear iW1 iW2 sW1 sW2 kW1 kW2
  go_loopw [3, 4] (fun v3 v4 wr => ∃ i : Nat, i ≤ b.length ∧ v4 = .int .i64 i ∧ RowsOf wr v3 (membersW (b.take i)) ∧ Below w.heap.size w wr) (fun _ v4 _ => b.length - (intOf v4).toNat)
  case atStart => exact ⟨0, Nat.zero_le _, rfl, hR, hB⟩
  case round =>
    clear hR hB
    obtain ⟨i, hib, rfl, hR, hB⟩ := hrel
    by_cases hlt : i < b.length
    · obtain ⟨x, hx⟩ : ∃ x, b[i]? = some x := ⟨_, List.getElem?_eq_getElem hlt⟩
      have hxb := HBD.out x (List.mem_of_getElem? hx)
      have hsn : membersW (b.take (i + 1)) = (membersW (b.take i)).flatMap fun m => (span x.1 x.2).map fun n => m ++ [n] := by rw [take_snoc hx, membersW_snoc]
      have hlen : (membersW (b.take (i + 1))).length ≤ 1000 := Nat.le_trans (membersW_take_le (fun y hy => (HBD.out y hy).2.2.2.2) _) hm
      have hml : ∀ m ∈ membersW (b.take i), m.length ≤ 1000 := fun m h => by have := membersW_length h; rw [List.length_take] at this; omega
      have hL1 : (membersW (b.take i)).length ≤ 1000 := Nat.le_trans (membersW_take_le (fun y hy => (HBD.out y hy).2.2.2.2) _) hm
      obtain ⟨bb, ob, cb', hxe, hcs⟩ := HV.out.head (by omega)
      cases hxe
      obtain ⟨q0, q1⟩ := hcs i x hx
      have q0 := cellb q0 hB
      have q1 := cellb q1 hB
      obtain ⟨lo, hi'⟩ := x
      simp only at q0 q1 hxb hsn
      rw [hsn] at hlen
      have HSN := Lib.hid hsn
      generalize membersW (b.take i) = L at hR HSN hlen hml hL1
      have hrr := hR
      obtain ⟨ua, hua, hla, hra⟩ := hrr
      obtain ⟨xa, ca, rfl, _, hca⟩ := hua
      rw [hla] at hca ⊢
      have HLA := Lib.hid hla
      have HCA := Lib.hid hca
      have HRA := Lib.hid hra
      have HLEN := Lib.hid hlen
      clear hla hca hra hcs hx hsn hlen
      obtain ⟨wo, rfl⟩ : ∃ v, v = wr := ⟨_, rfl⟩
      go_wp2
      go_loopw [5, 6] (fun v5 v6 wr => ∃ k : Nat, k ≤ L.length ∧ v6 = .int .i64 k ∧ NextRows wo.heap.size wr v5 ((L.take k).flatMap fun m => (span lo hi').map fun n => m ++ [n]) ∧ Below wo.heap.size wo wr) (fun _ v6 _ => L.length - (intOf v6).toNat)
      case atStart => exact ⟨0, Nat.zero_le _, rfl, NextRows.nil _ _, Below.refl _ _⟩
      case round =>
        obtain ⟨k, hk, rfl, hN, hbk⟩ := hrel
        by_cases hltk : k < L.length
        · obtain ⟨m, hmk⟩ : ∃ m, L[k]? = some m := ⟨_, List.getElem?_eq_getElem hltk⟩
          have hm1 := hml m (List.mem_of_getElem? hmk)
          have hsn : (L.take (k + 1)).flatMap (fun m => (span lo hi').map fun n => m ++ [n]) = (L.take k).flatMap (fun m => (span lo hi').map fun n => m ++ [n]) ++ (span lo hi').map fun n => m ++ [n] := by rw [take_snoc hmk, List.flatMap_append]; simp
          have hle := Nat.le_trans (flat_take_le L (fun m => (span lo hi').map fun n => m ++ [n]) (k + 1)) HLEN.out
          rw [hsn, List.length_append, List.length_map, span_length] at hle
          have HS := Lib.hid hsn
          generalize (L.take k).flatMap (fun m => (span lo hi').map fun n => m ++ [n]) = L0 at hN HS hle
          obtain ⟨ux, hux⟩ : ∃ y, ua[k]? = some y := ⟨_, List.getElem?_eq_getElem (by rw [HLA.out]; exact hltk)⟩
          obtain ⟨ba, oa, hax, hda⟩ := HCA.out (by omega)
          cases hax
          have cux := hda k ux hux
          have ix := HRA.out k ux m hux hmk
          obtain ⟨pa, pc, rfl, _⟩ := id ix
          have HIX := Lib.hid ix
          clear hda hux hmk hsn ix
          have q0 := cellb q0 hbk
          obtain ⟨wi, rfl⟩ : ∃ v, v = wr := ⟨_, rfl⟩
          go_wp2
          go_loopw [5, 7] (fun v5 v7 wr => ∃ j : Nat, j ≤ (hi' + 1 - lo).toNat ∧ v7 = .int .i64 (lo + j) ∧ NextRows wo.heap.size wr v5 (L0 ++ (upto (fun t => lo + t) j).map fun n => m ++ [n]) ∧ Below wo.heap.size wo wr) (fun _ v7 _ => (hi' + 1 - intOf v7).toNat)
          case atStart => exact ⟨0, Nat.zero_le _, by simp, by simpa [upto] using hN, hbk⟩
          case round =>
            clear hN hbk
            obtain ⟨j, hj, rfl, hN, hbj⟩ := hrel
            have q1 := cellb q1 hbj
            have c0 := cellb cux hbj
            by_cases hlj : lo + (j : Int) ≤ hi'
            · have hjl : j + 1 ≤ (hi' + 1 - lo).toNat := by omega
              have hU : (L0 ++ (upto (fun t => lo + t) (j + 1)).map fun n => m ++ [n]) = (L0 ++ (upto (fun t => lo + t) j).map fun n => m ++ [n]) ++ [m ++ [lo + (j : Int)]] := by rw [upto_succ, List.map_append, List.append_assoc]; rfl
              have hUl : (L0 ++ (upto (fun t => lo + t) j).map fun n => m ++ [n]).length ≤ 1000 := by rw [List.length_append, List.length_map, upto_length]; omega
              generalize (L0 ++ (upto (fun t => lo + t) j).map fun n => m ++ [n]) = LL at hN hU hUl
              have HU := Lib.hid hU
              generalize hn : lo + (j : Int) = n at hlj
              have HNn := Lib.hid hn
              obtain ⟨us, hus1, hown, hus3⟩ := hN
              have HUS1 := Lib.hid hus1
              have HUL := Lib.hid hUl
              have kW1 := below_new wr (Obj.cells #[] 3)
              have i1 : Blk (wr.alloc (Obj.cells #[] 3)) wr.heap.size 3 [] := Blk.new wr _ []
              have hix := HIX.out.carry (bthen hbj kW1)
              have s1 : (wr.alloc (Obj.cells #[] 3)).heap.size = wr.heap.size + 1 := by simp
              have hsj := hbj.size
              have c1 := cellb c0 kW1
              have hnb1 : -2000 ≤ n := by omega
              have hnb2 : n ≤ 2000 := by omega
              clear hU hn hus1 hUl
              go_wp2_with (at_builtin; first
                | (refine wpList_append_freshB rfl (.tmp 37) (.tmp 41) 22 22 3 rfl i0 (.int .i64 0) Tryz.underlying22 Tryz.underlying22 hi hz0 hz1 hz2 rfl wr.heap.size wr.heap.size i1 (Nat.le_refl _) (by omega) rfl _ m rfl hix (by omega) ?_; intro u w2 hu hb2; clear i1 hix; have hb02 := bthen kW1 hb2; have hs2 := hb02.size)
                | (go_loud (refine wpList_append_own _ rfl _ _ 22 rfl wr.heap.size 3 i0 (.int .i64 0) 1 8 Tryz.underlying22 hi hz0 hz1 hz2 rfl (by decide) _ _ _ rfl (hu.alloc _) ⟨w2.heap.size, 0, none⟩ 1 1 [.int .i64 n] rfl rfl (cell_one_new _ _ _) (by simp [Value.oneCell']) (by unfold maxLen; omega) (by omega) (by simp; omega) ?_; intro v3 w3 hown3 hgrow3 _; have hb3 := below_own hb02 hu hgrow3; have hu3 : OwnI 3 wr.heap.size w3 v3 (m ++ [n]) := (by unfold OwnI; rw [List.length_append, List.map_append]; exact hown3); have hb03 := bthen hbj hb3; have hs3 := hb03.size; have hown4 := own_below hown hb3; have hk4 := KInt.below hb3; obtain ⟨pu, cu, eu, _⟩ := hu3.ints; subst eu))
                | (go_loud (refine wpList_append_own _ rfl _ _ 104 rfl wo.heap.size 22 j0 (.slice none 0 0) 1 24 Tryz.underlying104 hjj jz0 jz1 jz2 rfl (by decide) _ _ _ rfl (hown4.alloc _) ⟨w3.heap.size, 0, none⟩ 1 1 [.slice pu (m.length + 1) cu] rfl rfl (cell_one_new _ _ _) (by simp [Value.oneCell']) (by unfold maxLen; have := HUL.out; omega) (by have := HUL.out; omega) (by simp; omega) ?_; intro v5 w5 hown5 hgrow5 _)))
              have hb5 := below_own hb03 hown4 hgrow5
              have hk5 := kint_append hown4 (by decide) hgrow5
              have hN5 : NextRows wo.heap.size w5 v5 (LL ++ [m ++ [n]]) := NextRows.kint HUS1.out (fun j u l a b => (hus3 j u l a b).kint hk4) (hu3.base (Nat.zero_le _)) hk5 (by rw [show (m ++ [n]).length = m.length + 1 by simp]; exact hown5)
              rw [← HNn.out] at hN5
              rw [← HU.out] at hN5
              go_wp2
              go_roundw
              case rel => exact ⟨j + 1, hjl, by have := HNn.out; go_num, hN5, hb5⟩
              case measure => have := HNn.out; simp [intOf]; omega
            · have hjl : j = (hi' + 1 - lo).toNat := by omega
              have hN5 : NextRows wo.heap.size wr u5 ((L.take (k + 1)).flatMap fun m => (span lo hi').map fun n => m ++ [n]) := by rw [HS.out]; rw [hjl] at hN; exact hN
              clear hN
              go_wp2
              go_roundw
              case rel => exact ⟨k + 1, by omega, by go_num, hN5, hbj⟩
              case measure => simp [intOf]; omega
        · obtain rfl : k = L.length := by omega
          have hout : RowsOf wr u5 (membersW (b.take (i + 1))) := by rw [HSN.out]; rw [List.take_length] at hN; exact hN.rows
          clear hN
          go_wp2
          go_roundw
          case rel => exact ⟨i + 1, by omega, by go_num, hout, bthen hB hbk⟩
          case measure => simp [intOf]; omega
    · obtain rfl : i = b.length := by omega
      rw [List.take_length] at hR
      go_wp2
      go_ret
      exact ⟨⟨_, rfl, hR⟩, hB⟩

end Go.Proofs.YtnlmaildmeihgaaGreatDoor

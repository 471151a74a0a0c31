/- The package phasor: Lost; components. -/
import Derived.Test.YtjmdnolmaofbiaaDoorThmF
namespace Go.Proofs.YtjmdnolmaofbiaaDoor
set_option linter.unusedSimpArgs false
set_option linter.unusedVariables false
open Go.RowKit

theorem gaps_le (l : List Int) : ∀ d k : Nat, k + d = l.length → (gapsL (l.take k)).length ≤ (gapsL l).length
  | 0, k, h => by rw [List.take_of_length_le (by omega)]; exact Nat.le_refl _
  | d + 1, 0, h => by simp [gapsL]
  | d + 1, k + 1, h => by
    have := gaps_le l d (k + 2) (by omega)
    rw [gaps_take l (k + 1) (by omega) (by omega), List.length_append] at this
    omega
theorem gapL_len (c d : Int) : (gapL c d).length = ((d - c - 1) % 65536).toNat := by simp [gapL]
def gapP (c : Int) (j : Nat) : List Int := (List.range j).map fun (k : Nat) => (c + 1 + (k : Int)) % 65536
theorem gapP_succ (c : Int) (j : Nat) : gapP c (j + 1) = gapP c j ++ [(c + 1 + (j : Int)) % 65536] := by
  unfold gapP
  rw [List.range_succ, List.map_append]; rfl
theorem gapP_all (c d : Int) : gapP c ((d - c - 1) % 65536).toNat = gapL c d := rfl
theorem gapP_len (c : Int) (j : Nat) : (gapP c j).length = j := by simp [gapP]
set_option maxRecDepth 100000 in
set_option maxHeartbeats 8000000 in
theorem Lost_any (ad : Addr) (cp : Nat) (l : List Tg) (s : Int) (w : World) (hl : l.length ≤ 1000) (hv : Tgs w (.slice (some ad) l.length cp) l) (hok : ∀ t ∈ l, TgOk t) (hs : ∀ t ∈ l, t.1 = s) (hs2 : 0 ≤ s ∧ s ≤ 255) (hg : (gapsL (l.map fun t => t.2.1)).length ≤ 256) :
    Calls Tryd.prog 11 #[.slice (some ad) l.length cp, .int .i64 s] w fun e w' => (∃ u, e = .returned (.tuple #[u, .int .i64 0]) ∧ Ints w' u (gapsL (l.map fun t => t.2.1))) ∧ Below w.heap.size w w' := by
  have TC := Lib.hid (fun W hv => checkTelegrams_ok (.slice (some ad) l.length cp) l W (by omega) hv hok)
  have TW := Lib.hid (fun W => withinP_any s 0 255 W)
  rw [wiOk hs2] at TW
  have TF := Lib.hid (fun (u : Value) (W : World) (h : Ints W u [0, 0]) => firstP_any u [0, 0] W (by simp [maxLen]) h)
  rw [show firstE [0, 0] = 0 from rfl] at TF
  have TCl := Lib.hid (fun W hv => CloneT_any ad cp l W (by omega) hv)
  have TD := Lib.hid (fun u B W hv hB => DeleteT_none u l s B W (by omega) hv hB hs)
  have HOK := Lib.hid hok
  obtain ⟨i0, hi, hz0, hz1, hz2⟩ := info_parts Tryd.infoI3
  have HI := Lib.hid hi
  obtain ⟨cs, hcs⟩ : ∃ cs, cs = l.map fun t => t.2.1 := ⟨_, rfl⟩
  have hcl : cs.length = l.length := by rw [hcs, List.length_map]
  have hct : ∀ k, k < l.length → ∃ x, l[k]? = some x ∧ cs[k]?.getD 0 = x.2.1 ∧ 0 ≤ x.2.1 ∧ x.2.1 < 65536 := fun k hk => by
    refine ⟨l[k], List.getElem?_eq_getElem hk, ?_, ?_⟩
    · rw [hcs, List.getElem?_map, List.getElem?_eq_getElem hk]; rfl
    · exact (hok _ (List.getElem_mem hk)).2.1
  have HCT := Lib.hid hct
  have HCL := Lib.hid hcl
  rw [← hcs] at hg ⊢
  have HG := Lib.hid hg
  clear hi hok hs hs2 hcs hcl hct hg
  obtain ⟨n, hn⟩ : ∃ n, n = l.length := ⟨_, rfl⟩
  have HN := Lib.hid hn
  rw [← hn] at hl hv TC TCl ⊢
  clear hn
  go_enter Tryd.func11, Tryd.ntmps11
  go_upto_region 1 with fail
  obtain ⟨W1, hW1⟩ : ∃ v, v = World.alloc w (Obj.cells #[.int .i64 s] 3) := ⟨_, rfl⟩
  have kW1 : Below w.heap.size w W1 := by rw [hW1]; exact below_new _ _
  have iW1 : Blk W1 (w.heap.size) 3 [.int .i64 s] := by rw [hW1]; exact Blk.new _ _ _
  have sW1 : W1.heap.size = w.heap.size + 1 := by rw [hW1]; simp
  rw [← hW1]
  clear hW1
  have i1 := iW1
  have hB := kW1
  replace hv := hv.carry kW1
  clear iW1 kW1 sW1
  have a0 := i1.cell (j := 0) (v := .int .i64 s) rfl
  go_step3
  go_upto_region 1 with fail
  refine wp_region_E 99 (by kernel_rfl) ?_
  obtain ⟨wz, hwz⟩ : ∃ v, v = W1.drew := ⟨_, rfl⟩
  rw [← hwz]
  have hlz : Below W1.heap.size W1 wz := by rw [hwz]; exact (Below.refl _ _).drew
  have hbz := bthen hB hlz
  have a0 := cellb a0 hlz
  have i1 := i1.carry hlz
  have hv := hv.carry hlz
  clear hwz hlz
  refine wpAnyE_take (i := 0) (oi := { dst := some 12, op := Op.move (Operand.tmp 0), type := 47, pos := "telegram.go:134", after := #[], guard := none }) (v := ?_) rfl (by kernel_rfl) (by kernel_rfl) (by kernel_rfl) (by kernel_rfl) (fun _ _ _ h => h) (Or.inl ⟨by rfl, ?_⟩) ?_
  rotate_left
  · (intro w hE; have a0 := cellb a0 hE; (try dsimp only); go_simp); (try with_reducible rfl)
  try simp only [Act.put, List.setIfInBounds_toArray, List.set_cons_zero, List.set_cons_succ]
  refine wpAnyE_take (i := 2) (oi := { dst := some 14, op := Op.load 3 (Operand.tmp 3), type := 3, pos := "telegram.go:134", after := #[], guard := none }) (v := ?_) rfl (by kernel_rfl) (by kernel_rfl) (by kernel_rfl) (by kernel_rfl) (fun _ _ _ h => h) (Or.inl ⟨by rfl, ?_⟩) ?_
  rotate_left
  · (intro w hE; have a0 := cellb a0 hE; (try dsimp only); go_simp); (try with_reducible rfl)
  try simp only [Act.put, List.setIfInBounds_toArray, List.set_cons_zero, List.set_cons_succ]
  refine wpAnyE_call (i := 1) (oi := { dst := some 13, op := Op.call { callee := Callee.value (Operand.func 22), args := #[Operand.tmp 12], argTypes := #[47] }, type := 44, pos := "telegram.go:134", after := #[{ on := 0, ground := Ground.data }], guard := none }) (fun w hE => TC.out w (hv.carry hE)) rfl (by kernel_rfl) (by kernel_rfl) (by kernel_rfl) (by kernel_rfl) (fun _ _ _ h => h) (by rfl) (fun w hE => by (try dsimp only); go_simp) ?_
  try simp only [Act.put, List.setIfInBounds_toArray, List.set_cons_zero, List.set_cons_succ]
  refine wpAnyE_call (i := 3) (oi := { dst := some 15, op := Op.call { callee := Callee.value (Operand.func 23), args := #[Operand.tmp 14, Operand.const (Value.int IntKind.i64 0), Operand.const (Value.int IntKind.i64 255)], argTypes := #[3, 3, 3] }, type := 44, pos := "telegram.go:134", after := #[{ on := 2, ground := Ground.data }, { on := 1, ground := Ground.chain }], guard := none }) (fun w hE => ofPure (TW.out w)) rfl (by kernel_rfl) (by kernel_rfl) (by kernel_rfl) (by kernel_rfl) (fun _ _ _ h => h) (by rfl) (fun w hE => by (try dsimp only); go_simp) ?_
  try simp only [Act.put, List.setIfInBounds_toArray, List.set_cons_zero, List.set_cons_succ]
  refine wpAnyE_one (i := 4) (o := { dst := some 16, op := Op.buildSlice 81 2 #[(0, Operand.tmp 13), (1, Operand.tmp 15)], type := 81, pos := "telegram.go:134", after := #[{ on := 1, ground := Ground.data }, { on := 3, ground := Ground.data }], guard := none }) (by kernel_rfl) rfl (fun wy1 hE K hK => ?_)
  have a0 := cellb a0 hE
  have i1 := i1.carry hE
  have hv := hv.carry hE
  have hbz1 := bthen hbz hE
  clear hE
  go_simp
  obtain ⟨wx1, hwz⟩ : ∃ v, v = wy1.alloc (Obj.cells #[.int .i64 0, .int .i64 0] 44) := ⟨_, rfl⟩
  rw [← hwz]
  have hl : Below wy1.heap.size wy1 wx1 := by rw [hwz]; exact below_new _ _
  have hcz1 := bthen hbz1 hl
  have iN : BlkI wx1 wy1.heap.size 44 [0, 0] := by rw [hwz]; exact Blk.new _ _ _
  generalize wy1.heap.size = G at iN ⊢
  have a0 := cellb a0 hl
  have i1 := i1.carry hl
  have hv := hv.carry hl
  clear hwz
  refine hK _ _ (fun _ => hl) ?_
  clear hK K hl
  try simp only [Act.put, List.setIfInBounds_toArray, List.set_cons_zero, List.set_cons_succ]
  refine wpAnyE_call (i := 5) (oi := { dst := some 17, op := Op.call { callee := Callee.value (Operand.func 18), args := #[Operand.tmp 16], argTypes := #[81] }, type := 44, pos := "telegram.go:134", after := #[{ on := 4, ground := Ground.data }, { on := 3, ground := Ground.chain }], guard := none }) (fun w hE => ofPure (TF.out _ w ((BlkI.ints iN rfl).carry hE))) rfl (by kernel_rfl) (by kernel_rfl) (by kernel_rfl) (by kernel_rfl) (fun _ _ _ h => h) (by rfl) (fun w hE => by (try dsimp only); go_simp) ?_
  try simp only [Act.put, List.setIfInBounds_toArray, List.set_cons_zero, List.set_cons_succ]
  refine wpAnyE_take (i := 6) (oi := { dst := some 6, op := Op.assign (Operand.tmp 17), type := 44, pos := "telegram.go:134", after := #[{ on := 5, ground := Ground.data }, { on := 5, ground := Ground.chain }, { on := 0, ground := Ground.phase }, { on := 1, ground := Ground.phase }, { on := 2, ground := Ground.phase }, { on := 3, ground := Ground.phase }, { on := 4, ground := Ground.phase }, { on := 5, ground := Ground.phase }], guard := none }) (v := ?_) rfl (by kernel_rfl) (by kernel_rfl) (by kernel_rfl) (by kernel_rfl) (fun _ _ _ h => h) (Or.inl ⟨by rfl, ?_⟩) ?_
  rotate_left
  · (intro w hE; have a0 := cellb a0 hE; (try dsimp only); go_simp); (try with_reducible rfl)
  try simp only [Act.put, List.setIfInBounds_toArray, List.set_cons_zero, List.set_cons_succ]
  refine wpAnyE_done (by kernel_rfl) (fun wy2 hE => ?_) _
  have hbz2 := bthen hcz1 hE
  have a0 := cellb a0 hE
  have i1 := i1.carry hE
  have hv := hv.carry hE
  clear hE
  have hB := hbz2
  obtain ⟨W9, hW9⟩ : ∃ v, v = wy2 := ⟨_, rfl⟩
  rw [← hW9] at hB i1 hv ⊢
  clear hW9 a0
  clear TC TW TF
  go_wp2_with fail
  refine (TCl.out W9 hv).mono ?_
  rintro e W2 ⟨⟨u, rfl, hu⟩, hb⟩
  replace i1 := i1.carry hb
  replace hB := bthen hB hb
  clear hb hv
  have a0 := i1.cell (j := 0) (v := .int .i64 s) rfl
  have TD1 := Lib.hid (TD.out u w.heap.size W2 hu a0)
  go_wp2_with fail
  refine TD1.out.mono ?_
  rintro e W3 ⟨rfl, hb⟩
  replace hu := hu.carry hb
  replace hB := bthen hB hb
  clear hb TCl TD TD1 a0 i1
  obtain ⟨ua, uc, rfl, _, hcu⟩ := hu
  have HCU := Lib.hid hcu
  rw [← HN.out]
  clear hcu
  go_wp2_with fail
  go_step3
  go_wp2_with fail
  go_loopw [8, 9, 10] (fun o m i wr => ∃ k : Nat, (k = 0 ∨ k + 1 ≤ n) ∧ i = .int .i64 ((k : Int) + 1) ∧ m = .bool false ∧ wr.ownsRow W3.heap.size 3 1 o (gapsL (cs.take (k + 1))).length ((gapsL (cs.take (k + 1))).map (Value.int .i64)) ∧ Below W3.heap.size W3 wr) (fun _ _ i _ => (n + 1) - (intOf i).toNat)
  case atStart =>
    have h0 : gapsL (cs.take 1) = [] := by
      cases cs with
      | nil => rfl
      | cons a t => rfl
    refine ⟨0, .inl rfl, rfl, rfl, ?_, Below.refl _ _⟩
    rw [h0]
    exact World.ownsRow_nil _ _ _ _
  case round =>
    obtain ⟨k, hk, rfl, rfl, hown, hbel⟩ := hrel
    by_cases hlt : k + 1 < n
    · obtain ⟨b, off, rfl, hcs⟩ := HCU.out (by rw [← HN.out]; omega)
      obtain ⟨x, hx, hcx, x0, x9⟩ := HCT.out k (by rw [← HN.out]; omega)
      obtain ⟨y, hy, hcy, y0, y9⟩ := HCT.out (k + 1) (by rw [← HN.out]; omega)
      obtain ⟨_, p1, _⟩ := hcs k x hx
      obtain ⟨_, p2, _⟩ := hcs (k + 1) y hy
      have p2w := p2
      have p1 := cellb p1 hbel
      have p2 := cellb p2 hbel
      have hgt := gaps_take cs (k + 1) (by omega) (by rw [HCL.out, ← HN.out]; omega)
      have hgl := gaps_le cs (cs.length - (k + 1 + 1)) (k + 1 + 1) (by rw [HCL.out, ← HN.out]; omega)
      rw [hgt, List.length_append, gapL_len] at hgl
      rw [Nat.add_sub_cancel, hcx, hcy] at hgt hgl
      have hgl2 : (gapsL (cs.take (k + 1))).length + ((y.2.1 - x.2.1 - 1) % 65536).toNat ≤ 256 := Nat.le_trans hgl HG.out
      generalize x.2.1 = c at p1 hgt hgl2 x0 x9
      generalize y.2.1 = d at p2 p2w hgt hgl2 y0 y9
      have HGT := Lib.hid hgt
      generalize gapsL (cs.take (k + 1)) = L at hown hgl2 HGT
      have HP2 := Lib.hid p2w
      clear p2w
      have hand1 := and_mask (c + 1) (by omega)
      have hk1 : (k : Int) + 1 - 1 = (k : Int) := by omega
      clear hcs hx hy hcx hcy hgt hgl
      obtain ⟨g, hgd⟩ : ∃ g, g = ((d - c - 1) % 65536).toNat := ⟨_, rfl⟩
      have hgi : (g : Int) = (d - c - 1) % 65536 := by omega
      rw [← hgd] at hgl2
      have HGD := Lib.hid hgi
      have HGL : gapL c d = gapP c g := by rw [hgd]; rfl
      have HGG := Lib.hid HGL
      have hg9 : g < 65536 := by omega
      clear hgd hgi HGL
      go_wp2_with fail
      go_loopw [8, 9, 11] (fun o m i wr2 => ∃ j : Nat, j ≤ g ∧ i = .int .i64 ((c + 1 + (j : Int)) % 65536) ∧ m = .bool false ∧ wr2.ownsRow W3.heap.size 3 1 o (L ++ gapP c j).length ((L ++ gapP c j).map (Value.int .i64)) ∧ Below W3.heap.size W3 wr2 ∧ j = j) (fun o _ i _ => match o with | .slice _ n _ => 256 - n | _ => 0)
      case atStart => exact ⟨0, by omega, by simp, rfl, by simpa [gapP] using hown, hbel, rfl⟩
      case round =>
        clear hown hbel
        obtain ⟨j, hj, rfl, rfl, hown, hbel, _⟩ := hrel
        have hend := gap_end (c := c) (d := d) ⟨x0, x9⟩ ⟨y0, y9⟩ j (by have := HGD.out; omega)
        have hLl : (L ++ gapP c j).length = L.length + j := by rw [List.length_append, gapP_len]
        rw [hLl] at hown
        obtain ⟨oa, oc, rfl⟩ := own_slice hown
        clear p1 p2
        have p2 := cellb HP2.out hbel
        obtain ⟨X, hX⟩ : ∃ X, X = (c + 1 + (j : Int)) % 65536 := ⟨_, rfl⟩
        have hXb : 0 ≤ X ∧ X < 65536 := by omega
        rw [← hX] at hend ⊢
        by_cases hjg : j = g
        · have hne : (X != d) = false := by
            have : X = d := hend.2 (by rw [hjg]; exact HGD.out)
            rw [this]; simp
          have hrow : gapsL (cs.take (k + 1 + 1)) = L ++ gapP c j := by rw [HGT.out, HGG.out, hjg]
          have HROW := Lib.hid hrow
          have hLl2 := hLl
          clear hend hX hrow hLl
          go_wp2_with fail
          go_roundw
          case rel =>
            refine ⟨k + 1, .inr (by omega), by go_num, rfl, ?_, hbel⟩
            rw [HROW.out, hLl2]
            exact hown
          case measure => simp [intOf]; omega
        · have hne : (X != d) = true := by
            rw [bne_iff_ne]
            intro e
            have := hend.1 e
            rw [← HGD.out] at this
            exact hjg (by omega)
          have hlt9 : L.length + j < 256 := by omega
          have hb9 : ((L.length : Int) + (j : Int) == 256) = false := by rw [beq_eq_false_iff_ne]; omega
          have hand2 := and_mask (X + 1) (by omega)
          have hXs : (X + 1) % 65536 = (c + 1 + ((j + 1 : Nat) : Int)) % 65536 := by omega
          have HXS := Lib.hid hXs
          have HLN := Lib.hid (show L ++ gapP c (j + 1) = (L ++ gapP c j) ++ [X] by rw [gapP_succ, ← hX, List.append_assoc])
          have HLL := Lib.hid hLl
          have hB9 : W3.heap.size ≤ wr.heap.size := hbel.size
          clear hend hX hXs hLl
          go_wp2_with (at_builtin; refine wpList_append_own _ rfl _ _ 29 rfl W3.heap.size 3 i0 (.int .i64 0) 1 8 Tryd.underlying29 HI.out hz0 hz1 hz2 rfl (by decide) _ _ _ rfl (hown.alloc _) ⟨wr.heap.size, 0, none⟩ 1 1 [.int .i64 X] rfl rfl (cell_one_new _ _ _) (by simp [Value.oneCell']) (by unfold maxLen; omega) (by omega) (by simp; omega) ?_; intro v' w1 hown' hgrow _; obtain ⟨va, vc, rfl⟩ := own_slice hown')
          have hbel' := below_own hbel hown hgrow
          have hown2 : w1.ownsRow W3.heap.size 3 1 (.slice va (L.length + j + 1) vc) (L ++ gapP c (j + 1)).length ((L ++ gapP c (j + 1)).map (Value.int .i64)) := by
            rw [HLN.out, List.length_append, List.map_append, HLL.out]; exact hown'
          clear hown hbel hown' hgrow
          go_wp2_with fail
          go_roundw
          case rel =>
            refine ⟨_, _, _, ⟨j + 1, by omega, rfl, rfl, by simpa using hown2, hbel'⟩, rfl, rfl, ?_⟩
            rw [HXS.out]
          case measure => omega
    · have hall : gapsL (cs.take (k + 1)) = gapsL cs := by
        rw [List.take_of_length_le (by rw [HCL.out, ← HN.out]; omega)]
      rw [hall] at hown
      have hI : Ints wr u8 (gapsL cs) := Ints.of_own hown rfl
      clear hown hall
      go_wp2
      rw [Exit.noGoto_ret]
      go_ret2
      exact ⟨⟨_, rfl, hI⟩, hB.trans (hbel.mono hB.size)⟩
end Go.Proofs.YtjmdnolmaofbiaaDoor

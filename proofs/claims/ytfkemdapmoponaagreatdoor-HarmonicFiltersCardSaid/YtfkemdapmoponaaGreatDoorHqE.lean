/- The reference: lowest terms, the susceptance and the resonances of a filter. -/
import Derived.Test.YtfkemdapmoponaaGreatDoorHqD
namespace Go.Proofs.YtfkemdapmoponaaGreatDoor
set_option linter.unusedSimpArgs false
set_option linter.unusedVariables false
open Go.RowKit

def Big (x : Int) : Prop := -1000000000000000 ≤ x ∧ x ≤ 1000000000000000
def gcdI (a b : Int) : Int := ((Nat.gcd a.natAbs b.natAbs : Nat) : Int)
set_option maxHeartbeats 2000000 in
theorem DivisorR_any (a b : Int) (w : World) (ha : Big a) (hb : Big b) :
    Calls Tryz.prog 140 #[.int .i64 a, .int .i64 b] w fun e w' => e = .returned (.int .i64 (gcdI a b)) ∧ Below w.heap.size w w' := by
  obtain ⟨g, hg⟩ : ∃ g : Nat, g = Nat.gcd a.natAbs b.natAbs := ⟨_, rfl⟩
  rw [gcdI, ← hg]
  have HG := Lib.hid hg
  have HAB := Lib.hid (And.intro ha hb)
  clear hg ha hb
  go_enter Tryz.func140, Tryz.ntmps140
  go_wp2_with fail
  go_loopw [0, 1] (fun x y wr => ∃ p q : Int, x = .int .i64 p ∧ y = .int .i64 q ∧ Nat.gcd p.natAbs q.natAbs = g ∧ Big p ∧ Big q ∧ Below w.heap.size w wr) (fun _ y _ => (intOf y).natAbs)
  case atStart => exact ⟨a, b, rfl, rfl, HG.out.symm, HAB.out.1, HAB.out.2, Below.refl _ _⟩
  case round =>
    obtain ⟨p, q, rfl, rfl, hg, hp, hq, hB⟩ := hrel
    unfold Big at hp hq
    by_cases hz : q = 0
    · subst hz
      rw [Int.natAbs_zero, Nat.gcd_zero_right] at hg
      have HG2 := Lib.hid hg
      have e9 : IntKind.i64.wrap (0 - p) = 0 - p := IntWalk.i64_in _ (by omega)
      clear hg
      by_cases hn : p < 0
      · go_wp2
        go_ret
        exact ⟨ret_int (by have := HG2.out; omega), hB⟩
      · go_wp2
        go_ret
        exact ⟨ret_int (by have := HG2.out; omega), hB⟩
    · have HGS := Lib.hid (gcd_step p q _ hg)
      have hm : (p.tmod q).natAbs < q.natAbs := by rw [Int.natAbs_tmod]; exact Nat.mod_lt _ (by omega)
      have HMB := Lib.hid hm
      clear hg hm
      go_upto_region 2 with fail
      refine wp_region_E 99 (by kernel_rfl) ?_
      obtain ⟨wz, hwz⟩ : ∃ v, v = wr.drew := ⟨_, rfl⟩
      rw [← hwz]
      have hlz : Below wr.heap.size wr wz := by rw [hwz]; exact (Below.refl _ _).drew
      have hbz := bthen hB hlz
      clear hwz hlz
      refine wpAnyE_take (i := 0) (oi := { dst := some 7, op := Op.move (Operand.tmp 1), type := 3, pos := "ref.go:127", after := #[], guard := none }) (v := ?_) rfl (by kernel_rfl) (by kernel_rfl) (by kernel_rfl) (by kernel_rfl) (fun _ _ _ h => h) (Or.inl ⟨by rfl, ?_⟩) ?_
      rotate_left
      · (intro w hE; (try dsimp only); go_simp); (try with_reducible rfl)
      try simp only [Act.put, List.setIfInBounds_toArray, List.set_cons_zero, List.set_cons_succ]
      refine wpAnyE_take (i := 1) (oi := { dst := some 8, op := Op.move (Operand.tmp 0), type := 3, pos := "ref.go:127", after := #[], guard := none }) (v := ?_) rfl (by kernel_rfl) (by kernel_rfl) (by kernel_rfl) (by kernel_rfl) (fun _ _ _ h => h) (Or.inl ⟨by rfl, ?_⟩) ?_
      rotate_left
      · (intro w hE; (try dsimp only); go_simp); (try with_reducible rfl)
      try simp only [Act.put, List.setIfInBounds_toArray, List.set_cons_zero, List.set_cons_succ]
      refine wpAnyE_take (i := 2) (oi := { dst := some 9, op := Op.move (Operand.tmp 1), type := 3, pos := "ref.go:127", after := #[], guard := none }) (v := ?_) rfl (by kernel_rfl) (by kernel_rfl) (by kernel_rfl) (by kernel_rfl) (fun _ _ _ h => h) (Or.inl ⟨by rfl, ?_⟩) ?_
      rotate_left
      · (intro w hE; (try dsimp only); go_simp); (try with_reducible rfl)
      try simp only [Act.put, List.setIfInBounds_toArray, List.set_cons_zero, List.set_cons_succ]
      refine wpAnyE_take (i := 3) (oi := { dst := some 10, op := Op.binOp BinOp.rem 3 (Operand.tmp 8) (Operand.tmp 9) 3, type := 3, pos := "ref.go:127", after := #[{ on := 1, ground := Ground.data }, { on := 2, ground := Ground.data }], guard := none }) (v := ?_) rfl (by kernel_rfl) (by kernel_rfl) (by kernel_rfl) (by kernel_rfl) (fun _ _ _ h => h) (Or.inl ⟨by rfl, ?_⟩) ?_
      rotate_left
      · (intro w hE; (try dsimp only); go_simp); (try with_reducible rfl)
      try simp only [Act.put, List.setIfInBounds_toArray, List.set_cons_zero, List.set_cons_succ]
      refine wpAnyE_take (i := 4) (oi := { dst := some 0, op := Op.assign (Operand.tmp 7), type := 3, pos := "ref.go:127", after := #[{ on := 0, ground := Ground.data }, { on := 0, ground := Ground.phase }, { on := 1, ground := Ground.phase }, { on := 2, ground := Ground.textOnly Departure.lateStores }, { on := 3, ground := Ground.textOnly Departure.lateStoresUnsure }], guard := none }) (v := ?_) rfl (by kernel_rfl) (by kernel_rfl) (by kernel_rfl) (by kernel_rfl) (fun _ _ _ h => h) (Or.inl ⟨by rfl, ?_⟩) ?_
      rotate_left
      · (intro w hE; (try dsimp only); go_simp); (try with_reducible rfl)
      try simp only [Act.put, List.setIfInBounds_toArray, List.set_cons_zero, List.set_cons_succ]
      refine wpAnyE_take (i := 5) (oi := { dst := some 1, op := Op.assign (Operand.tmp 10), type := 3, pos := "ref.go:127", after := #[{ on := 3, ground := Ground.data }, { on := 4, ground := Ground.chain }, { on := 0, ground := Ground.phase }, { on := 1, ground := Ground.phase }, { on := 2, ground := Ground.phase }, { on := 3, ground := Ground.phase }, { on := 4, ground := Ground.phase }], guard := none }) (v := ?_) rfl (by kernel_rfl) (by kernel_rfl) (by kernel_rfl) (by kernel_rfl) (fun _ _ _ h => h) (Or.inl ⟨by rfl, ?_⟩) ?_
      rotate_left
      · (intro w hE; (try dsimp only); go_simp); (try with_reducible rfl)
      try simp only [Act.put, List.setIfInBounds_toArray, List.set_cons_zero, List.set_cons_succ]
      refine wpAnyE_done (by kernel_rfl) (fun wy1 hE => ?_) _
      have hbz1 := bthen hbz hE
      clear hE
      have hB := hbz1
      obtain ⟨W4, hW4⟩ : ∃ v, v = wy1 := ⟨_, rfl⟩
      rw [← hW4] at hB ⊢
      clear hW4
      go_wp2
      go_roundw
      case rel => exact ⟨q, p.tmod q, rfl, rfl, HGS.out, hq, by have := HMB.out; unfold Big; omega, hB⟩
      case measure => have := HMB.out; simp only [intOf]; exact this

theorem lowQ_pos {n d : Int} (hd : 0 < d) : lowQ n d = (n.tdiv (gcdI n d), d.tdiv (gcdI n d)) := by
  unfold lowQ lowA gcdI
  rw [if_neg (by omega)]
theorem lowQ_neg {n d : Int} (hd : d < 0) : lowQ n d = ((-n).tdiv (gcdI (-n) (-d)), (-d).tdiv (gcdI (-n) (-d))) := by
  unfold lowQ lowA gcdI
  rw [if_pos hd, Int.natAbs_neg, Int.natAbs_neg, Int.tdiv_neg, Int.tdiv_neg, Int.neg_tdiv, Int.neg_tdiv]
theorem gcd_pos {n d : Int} (hd : d ≠ 0) : 0 < gcdI n d := by
  unfold gcdI
  have : 0 < Nat.gcd n.natAbs d.natAbs := Nat.gcd_pos_of_pos_right _ (by omega)
  omega
theorem tdiv_small {x g : Int} (hx : Big x) : IntKind.i64.wrap (x.tdiv g) = x.tdiv g := by
  have h2 : (x.tdiv g).natAbs ≤ x.natAbs := by rw [Int.natAbs_tdiv]; exact Nat.div_le_self _ _
  unfold Big at hx
  generalize x.tdiv g = z at h2 ⊢
  exact IntWalk.i64_in _ (by omega)
set_option maxRecDepth 100000 in
set_option maxHeartbeats 2000000 in
theorem LowestR_any (n d : Int) (w : World) (hn : Big n) (hd : Big d) (hd0 : d ≠ 0) :
    Calls Tryz.prog 100 #[.int .i64 n, .int .i64 d] w fun e w' => e = .returned (.agg #[.int .i64 (lowQ n d).1, .int .i64 (lowQ n d).2]) ∧ Below w.heap.size w w' := by
  have h1 := fun h : d < 0 => lowQ_neg (n := n) h
  have h2 := fun h : 0 < d => lowQ_pos (n := n) h
  obtain ⟨r, hr0⟩ : ∃ r, r = lowQ n d := ⟨_, rfl⟩
  rw [← hr0] at h1 h2 ⊢
  clear hr0
  by_cases hneg : d < 0
  · have hr := h1 hneg
    obtain ⟨p, hpe⟩ : ∃ p, p = -n := ⟨_, rfl⟩
    obtain ⟨q, hqe⟩ : ∃ q, q = -d := ⟨_, rfl⟩
    have en : IntKind.i64.wrap (-n) = p := by rw [hpe]; exact IntWalk.i64_in _ (by unfold Big at hn; omega)
    have ed : IntKind.i64.wrap (-d) = q := by rw [hqe]; exact IntWalk.i64_in _ (by unfold Big at hd; omega)
    have hp : Big p := by unfold Big at *; omega
    have hq : Big q := by unfold Big at *; omega
    have hq0 : q ≠ 0 := by omega
    rw [← hpe, ← hqe] at hr
    clear h1 h2 hn hd hd0 hpe hqe
    have TD := Lib.hid (fun W => DivisorR_any p q W hp hq)
    have hA0 : gcdI p q ≠ 0 := by have := gcd_pos (n := p) hq0; omega
    have q1 : IntKind.i64.wrap (p.tdiv (gcdI p q)) = p.tdiv (gcdI p q) := tdiv_small hp
    have q2 : IntKind.i64.wrap (q.tdiv (gcdI p q)) = q.tdiv (gcdI p q) := tdiv_small hq
    have HR := Lib.hid hr
    clear hr hp hq
    generalize gcdI p q = g at TD hA0 q1 q2 HR
    generalize hq3 : p.tdiv g = Q1 at q1 HR
    generalize hq4 : q.tdiv g = Q2 at q2 HR
    go_enter Tryz.func100, Tryz.ntmps100
    go_upto_region 1 with fail
    obtain ⟨W1, hW1⟩ : ∃ v, v = World.alloc w (Obj.cells #[.int .i64 0, .int .i64 0] 65) := ⟨_, rfl⟩
    have kW1 : Below w.heap.size w W1 := by rw [hW1]; exact below_new _ _
    have iW1 : BlkI W1 (w.heap.size) 65 (List.replicate 2 0) := by rw [hW1]; exact BlkI.new w 65 (List.replicate 2 0)
    have sW1 : W1.heap.size = w.heap.size + 1 := by rw [hW1]; simp
    rw [← hW1]
    clear hW1
    have i4 : BlkI W1 w.heap.size 65 [0, 0] := iW1
    have hB := kW1
    clear iW1 kW1 sW1
    go_wp2_with fail
    refine (TD.out W1).mono ?_
    rintro e W2 ⟨rfl, hb⟩
    replace i4 := i4.carry hb
    replace hB := bthen hB hb
    clear hb
    go_upto_region 4 with fail
    refine wp_region_E 7 (by kernel_rfl) ?_
    obtain ⟨wz, hwz⟩ : ∃ v, v = W2.drew := ⟨_, rfl⟩
    rw [← hwz]
    have hlz : Below W2.heap.size W2 wz := by rw [hwz]; exact (Below.refl _ _).drew
    have hbz := bthen hB hlz
    have i4 := i4.carry hlz
    clear hwz hlz
    refine wpAnyE_take (i := 0) (oi := { dst := some 15, op := Op.move (Operand.tmp 0), type := 3, pos := "ref.go:141", after := #[], guard := none }) (v := ?_) rfl (by kernel_rfl) (by kernel_rfl) (by kernel_rfl) (by kernel_rfl) (fun _ _ _ h => h) (Or.inl ⟨by rfl, ?_⟩) ?_
    rotate_left
    · (intro w hE; (try dsimp only); go_simp); (try with_reducible rfl)
    try simp only [Act.put, List.setIfInBounds_toArray, List.set_cons_zero, List.set_cons_succ]
    refine wpAnyE_take (i := 1) (oi := { dst := some 16, op := Op.move (Operand.tmp 5), type := 3, pos := "ref.go:141", after := #[], guard := none }) (v := ?_) rfl (by kernel_rfl) (by kernel_rfl) (by kernel_rfl) (by kernel_rfl) (fun _ _ _ h => h) (Or.inl ⟨by rfl, ?_⟩) ?_
    rotate_left
    · (intro w hE; (try dsimp only); go_simp); (try with_reducible rfl)
    try simp only [Act.put, List.setIfInBounds_toArray, List.set_cons_zero, List.set_cons_succ]
    refine wpAnyE_take (i := 2) (oi := { dst := some 17, op := Op.binOp BinOp.quo 3 (Operand.tmp 15) (Operand.tmp 16) 3, type := 3, pos := "ref.go:141", after := #[{ on := 0, ground := Ground.data }, { on := 1, ground := Ground.data }], guard := none }) (v := ?_) rfl (by kernel_rfl) (by kernel_rfl) (by kernel_rfl) (by kernel_rfl) (fun _ _ _ h => h) (Or.inl ⟨by rfl, ?_⟩) ?_
    rotate_left
    · (intro w hE; (try dsimp only); go_simp); (try with_reducible rfl)
    try simp only [Act.put, List.setIfInBounds_toArray, List.set_cons_zero, List.set_cons_succ]
    refine wpAnyE_take (i := 3) (oi := { dst := some 18, op := Op.move (Operand.tmp 1), type := 3, pos := "ref.go:141", after := #[], guard := none }) (v := ?_) rfl (by kernel_rfl) (by kernel_rfl) (by kernel_rfl) (by kernel_rfl) (fun _ _ _ h => h) (Or.inl ⟨by rfl, ?_⟩) ?_
    rotate_left
    · (intro w hE; (try dsimp only); go_simp); (try with_reducible rfl)
    try simp only [Act.put, List.setIfInBounds_toArray, List.set_cons_zero, List.set_cons_succ]
    refine wpAnyE_take (i := 4) (oi := { dst := some 19, op := Op.move (Operand.tmp 5), type := 3, pos := "ref.go:141", after := #[], guard := none }) (v := ?_) rfl (by kernel_rfl) (by kernel_rfl) (by kernel_rfl) (by kernel_rfl) (fun _ _ _ h => h) (Or.inl ⟨by rfl, ?_⟩) ?_
    rotate_left
    · (intro w hE; (try dsimp only); go_simp); (try with_reducible rfl)
    try simp only [Act.put, List.setIfInBounds_toArray, List.set_cons_zero, List.set_cons_succ]
    refine wpAnyE_take (i := 5) (oi := { dst := some 20, op := Op.binOp BinOp.quo 3 (Operand.tmp 18) (Operand.tmp 19) 3, type := 3, pos := "ref.go:141", after := #[{ on := 3, ground := Ground.data }, { on := 4, ground := Ground.data }], guard := none }) (v := ?_) rfl (by kernel_rfl) (by kernel_rfl) (by kernel_rfl) (by kernel_rfl) (fun _ _ _ h => h) (Or.inl ⟨by rfl, ?_⟩) ?_
    rotate_left
    · (intro w hE; (try dsimp only); go_simp); (try with_reducible rfl)
    try simp only [Act.put, List.setIfInBounds_toArray, List.set_cons_zero, List.set_cons_succ]
    refine wpAnyE_take (i := 6) (oi := { dst := some 21, op := Op.build 65 #[(0, Operand.tmp 17), (1, Operand.tmp 20)], type := 65, pos := "ref.go:141", after := #[{ on := 2, ground := Ground.data }, { on := 5, ground := Ground.data }], guard := none }) (v := ?_) rfl (by kernel_rfl) (by kernel_rfl) (by kernel_rfl) (by kernel_rfl) (fun _ _ _ h => h) (Or.inl ⟨by rfl, ?_⟩) ?_
    rotate_left
    · (intro w hE; (try dsimp only); go_simp); (try with_reducible rfl)
    try simp only [Act.put, List.setIfInBounds_toArray, List.set_cons_zero, List.set_cons_succ]
    refine wpAnyE_one (i := 7) (o := { dst := none, op := Op.store 65 (Operand.tmp 4) (Operand.tmp 21), type := 0, pos := "ref.go:141", after := #[{ on := 6, ground := Ground.data }, { on := 0, ground := Ground.phase }, { on := 1, ground := Ground.phase }, { on := 2, ground := Ground.phase }, { on := 3, ground := Ground.phase }, { on := 4, ground := Ground.phase }, { on := 5, ground := Ground.phase }, { on := 6, ground := Ground.phase }], guard := none }) (by kernel_rfl) rfl (fun wy1 hE K hK => ?_)
    have i4 := i4.carry hE
    have hbz1 := bthen hbz hE
    clear hE
    rw [if_pos (by rfl)]
    refine wp_storeA _ _ _ rfl w.heap.size [Q1, Q2] [0, 0] rfl rfl i4 rfl Tryz.infoRatio ?_
    obtain ⟨wx1, hwz⟩ : ∃ v, v = World.setRow wy1 w.heap.size (ia [Q1, Q2]) := ⟨_, rfl⟩
    rw [← hwz]
    have hcz1 : Below w.heap.size w wx1 := by rw [hwz]; exact below_rowA hbz1 (Nat.le_refl _) _
    replace i4 := BlkI.setRowA i4 [Q1, Q2]
    rw [← hwz] at i4
    clear hwz
    refine hK _ _ (fun h => absurd rfl h) ?_
    clear hK K
    try simp only [Act.put, List.setIfInBounds_toArray, List.set_cons_zero, List.set_cons_succ]
    refine wpAnyE_done (by kernel_rfl) (fun wy2 hE => ?_) _
    have hbz2 := bthen hcz1 hE
    have i4 := i4.carry hE
    clear hE
    have hB := hbz2
    obtain ⟨W4, hW4⟩ : ∃ v, v = wy2 := ⟨_, rfl⟩
    rw [← hW4] at hB i4 ⊢
    clear hW4
    go_wp2_with fail
    have z0 : W4.cell? ⟨w.heap.size, 0, none⟩ = some (.int .i64 Q1) := BlkI.cell i4 (j := 0) (by simp)
    have z1 : W4.cell? ⟨w.heap.size, 1, none⟩ = some (.int .i64 Q2) := BlkI.cell i4 (j := 1) (by simp)
    exact bodyPost_ret (v := .agg #[.int .i64 Q1, .int .i64 Q2]) (by simp [results, Tryz.f100, go_sem, z0, z1]) rfl ⟨by rw [HR.out], hB⟩
  · have hr := h2 (by omega)
    have hq0 := hd0
    have hp := hn
    have hq := hd
    clear h1 h2 hn hd hd0
    obtain ⟨p, hpn⟩ : ∃ p, p = n := ⟨_, rfl⟩
    obtain ⟨q, hqd⟩ : ∃ q, q = d := ⟨_, rfl⟩
    subst hpn hqd
    have TD := Lib.hid (fun W => DivisorR_any p q W hp hq)
    have hA0 : gcdI p q ≠ 0 := by have := gcd_pos (n := p) hq0; omega
    have q1 : IntKind.i64.wrap (p.tdiv (gcdI p q)) = p.tdiv (gcdI p q) := tdiv_small hp
    have q2 : IntKind.i64.wrap (q.tdiv (gcdI p q)) = q.tdiv (gcdI p q) := tdiv_small hq
    have HR := Lib.hid hr
    clear hr hp hq
    generalize gcdI p q = g at TD hA0 q1 q2 HR
    generalize hq3 : p.tdiv g = Q1 at q1 HR
    generalize hq4 : q.tdiv g = Q2 at q2 HR
    go_enter Tryz.func100, Tryz.ntmps100
    go_upto_region 1 with fail
    obtain ⟨W1, hW1⟩ : ∃ v, v = World.alloc w (Obj.cells #[.int .i64 0, .int .i64 0] 65) := ⟨_, rfl⟩
    have kW1 : Below w.heap.size w W1 := by rw [hW1]; exact below_new _ _
    have iW1 : BlkI W1 (w.heap.size) 65 (List.replicate 2 0) := by rw [hW1]; exact BlkI.new w 65 (List.replicate 2 0)
    have sW1 : W1.heap.size = w.heap.size + 1 := by rw [hW1]; simp
    rw [← hW1]
    clear hW1
    have i4 : BlkI W1 w.heap.size 65 [0, 0] := iW1
    have hB := kW1
    clear iW1 kW1 sW1
    go_wp2_with fail
    refine (TD.out W1).mono ?_
    rintro e W2 ⟨rfl, hb⟩
    replace i4 := i4.carry hb
    replace hB := bthen hB hb
    clear hb
    go_upto_region 4 with fail
    refine wp_region_E 7 (by kernel_rfl) ?_
    obtain ⟨wz, hwz⟩ : ∃ v, v = W2.drew := ⟨_, rfl⟩
    rw [← hwz]
    have hlz : Below W2.heap.size W2 wz := by rw [hwz]; exact (Below.refl _ _).drew
    have hbz := bthen hB hlz
    have i4 := i4.carry hlz
    clear hwz hlz
    refine wpAnyE_take (i := 0) (oi := { dst := some 15, op := Op.move (Operand.tmp 0), type := 3, pos := "ref.go:141", after := #[], guard := none }) (v := ?_) rfl (by kernel_rfl) (by kernel_rfl) (by kernel_rfl) (by kernel_rfl) (fun _ _ _ h => h) (Or.inl ⟨by rfl, ?_⟩) ?_
    rotate_left
    · (intro w hE; (try dsimp only); go_simp); (try with_reducible rfl)
    try simp only [Act.put, List.setIfInBounds_toArray, List.set_cons_zero, List.set_cons_succ]
    refine wpAnyE_take (i := 1) (oi := { dst := some 16, op := Op.move (Operand.tmp 5), type := 3, pos := "ref.go:141", after := #[], guard := none }) (v := ?_) rfl (by kernel_rfl) (by kernel_rfl) (by kernel_rfl) (by kernel_rfl) (fun _ _ _ h => h) (Or.inl ⟨by rfl, ?_⟩) ?_
    rotate_left
    · (intro w hE; (try dsimp only); go_simp); (try with_reducible rfl)
    try simp only [Act.put, List.setIfInBounds_toArray, List.set_cons_zero, List.set_cons_succ]
    refine wpAnyE_take (i := 2) (oi := { dst := some 17, op := Op.binOp BinOp.quo 3 (Operand.tmp 15) (Operand.tmp 16) 3, type := 3, pos := "ref.go:141", after := #[{ on := 0, ground := Ground.data }, { on := 1, ground := Ground.data }], guard := none }) (v := ?_) rfl (by kernel_rfl) (by kernel_rfl) (by kernel_rfl) (by kernel_rfl) (fun _ _ _ h => h) (Or.inl ⟨by rfl, ?_⟩) ?_
    rotate_left
    · (intro w hE; (try dsimp only); go_simp); (try with_reducible rfl)
    try simp only [Act.put, List.setIfInBounds_toArray, List.set_cons_zero, List.set_cons_succ]
    refine wpAnyE_take (i := 3) (oi := { dst := some 18, op := Op.move (Operand.tmp 1), type := 3, pos := "ref.go:141", after := #[], guard := none }) (v := ?_) rfl (by kernel_rfl) (by kernel_rfl) (by kernel_rfl) (by kernel_rfl) (fun _ _ _ h => h) (Or.inl ⟨by rfl, ?_⟩) ?_
    rotate_left
    · (intro w hE; (try dsimp only); go_simp); (try with_reducible rfl)
    try simp only [Act.put, List.setIfInBounds_toArray, List.set_cons_zero, List.set_cons_succ]
    refine wpAnyE_take (i := 4) (oi := { dst := some 19, op := Op.move (Operand.tmp 5), type := 3, pos := "ref.go:141", after := #[], guard := none }) (v := ?_) rfl (by kernel_rfl) (by kernel_rfl) (by kernel_rfl) (by kernel_rfl) (fun _ _ _ h => h) (Or.inl ⟨by rfl, ?_⟩) ?_
    rotate_left
    · (intro w hE; (try dsimp only); go_simp); (try with_reducible rfl)
    try simp only [Act.put, List.setIfInBounds_toArray, List.set_cons_zero, List.set_cons_succ]
    refine wpAnyE_take (i := 5) (oi := { dst := some 20, op := Op.binOp BinOp.quo 3 (Operand.tmp 18) (Operand.tmp 19) 3, type := 3, pos := "ref.go:141", after := #[{ on := 3, ground := Ground.data }, { on := 4, ground := Ground.data }], guard := none }) (v := ?_) rfl (by kernel_rfl) (by kernel_rfl) (by kernel_rfl) (by kernel_rfl) (fun _ _ _ h => h) (Or.inl ⟨by rfl, ?_⟩) ?_
    rotate_left
    · (intro w hE; (try dsimp only); go_simp); (try with_reducible rfl)
    try simp only [Act.put, List.setIfInBounds_toArray, List.set_cons_zero, List.set_cons_succ]
    refine wpAnyE_take (i := 6) (oi := { dst := some 21, op := Op.build 65 #[(0, Operand.tmp 17), (1, Operand.tmp 20)], type := 65, pos := "ref.go:141", after := #[{ on := 2, ground := Ground.data }, { on := 5, ground := Ground.data }], guard := none }) (v := ?_) rfl (by kernel_rfl) (by kernel_rfl) (by kernel_rfl) (by kernel_rfl) (fun _ _ _ h => h) (Or.inl ⟨by rfl, ?_⟩) ?_
    rotate_left
    · (intro w hE; (try dsimp only); go_simp); (try with_reducible rfl)
    try simp only [Act.put, List.setIfInBounds_toArray, List.set_cons_zero, List.set_cons_succ]
    refine wpAnyE_one (i := 7) (o := { dst := none, op := Op.store 65 (Operand.tmp 4) (Operand.tmp 21), type := 0, pos := "ref.go:141", after := #[{ on := 6, ground := Ground.data }, { on := 0, ground := Ground.phase }, { on := 1, ground := Ground.phase }, { on := 2, ground := Ground.phase }, { on := 3, ground := Ground.phase }, { on := 4, ground := Ground.phase }, { on := 5, ground := Ground.phase }, { on := 6, ground := Ground.phase }], guard := none }) (by kernel_rfl) rfl (fun wy1 hE K hK => ?_)
    have i4 := i4.carry hE
    have hbz1 := bthen hbz hE
    clear hE
    rw [if_pos (by rfl)]
    refine wp_storeA _ _ _ rfl w.heap.size [Q1, Q2] [0, 0] rfl rfl i4 rfl Tryz.infoRatio ?_
    obtain ⟨wx1, hwz⟩ : ∃ v, v = World.setRow wy1 w.heap.size (ia [Q1, Q2]) := ⟨_, rfl⟩
    rw [← hwz]
    have hcz1 : Below w.heap.size w wx1 := by rw [hwz]; exact below_rowA hbz1 (Nat.le_refl _) _
    replace i4 := BlkI.setRowA i4 [Q1, Q2]
    rw [← hwz] at i4
    clear hwz
    refine hK _ _ (fun h => absurd rfl h) ?_
    clear hK K
    try simp only [Act.put, List.setIfInBounds_toArray, List.set_cons_zero, List.set_cons_succ]
    refine wpAnyE_done (by kernel_rfl) (fun wy2 hE => ?_) _
    have hbz2 := bthen hcz1 hE
    have i4 := i4.carry hE
    clear hE
    have hB := hbz2
    obtain ⟨W4, hW4⟩ : ∃ v, v = wy2 := ⟨_, rfl⟩
    rw [← hW4] at hB i4 ⊢
    clear hW4
    go_wp2_with fail
    have z0 : W4.cell? ⟨w.heap.size, 0, none⟩ = some (.int .i64 Q1) := BlkI.cell i4 (j := 0) (by simp)
    have z1 : W4.cell? ⟨w.heap.size, 1, none⟩ = some (.int .i64 Q2) := BlkI.cell i4 (j := 1) (by simp)
    exact bodyPost_ret (v := .agg #[.int .i64 Q1, .int .i64 Q2]) (by simp [results, Tryz.f100, go_sem, z0, z1]) rfl ⟨by rw [HR.out], hB⟩

theorem sus_big {ls : List (Int × Int)} {h : Int} (hS : SusOk ls h) : Big (susL ls h).1 ∧ Big (susL ls h).2 ∧ (susL ls h).2 ≠ 0 := hS
set_option maxRecDepth 100000 in
set_option maxHeartbeats 4000000 in
theorem SusceptanceR_any (v : Value) (ls : List (Int × Int)) (h : Int) (w : World) (hv : Pairs w v ls) (hl : ls.length ≤ 1000000) (hS : SusOk ls h) :
    Calls Tryz.prog 39 #[.agg #[v], .int .i64 h] w fun e w' => e = .returned (.agg #[.int .i64 (susR ls h).1, .int .i64 (susR ls h).2]) ∧ Below w.heap.size w w' := by
  obtain ⟨n, hn⟩ : ∃ n, n = ls.length := ⟨_, rfl⟩
  obtain ⟨a, cp, rfl, _, hcs0⟩ := id hv
  have TL := Lib.hid (fun W => LowestR_any (susL ls h).1 (susL ls h).2 W (sus_big hS).1 (sus_big hS).2.1 (sus_big hS).2.2)
  have hr : susR ls h = lowQ (susL ls h).1 (susL ls h).2 := rfl
  rw [← hr] at TL
  generalize susR ls h = r at TL ⊢
  rw [← hn] at hcs0 hl ⊢
  have hcs : ∀ k : Nat, k < n → ∃ b off x, a = some ⟨b, off, none⟩ ∧ ls[k]? = some x ∧ w.cell? ⟨b, off + k * 2, none⟩ = some (.int .i64 x.1) ∧ w.cell? ⟨b, off + k * 2 + 1, none⟩ = some (.int .i64 x.2) := fun k hk => by
    obtain ⟨b, off, rfl, hc⟩ := hcs0 (by omega)
    have e1 := hc k (ls[k]'(by omega)) (List.getElem?_eq_getElem (by omega))
    exact ⟨b, off, _, rfl, List.getElem?_eq_getElem (by omega), e1⟩
  have HC := Lib.hid hcs
  have HN := Lib.hid hn
  clear hv hcs0 hcs hn hr hS
  go_enter Tryz.func39, Tryz.ntmps39
  go_upto_region 1 with fail
  obtain ⟨W1, hW1⟩ : ∃ v, v = World.alloc w (Obj.cells #[.slice a n cp] 62) := ⟨_, rfl⟩
  have kW1 : Below w.heap.size w W1 := by rw [hW1]; exact below_new _ _
  have iW1 : Blk W1 (w.heap.size) 62 [.slice a n cp] := by rw [hW1]; exact Blk.new _ _ _
  have sW1 : W1.heap.size = w.heap.size + 1 := by rw [hW1]; simp
  rw [← hW1]
  clear hW1
  obtain ⟨W2, hW2⟩ : ∃ v, v = World.alloc W1 (Obj.cells #[.int .i64 0, .int .i64 0] 65) := ⟨_, rfl⟩
  have kW2 : Below W1.heap.size W1 W2 := by rw [hW2]; exact below_new _ _
  have iW2 : BlkI W2 (w.heap.size + 1) 65 (List.replicate 2 0) := by rw [hW2, ← sW1]; exact BlkI.new W1 65 (List.replicate 2 0)
  have sW2 : W2.heap.size = w.heap.size + 1 + 1 := by rw [hW2]; simp [sW1]
  rw [← hW2]
  clear hW2
  have i1 := iW1.carry kW2
  have i4 : BlkI W2 (w.heap.size + 1) 65 [0, 0] := iW2
  have hB := bthen kW1 kW2
  clear iW1 iW2 kW1 kW2 sW1 sW2
  go_wp2_with fail
  go_loopw [5, 6, 7] (fun p q i wr => ∃ k : Nat, k ≤ n ∧ i = .int .i64 k ∧ p = .int .i64 (susL (ls.take k) h).1 ∧ q = .int .i64 (susL (ls.take k) h).2 ∧ Blk wr w.heap.size 62 [.slice a n cp] ∧ BlkI wr (w.heap.size + 1) 65 [0, 0] ∧ Below w.heap.size w wr) (fun _ _ i _ => n - (intOf i).toNat)
  case atStart => exact ⟨0, by omega, rfl, rfl, rfl, i1, i4, hB⟩
  case round =>
    clear i4 hB i1
    obtain ⟨k, hk, rfl, rfl, rfl, i1, i4, hB⟩ := hrel
    have a0 := i1.cell (j := 0) (v := .slice a n cp) rfl
    by_cases hlt : k < n
    · obtain ⟨b, off, x, rfl, hx, c0, c1⟩ := HC.out k hlt
      have c0 := cellb c0 hB
      have c1 := cellb c1 hB
      have hts := susL_take ls h k x hx
      obtain ⟨p, hp⟩ : ∃ p, p = susL (ls.take k) h := ⟨_, rfl⟩
      rw [← hp] at hts ⊢
      clear hp
      obtain ⟨p1, p2⟩ := p
      rw [susT] at hts
      have hlf : leftB x h = wrap64 (x.2 - wrap64 (wrap64 (h * h) * x.1)) := rfl
      generalize leftB x h = lf at hts hlf
      obtain ⟨L, C⟩ := x
      simp only at c0 c1 hts hlf ⊢
      have HT := Lib.hid hts
      have HLF := Lib.hid hlf
      have d1 : (k : Int) < n := by omega
      clear hx hts hlf
      go_upto_region 5 with fail
      refine wp_region_E 99 (by kernel_rfl) ?_
      obtain ⟨wz, hwz⟩ : ∃ v, v = wr.drew := ⟨_, rfl⟩
      rw [← hwz]
      have hlz : Below wr.heap.size wr wz := by rw [hwz]; exact (Below.refl _ _).drew
      have hbz := bthen hB hlz
      have a0 := cellb a0 hlz
      have c0 := cellb c0 hlz
      have c1 := cellb c1 hlz
      have i1 := i1.carry hlz
      have i4 := i4.carry hlz
      clear hwz hlz
      refine wpAnyE_take (i := 0) (oi := { dst := some 16, op := Op.fieldAddr 62 (Operand.tmp 2) 0, type := 0, pos := "ref.go:282", after := #[], guard := none }) (v := ?_) rfl (by kernel_rfl) (by kernel_rfl) (by kernel_rfl) (by kernel_rfl) (fun _ _ _ h => h) (Or.inl ⟨by rfl, ?_⟩) ?_
      rotate_left
      · (intro w hE; have a0 := cellb a0 hE; have c0 := cellb c0 hE; have c1 := cellb c1 hE; (try dsimp only); go_simp); (try with_reducible rfl)
      try simp only [Act.put, List.setIfInBounds_toArray, List.set_cons_zero, List.set_cons_succ]
      refine wpAnyE_take (i := 1) (oi := { dst := some 17, op := Op.load 60 (Operand.tmp 16), type := 60, pos := "ref.go:282", after := #[{ on := 0, ground := Ground.data }], guard := none }) (v := ?_) rfl (by kernel_rfl) (by kernel_rfl) (by kernel_rfl) (by kernel_rfl) (fun _ _ _ h => h) (Or.inl ⟨by rfl, ?_⟩) ?_
      rotate_left
      · (intro w hE; have a0 := cellb a0 hE; have c0 := cellb c0 hE; have c1 := cellb c1 hE; (try dsimp only); go_simp); (try with_reducible rfl)
      try simp only [Act.put, List.setIfInBounds_toArray, List.set_cons_zero, List.set_cons_succ]
      refine wpAnyE_take (i := 2) (oi := { dst := some 18, op := Op.move (Operand.tmp 7), type := 3, pos := "ref.go:282", after := #[], guard := none }) (v := ?_) rfl (by kernel_rfl) (by kernel_rfl) (by kernel_rfl) (by kernel_rfl) (fun _ _ _ h => h) (Or.inl ⟨by rfl, ?_⟩) ?_
      rotate_left
      · (intro w hE; have a0 := cellb a0 hE; have c0 := cellb c0 hE; have c1 := cellb c1 hE; (try dsimp only); go_simp); (try with_reducible rfl)
      try simp only [Act.put, List.setIfInBounds_toArray, List.set_cons_zero, List.set_cons_succ]
      refine wpAnyE_take (i := 3) (oi := { dst := some 19, op := Op.indexAddr 60 (Operand.tmp 17) (Operand.tmp 18), type := 0, pos := "ref.go:282", after := #[{ on := 1, ground := Ground.data }, { on := 2, ground := Ground.data }], guard := none }) (v := ?_) rfl (by kernel_rfl) (by kernel_rfl) (by kernel_rfl) (by kernel_rfl) (fun _ _ _ h => h) (Or.inl ⟨by rfl, ?_⟩) ?_
      rotate_left
      · (intro w hE; have a0 := cellb a0 hE; have c0 := cellb c0 hE; have c1 := cellb c1 hE; (try dsimp only); go_simp); (try with_reducible rfl)
      try simp only [Act.put, List.setIfInBounds_toArray, List.set_cons_zero, List.set_cons_succ]
      refine wpAnyE_take (i := 4) (oi := { dst := some 20, op := Op.fieldAddr 152 (Operand.tmp 19) 1, type := 0, pos := "ref.go:282", after := #[{ on := 3, ground := Ground.data }], guard := none }) (v := ?_) rfl (by kernel_rfl) (by kernel_rfl) (by kernel_rfl) (by kernel_rfl) (fun _ _ _ h => h) (Or.inl ⟨by rfl, ?_⟩) ?_
      rotate_left
      · (intro w hE; have a0 := cellb a0 hE; have c0 := cellb c0 hE; have c1 := cellb c1 hE; (try dsimp only); go_simp); (try with_reducible rfl)
      try simp only [Act.put, List.setIfInBounds_toArray, List.set_cons_zero, List.set_cons_succ]
      refine wpAnyE_take (i := 5) (oi := { dst := some 21, op := Op.load 3 (Operand.tmp 20), type := 3, pos := "ref.go:282", after := #[{ on := 4, ground := Ground.data }], guard := none }) (v := ?_) rfl (by kernel_rfl) (by kernel_rfl) (by kernel_rfl) (by kernel_rfl) (fun _ _ _ h => h) (Or.inl ⟨by rfl, ?_⟩) ?_
      rotate_left
      · (intro w hE; have a0 := cellb a0 hE; have c0 := cellb c0 hE; have c1 := cellb c1 hE; (try dsimp only); go_simp); (try with_reducible rfl)
      try simp only [Act.put, List.setIfInBounds_toArray, List.set_cons_zero, List.set_cons_succ]
      refine wpAnyE_take (i := 6) (oi := { dst := some 22, op := Op.move (Operand.tmp 1), type := 3, pos := "ref.go:282", after := #[], guard := none }) (v := ?_) rfl (by kernel_rfl) (by kernel_rfl) (by kernel_rfl) (by kernel_rfl) (fun _ _ _ h => h) (Or.inl ⟨by rfl, ?_⟩) ?_
      rotate_left
      · (intro w hE; have a0 := cellb a0 hE; have c0 := cellb c0 hE; have c1 := cellb c1 hE; (try dsimp only); go_simp); (try with_reducible rfl)
      try simp only [Act.put, List.setIfInBounds_toArray, List.set_cons_zero, List.set_cons_succ]
      refine wpAnyE_take (i := 7) (oi := { dst := some 23, op := Op.move (Operand.tmp 1), type := 3, pos := "ref.go:282", after := #[], guard := none }) (v := ?_) rfl (by kernel_rfl) (by kernel_rfl) (by kernel_rfl) (by kernel_rfl) (fun _ _ _ h => h) (Or.inl ⟨by rfl, ?_⟩) ?_
      rotate_left
      · (intro w hE; have a0 := cellb a0 hE; have c0 := cellb c0 hE; have c1 := cellb c1 hE; (try dsimp only); go_simp); (try with_reducible rfl)
      try simp only [Act.put, List.setIfInBounds_toArray, List.set_cons_zero, List.set_cons_succ]
      refine wpAnyE_take (i := 8) (oi := { dst := some 24, op := Op.binOp BinOp.mul 3 (Operand.tmp 22) (Operand.tmp 23) 3, type := 3, pos := "ref.go:282", after := #[{ on := 6, ground := Ground.data }, { on := 7, ground := Ground.data }], guard := none }) (v := ?_) rfl (by kernel_rfl) (by kernel_rfl) (by kernel_rfl) (by kernel_rfl) (fun _ _ _ h => h) (Or.inl ⟨by rfl, ?_⟩) ?_
      rotate_left
      · (intro w hE; have a0 := cellb a0 hE; have c0 := cellb c0 hE; have c1 := cellb c1 hE; (try dsimp only); go_simp); (try with_reducible rfl)
      try simp only [Act.put, List.setIfInBounds_toArray, List.set_cons_zero, List.set_cons_succ]
      refine wpAnyE_take (i := 9) (oi := { dst := some 25, op := Op.fieldAddr 62 (Operand.tmp 2) 0, type := 0, pos := "ref.go:282", after := #[], guard := none }) (v := ?_) rfl (by kernel_rfl) (by kernel_rfl) (by kernel_rfl) (by kernel_rfl) (fun _ _ _ h => h) (Or.inl ⟨by rfl, ?_⟩) ?_
      rotate_left
      · (intro w hE; have a0 := cellb a0 hE; have c0 := cellb c0 hE; have c1 := cellb c1 hE; (try dsimp only); go_simp); (try with_reducible rfl)
      try simp only [Act.put, List.setIfInBounds_toArray, List.set_cons_zero, List.set_cons_succ]
      refine wpAnyE_take (i := 10) (oi := { dst := some 26, op := Op.load 60 (Operand.tmp 25), type := 60, pos := "ref.go:282", after := #[{ on := 9, ground := Ground.data }], guard := none }) (v := ?_) rfl (by kernel_rfl) (by kernel_rfl) (by kernel_rfl) (by kernel_rfl) (fun _ _ _ h => h) (Or.inl ⟨by rfl, ?_⟩) ?_
      rotate_left
      · (intro w hE; have a0 := cellb a0 hE; have c0 := cellb c0 hE; have c1 := cellb c1 hE; (try dsimp only); go_simp); (try with_reducible rfl)
      try simp only [Act.put, List.setIfInBounds_toArray, List.set_cons_zero, List.set_cons_succ]
      refine wpAnyE_take (i := 11) (oi := { dst := some 27, op := Op.move (Operand.tmp 7), type := 3, pos := "ref.go:282", after := #[], guard := none }) (v := ?_) rfl (by kernel_rfl) (by kernel_rfl) (by kernel_rfl) (by kernel_rfl) (fun _ _ _ h => h) (Or.inl ⟨by rfl, ?_⟩) ?_
      rotate_left
      · (intro w hE; have a0 := cellb a0 hE; have c0 := cellb c0 hE; have c1 := cellb c1 hE; (try dsimp only); go_simp); (try with_reducible rfl)
      try simp only [Act.put, List.setIfInBounds_toArray, List.set_cons_zero, List.set_cons_succ]
      refine wpAnyE_take (i := 12) (oi := { dst := some 28, op := Op.indexAddr 60 (Operand.tmp 26) (Operand.tmp 27), type := 0, pos := "ref.go:282", after := #[{ on := 10, ground := Ground.data }, { on := 11, ground := Ground.data }], guard := none }) (v := ?_) rfl (by kernel_rfl) (by kernel_rfl) (by kernel_rfl) (by kernel_rfl) (fun _ _ _ h => h) (Or.inl ⟨by rfl, ?_⟩) ?_
      rotate_left
      · (intro w hE; have a0 := cellb a0 hE; have c0 := cellb c0 hE; have c1 := cellb c1 hE; (try dsimp only); go_simp); (try with_reducible rfl)
      try simp only [Act.put, List.setIfInBounds_toArray, List.set_cons_zero, List.set_cons_succ]
      refine wpAnyE_take (i := 13) (oi := { dst := some 29, op := Op.fieldAddr 152 (Operand.tmp 28) 0, type := 0, pos := "ref.go:282", after := #[{ on := 12, ground := Ground.data }], guard := none }) (v := ?_) rfl (by kernel_rfl) (by kernel_rfl) (by kernel_rfl) (by kernel_rfl) (fun _ _ _ h => h) (Or.inl ⟨by rfl, ?_⟩) ?_
      rotate_left
      · (intro w hE; have a0 := cellb a0 hE; have c0 := cellb c0 hE; have c1 := cellb c1 hE; (try dsimp only); go_simp); (try with_reducible rfl)
      try simp only [Act.put, List.setIfInBounds_toArray, List.set_cons_zero, List.set_cons_succ]
      refine wpAnyE_take (i := 14) (oi := { dst := some 30, op := Op.load 3 (Operand.tmp 29), type := 3, pos := "ref.go:282", after := #[{ on := 13, ground := Ground.data }], guard := none }) (v := ?_) rfl (by kernel_rfl) (by kernel_rfl) (by kernel_rfl) (by kernel_rfl) (fun _ _ _ h => h) (Or.inl ⟨by rfl, ?_⟩) ?_
      rotate_left
      · (intro w hE; have a0 := cellb a0 hE; have c0 := cellb c0 hE; have c1 := cellb c1 hE; (try dsimp only); go_simp); (try with_reducible rfl)
      try simp only [Act.put, List.setIfInBounds_toArray, List.set_cons_zero, List.set_cons_succ]
      refine wpAnyE_take (i := 15) (oi := { dst := some 31, op := Op.binOp BinOp.mul 3 (Operand.tmp 24) (Operand.tmp 30) 3, type := 3, pos := "ref.go:282", after := #[{ on := 8, ground := Ground.data }, { on := 14, ground := Ground.data }], guard := none }) (v := ?_) rfl (by kernel_rfl) (by kernel_rfl) (by kernel_rfl) (by kernel_rfl) (fun _ _ _ h => h) (Or.inl ⟨by rfl, ?_⟩) ?_
      rotate_left
      · (intro w hE; have a0 := cellb a0 hE; have c0 := cellb c0 hE; have c1 := cellb c1 hE; (try dsimp only); go_simp); (try with_reducible rfl)
      try simp only [Act.put, List.setIfInBounds_toArray, List.set_cons_zero, List.set_cons_succ]
      refine wpAnyE_take (i := 16) (oi := { dst := some 32, op := Op.binOp BinOp.sub 3 (Operand.tmp 21) (Operand.tmp 31) 3, type := 3, pos := "ref.go:282", after := #[{ on := 5, ground := Ground.data }, { on := 15, ground := Ground.data }], guard := none }) (v := ?_) rfl (by kernel_rfl) (by kernel_rfl) (by kernel_rfl) (by kernel_rfl) (fun _ _ _ h => h) (Or.inl ⟨by rfl, ?_⟩) ?_
      rotate_left
      · (intro w hE; have a0 := cellb a0 hE; have c0 := cellb c0 hE; have c1 := cellb c1 hE; (try dsimp only); go_simp); (try with_reducible rfl)
      try simp only [Act.put, List.setIfInBounds_toArray, List.set_cons_zero, List.set_cons_succ]
      refine wpAnyE_take (i := 17) (oi := { dst := some 8, op := Op.assign (Operand.tmp 32), type := 3, pos := "ref.go:282", after := #[{ on := 16, ground := Ground.data }, { on := 0, ground := Ground.phase }, { on := 1, ground := Ground.phase }, { on := 2, ground := Ground.phase }, { on := 3, ground := Ground.phase }, { on := 4, ground := Ground.phase }, { on := 5, ground := Ground.phase }, { on := 6, ground := Ground.phase }, { on := 7, ground := Ground.phase }, { on := 8, ground := Ground.phase }, { on := 9, ground := Ground.phase }, { on := 10, ground := Ground.phase }, { on := 11, ground := Ground.phase }, { on := 12, ground := Ground.phase }, { on := 13, ground := Ground.phase }, { on := 14, ground := Ground.phase }, { on := 15, ground := Ground.phase }, { on := 16, ground := Ground.phase }], guard := none }) (v := ?_) rfl (by kernel_rfl) (by kernel_rfl) (by kernel_rfl) (by kernel_rfl) (fun _ _ _ h => h) (Or.inl ⟨by rfl, ?_⟩) ?_
      rotate_left
      · (intro w hE; have a0 := cellb a0 hE; have c0 := cellb c0 hE; have c1 := cellb c1 hE; (try dsimp only); go_simp); (try with_reducible rfl)
      try simp only [Act.put, List.setIfInBounds_toArray, List.set_cons_zero, List.set_cons_succ]
      refine wpAnyE_done (by kernel_rfl) (fun wy1 hE => ?_) _
      have hbz1 := bthen hbz hE
      have a0 := cellb a0 hE
      have c0 := cellb c0 hE
      have c1 := cellb c1 hE
      have i1 := i1.carry hE
      have i4 := i4.carry hE
      clear hE
      have hB := hbz1
      obtain ⟨W4, hW4⟩ : ∃ v, v = wy1 := ⟨_, rfl⟩
      rw [← hW4] at hB i1 i4 ⊢
      clear hW4 a0 c0 c1
      go_wp2
      go_roundw
      case rel => exact ⟨k + 1, by omega, by go_num, by rw [HT.out, HLF.out], by rw [HT.out, HLF.out], i1, i4, hB⟩
      case measure => simp [intOf]; omega
    · obtain rfl : k = n := by omega
      rw [List.take_of_length_le (by rw [HN.out]; exact Nat.le_refl _)]
      have hs4 : w.heap.size + 1 < wr.heap.size := Blk.lt i4
      go_wp2_with fail
      refine (TL.out wr).mono ?_
      rintro e W6 ⟨rfl, hb⟩
      replace i4 := i4.carry hb
      replace hB := bthen hB hb
      clear hb a0
      go_wp2_with (refine wpList_storeA rfl _ _ _ rfl (w.heap.size + 1) [r.1, r.2] [0, 0] rfl rfl i4 rfl Tryz.infoRatio ?_)
      have i9 := BlkI.setRowA i4 [r.1, r.2]
      have z0 : (W6.setRow (w.heap.size + 1) (ia [r.1, r.2])).cell? ⟨w.heap.size + 1, 0, none⟩ = some (.int .i64 r.1) := BlkI.cell i9 (j := 0) (by simp)
      have z1 : (W6.setRow (w.heap.size + 1) (ia [r.1, r.2])).cell? ⟨w.heap.size + 1, 1, none⟩ = some (.int .i64 r.2) := BlkI.cell i9 (j := 1) (by simp)
      exact bodyPost_ret (v := .agg #[.int .i64 r.1, .int .i64 r.2]) (by simp [results, Tryz.f39, go_sem, z0, z1]) rfl ⟨rfl, below_rowA hB (by omega) _⟩
end Go.Proofs.YtfkemdapmoponaaGreatDoor

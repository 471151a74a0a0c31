/- The package harmonic: quarter patterns, the design. -/
import Derived.Test.YtfeajpkjjlddlaaGreatDoorHarK
namespace Go.Proofs.YtfeajpkjjlddlaaGreatDoor
set_option linter.unusedSimpArgs false
set_option linter.unusedVariables false
open Go.RowKit

/-- one result that lies in cells. -/
theorem results_cellA {P : Program} {fn : Func} {p : Tmp} {ty : TypeId} (h : fn.results = #[.cell p ty]) (tmps : Array Value) (w : World) (B : Nat) (v : Value) (hp : tmps.getD p undef = .pointer (some ⟨B, 0, none⟩)) (hv : (loadVar ty ⟨B, 0, none⟩).run P w = .ok v w) :
    (results fn tmps).run P w = .ok v w := by
  have hp' : tmps[p]?.getD undef = .pointer (some ⟨B, 0, none⟩) := by simpa using hp
  simp [results, h, hp', asAddr, hv]
theorem Tryz.loadVar12 {l : List Int} (hl : l.length = 12) {w : World} {B : Nat} (h : BlkI w B 30 l) : Sem.run Tryz.prog (loadVar 30 ⟨B, 0, none⟩) w = .ok (.agg (ia l)) w :=
  run_loadVar_row w B 30 30 (ia l) (0, 0) _ h Tryz.undA12 rfl (by rw [Tryz.infoA12, ia_size, hl])
def qOf (a b c : Int) : List Int := [a, b, c, c, b, a, wrap64 (-a), wrap64 (-b), wrap64 (-c), wrap64 (-c), wrap64 (-b), wrap64 (-a)]
set_option maxRecDepth 100000 in
set_option maxHeartbeats 2000000 in
theorem quarterOf_any (a b c : Int) (w : World) :
    Calls Tryz.prog 67 #[.agg (ia [a, b, c])] w fun e w' => e = .returned (.agg (ia (qOf a b c))) ∧ Below w.heap.size w w' := by
  obtain ⟨R, hR⟩ : ∃ R, R = qOf a b c := ⟨_, rfl⟩
  rw [← hR]
  have HR := Lib.hid hR
  clear hR
  go_enter Tryz.func67, Tryz.ntmps67
  go_upto_region 1 with fail
  obtain ⟨W1, hW1⟩ : ∃ v, v = World.alloc w (Obj.cells (ia [a, b, c]) 65) := ⟨_, rfl⟩
  have kW1 : Below w.heap.size w W1 := by rw [hW1]; exact below_new _ _
  have iW1 : BlkI W1 (w.heap.size) 65 [a, b, c] := by rw [hW1]; exact BlkI.new _ _ _
  have sW1 : W1.heap.size = w.heap.size + 1 := by rw [hW1]; simp
  rw [← hW1]
  clear hW1
  obtain ⟨W2, hW2⟩ : ∃ v, v = World.alloc W1 (Obj.cells #[.int .i64 0, .int .i64 0, .int .i64 0, .int .i64 0, .int .i64 0, .int .i64 0, .int .i64 0, .int .i64 0, .int .i64 0, .int .i64 0, .int .i64 0, .int .i64 0] 30) := ⟨_, rfl⟩
  have kW2 : Below W1.heap.size W1 W2 := by rw [hW2]; exact below_new _ _
  have iW2 : BlkI W2 (w.heap.size + 1) 30 (List.replicate 12 0) := by rw [hW2, ← sW1]; exact BlkI.new W1 30 (List.replicate 12 0)
  have sW2 : W2.heap.size = w.heap.size + 1 + 1 := by rw [hW2]; simp [sW1]
  rw [← hW2]
  clear hW2
  have i1 := iW1.carry kW2
  have i2 := iW2
  have hB := bthen kW1 kW2
  clear kW1 kW2 sW1 sW2 iW1 iW2
  have a0 := i1.cell (j := 0) (v := .int .i64 a) rfl
  have a1 := i1.cell (j := 1) (v := .int .i64 b) rfl
  have a2 := i1.cell (j := 2) (v := .int .i64 c) rfl
  refine wp_region_E 8 (by kernel_rfl) ?_
  obtain ⟨wz, hwz⟩ : ∃ v, v = W2.drew := ⟨_, rfl⟩
  rw [← hwz]
  have hlz : Below W2.heap.size W2 wz := by rw [hwz]; exact (Below.refl _ _).drew
  have hbz := bthen hB hlz
  have a0 := cellb a0 hlz
  have a1 := cellb a1 hlz
  have a2 := cellb a2 hlz
  have i2 := i2.carry hlz
  clear hwz hlz
  refine wpAnyE_take (i := 0) (oi := { dst := some 6, op := Op.indexAddr 65 (Operand.tmp 1) (Operand.const (Value.int IntKind.i64 0)), type := 0, pos := "harmonic.go:298", after := #[], guard := none }) (v := ?_) rfl (by kernel_rfl) (by kernel_rfl) (by kernel_rfl) (by kernel_rfl) (fun _ _ _ h => h) (Or.inl ⟨by rfl, ?_⟩) ?_
  rotate_left
  · (intro w hE; have a0 := cellb a0 hE; have a1 := cellb a1 hE; have a2 := cellb a2 hE; (try dsimp only); go_simp); (try with_reducible rfl)
  try simp only [Act.put, List.setIfInBounds_toArray, List.set_cons_zero, List.set_cons_succ]
  refine wpAnyE_take (i := 1) (oi := { dst := some 7, op := Op.load 3 (Operand.tmp 6), type := 3, pos := "harmonic.go:298", after := #[{ on := 0, ground := Ground.data }], guard := none }) (v := ?_) rfl (by kernel_rfl) (by kernel_rfl) (by kernel_rfl) (by kernel_rfl) (fun _ _ _ h => h) (Or.inl ⟨by rfl, ?_⟩) ?_
  rotate_left
  · (intro w hE; have a0 := cellb a0 hE; have a1 := cellb a1 hE; have a2 := cellb a2 hE; (try dsimp only); go_simp); (try with_reducible rfl)
  try simp only [Act.put, List.setIfInBounds_toArray, List.set_cons_zero, List.set_cons_succ]
  refine wpAnyE_take (i := 2) (oi := { dst := some 8, op := Op.indexAddr 65 (Operand.tmp 1) (Operand.const (Value.int IntKind.i64 1)), type := 0, pos := "harmonic.go:298", after := #[{ on := 6, ground := Ground.gcOnly Departure.lateStores }], guard := none }) (v := ?_) rfl (by kernel_rfl) (by kernel_rfl) (by kernel_rfl) (by kernel_rfl) (fun _ _ _ h => h) (Or.inl ⟨by rfl, ?_⟩) ?_
  rotate_left
  · (intro w hE; have a0 := cellb a0 hE; have a1 := cellb a1 hE; have a2 := cellb a2 hE; (try dsimp only); go_simp); (try with_reducible rfl)
  try simp only [Act.put, List.setIfInBounds_toArray, List.set_cons_zero, List.set_cons_succ]
  refine wpAnyE_take (i := 3) (oi := { dst := some 9, op := Op.load 3 (Operand.tmp 8), type := 3, pos := "harmonic.go:298", after := #[{ on := 2, ground := Ground.data }, { on := 6, ground := Ground.gcOnly Departure.lateStores }], guard := none }) (v := ?_) rfl (by kernel_rfl) (by kernel_rfl) (by kernel_rfl) (by kernel_rfl) (fun _ _ _ h => h) (Or.inl ⟨by rfl, ?_⟩) ?_
  rotate_left
  · (intro w hE; have a0 := cellb a0 hE; have a1 := cellb a1 hE; have a2 := cellb a2 hE; (try dsimp only); go_simp); (try with_reducible rfl)
  try simp only [Act.put, List.setIfInBounds_toArray, List.set_cons_zero, List.set_cons_succ]
  refine wpAnyE_take (i := 4) (oi := { dst := some 10, op := Op.indexAddr 65 (Operand.tmp 1) (Operand.const (Value.int IntKind.i64 2)), type := 0, pos := "harmonic.go:298", after := #[{ on := 7, ground := Ground.gcOnly Departure.lateStores }], guard := none }) (v := ?_) rfl (by kernel_rfl) (by kernel_rfl) (by kernel_rfl) (by kernel_rfl) (fun _ _ _ h => h) (Or.inl ⟨by rfl, ?_⟩) ?_
  rotate_left
  · (intro w hE; have a0 := cellb a0 hE; have a1 := cellb a1 hE; have a2 := cellb a2 hE; (try dsimp only); go_simp); (try with_reducible rfl)
  try simp only [Act.put, List.setIfInBounds_toArray, List.set_cons_zero, List.set_cons_succ]
  refine wpAnyE_take (i := 5) (oi := { dst := some 11, op := Op.load 3 (Operand.tmp 10), type := 3, pos := "harmonic.go:298", after := #[{ on := 4, ground := Ground.data }, { on := 7, ground := Ground.gcOnly Departure.lateStores }], guard := none }) (v := ?_) rfl (by kernel_rfl) (by kernel_rfl) (by kernel_rfl) (by kernel_rfl) (fun _ _ _ h => h) (Or.inl ⟨by rfl, ?_⟩) ?_
  rotate_left
  · (intro w hE; have a0 := cellb a0 hE; have a1 := cellb a1 hE; have a2 := cellb a2 hE; (try dsimp only); go_simp); (try with_reducible rfl)
  try simp only [Act.put, List.setIfInBounds_toArray, List.set_cons_zero, List.set_cons_succ]
  refine wpAnyE_take (i := 6) (oi := { dst := some 3, op := Op.assign (Operand.tmp 7), type := 3, pos := "harmonic.go:298", after := #[{ on := 1, ground := Ground.data }, { on := 0, ground := Ground.phase }, { on := 1, ground := Ground.phase }, { on := 2, ground := Ground.textOnly Departure.lateStores }, { on := 3, ground := Ground.textOnly Departure.lateStores }, { on := 4, ground := Ground.textOnly Departure.lateStores }, { on := 5, ground := Ground.textOnly Departure.lateStores }], guard := none }) (v := ?_) rfl (by kernel_rfl) (by kernel_rfl) (by kernel_rfl) (by kernel_rfl) (fun _ _ _ h => h) (Or.inl ⟨by rfl, ?_⟩) ?_
  rotate_left
  · (intro w hE; have a0 := cellb a0 hE; have a1 := cellb a1 hE; have a2 := cellb a2 hE; (try dsimp only); go_simp); (try with_reducible rfl)
  try simp only [Act.put, List.setIfInBounds_toArray, List.set_cons_zero, List.set_cons_succ]
  refine wpAnyE_take (i := 7) (oi := { dst := some 4, op := Op.assign (Operand.tmp 9), type := 3, pos := "harmonic.go:298", after := #[{ on := 3, ground := Ground.data }, { on := 6, ground := Ground.chain }, { on := 0, ground := Ground.phase }, { on := 1, ground := Ground.phase }, { on := 2, ground := Ground.phase }, { on := 3, ground := Ground.phase }, { on := 4, ground := Ground.textOnly Departure.lateStores }, { on := 5, ground := Ground.textOnly Departure.lateStores }, { on := 6, ground := Ground.phase }], guard := none }) (v := ?_) rfl (by kernel_rfl) (by kernel_rfl) (by kernel_rfl) (by kernel_rfl) (fun _ _ _ h => h) (Or.inl ⟨by rfl, ?_⟩) ?_
  rotate_left
  · (intro w hE; have a0 := cellb a0 hE; have a1 := cellb a1 hE; have a2 := cellb a2 hE; (try dsimp only); go_simp); (try with_reducible rfl)
  try simp only [Act.put, List.setIfInBounds_toArray, List.set_cons_zero, List.set_cons_succ]
  refine wpAnyE_one (i := 8) (o := { dst := some 5, op := Op.assign (Operand.tmp 11), type := 3, pos := "harmonic.go:298", after := #[{ on := 5, ground := Ground.data }, { on := 7, ground := Ground.chain }, { on := 0, ground := Ground.phase }, { on := 1, ground := Ground.phase }, { on := 2, ground := Ground.phase }, { on := 3, ground := Ground.phase }, { on := 4, ground := Ground.phase }, { on := 5, ground := Ground.phase }, { on := 6, ground := Ground.phase }, { on := 7, ground := Ground.phase }], guard := none }) (by kernel_rfl) rfl (fun wy1 hE K hK => ?_)
  have a0 := cellb a0 hE
  have a1 := cellb a1 hE
  have a2 := cellb a2 hE
  have i2 := i2.carry hE
  have hbz1 := bthen hbz hE
  go_simp
  refine hK _ _ (fun _ => Below.refl _ _) ?_
  clear hK K hE
  try simp only [Act.put, List.setIfInBounds_toArray, List.set_cons_zero, List.set_cons_succ]
  refine wpAnyE_done (by kernel_rfl) (fun wy2 hE => ?_) _
  have hbz2 := bthen hbz1 hE
  have a0 := cellb a0 hE
  have a1 := cellb a1 hE
  have a2 := cellb a2 hE
  have i2 := i2.carry hE
  clear hE
  have hB := hbz2
  obtain ⟨W5, hW5⟩ : ∃ v, v = wy2 := ⟨_, rfl⟩
  rw [← hW5] at hB i2 ⊢
  clear hW5 a0 a1 a2
  have hl : R.length = 12 := by rw [HR.out]; rfl
  go_wp2_with (refine wpList_storeA rfl _ _ _ rfl (w.heap.size + 1) R (List.replicate 12 0) rfl (by rw [HR.out]; rfl) i2 (by rw [hl]; rfl) (by rw [hl]; exact Tryz.infoA12) ?_)
  have i9 := BlkI.setRowA i2 R
  have hld := Tryz.loadVar12 hl i9
  exact bodyPost_ret (v := .agg (ia R)) (results_cellA (p := 2) rfl _ _ (w.heap.size + 1) _ rfl hld) rfl ⟨rfl, below_rowA hB (by omega) _⟩

/-- a step of the search: the best triple and the greatest strength. -/
def triN (m n : Nat) : Int × Int × Int := (((n / (m + 1) / (m + 1) : Nat) : Int), ((n / (m + 1) % (m + 1) : Nat) : Int), ((n % (m + 1) : Nat) : Int))
def triL (t : Int × Int × Int) : List Int := [t.1, t.2.1, t.2.2]
def triQ (t : Int × Int × Int) : List Int := qOf t.1 t.2.1 t.2.2
def desG (g : Int × Int) (t : Int × Int × Int) : Int := sgnR (scR 1 (stC (orderC (triQ t) 1)) 1 g).1 (scR 1 (stC (orderC (triQ t) 1)) 1 g).2
def desB (lim : List Int) (g : Int × Int) (t : Int × Int × Int) : Bool := posB (desG g t) && (excL (triQ t) lim).length == 0
def desS (m : Nat) (lim : List Int) : Nat → (Int × Int × Int) × (Int × Int)
  | 0 => ((0, 0, 0), (0, 0))
  | n + 1 => if desB lim (desS m lim n).2 (triN m n) then (triN m n, stC (orderC (triQ (triN m n)) 1)) else desS m lim n
/-- what is compared is small. -/
def DesSmall (m : Nat) (lim : List Int) : Prop := ∀ n, n < (m + 1) * (m + 1) * (m + 1) → SmallP (triQ (triN m n)) lim ∧ Small (scR 1 (stC (orderC (triQ (triN m n)) 1)) 1 (desS m lim n).2)
def desE (m : Int) (lim : List Int) : Int := firstE [withinE m 0 12, limE lim]
def tri0 (t : Int × Int × Int) : Bool := t.1 == 0 && t.2.1 == 0 && t.2.2 == 0
def desR (m : Int) (lim : List Int) : (Int × Int × Int) × Int :=
  if desE m lim ≠ 0 then ((0, 0, 0), desE m lim) else if tri0 (desS m.toNat lim ((m.toNat + 1) * (m.toNat + 1) * (m.toNat + 1))).1 then ((0, 0, 0), 18) else ((desS m.toNat lim ((m.toNat + 1) * (m.toNat + 1) * (m.toNat + 1))).1, 0)
end Go.Proofs.YtfeajpkjjlddlaaGreatDoor

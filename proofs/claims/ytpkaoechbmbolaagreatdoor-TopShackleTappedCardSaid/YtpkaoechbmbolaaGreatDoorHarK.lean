/- The package harmonic: the spectrum. -/
import Derived.Test.YtpkaoechbmbolaaGreatDoorHarJ
namespace Go.Proofs.YtpkaoechbmbolaaGreatDoor
set_option linter.unusedSimpArgs false
set_option linter.unusedVariables false
open Go.RowKit

theorem Tryz.undSp : Tryz.prog.underlying 69 = some (.array 12 68) := by kernel_rfl
theorem Tryz.infoSp : (Tryz.prog.info? 69).map (·.size) = some 48 := by kernel_rfl
theorem load48 {l : List Int} (hl : l.length = 48) {w : World} {B : Nat} (h : BlkI w B 69 l) : Sem.run Tryz.prog (Instr.loadAt 69 (.pointer (some ⟨B, 0, none⟩))) w = .ok (.agg (ia l)) w := loadRow Tryz.undSp (by rw [Tryz.infoSp, hl]) h
theorem Tryz.loadVar48 {l : List Int} (hl : l.length = 48) {w : World} {B : Nat} (h : BlkI w B 69 l) : Sem.run Tryz.prog (loadVar 69 ⟨B, 0, none⟩) w = .ok (.agg (ia l)) w :=
  run_loadVar_row w B 69 69 (ia l) (0, 0) _ h Tryz.undSp rfl (by rw [Tryz.infoSp, ia_size, hl])
theorem ia_one (l : List Int) : (ia l).all (·.oneCell') = true := by
  rw [Array.all_eq_true_iff_forall_mem]
  intro v hv
  simp [ia] at hv
  obtain ⟨x, _, rfl⟩ := hv
  rfl
/-- a whole row is stored. -/
theorem wpList_storeA {w : World} {ops : Array Oper} {rest : List Oper} {o : Oper} {a : Act} {Q : Exit → Act → World → Prop} (hg : o.guard = none) (T : TypeId) (x y : Operand) (hop : o.op = Op.store T x y) (B : Nat) (l old : List Int)
    (hx : a.eval x = .pointer (some ⟨B, 0, none⟩)) (hy : a.eval y = .agg (ia l)) (hB : BlkI w B T old) (hlo : old.length = l.length) (hi : (Tryz.prog.info? T).map (·.size) = some l.length)
    (hK : wpList Tryz.prog ops Q rest (a.put o.dst undef) (w.setRow B (ia l))) : wpList Tryz.prog ops Q (o :: rest) a w :=
  wpList_plain hg fun _ hK' => wp_store_row T x y hop B (ia l) hx hy T (ia old) hB (by rw [hi, ia_size]) (by rw [ia_size, ia_size, hlo]) (ia_one l) (hK' _ _ hK)
theorem BlkI.setRowA {w : World} {B : Nat} {T : TypeId} {old : List Int} (h : BlkI w B T old) (l : List Int) : BlkI (w.setRow B (ia l)) B T l := setRow_heap w B _ _ T (0, 0) h
theorem below_rowA {B g : Nat} {w0 w : World} (hb : Below B w0 w) (hBg : B ≤ g) (cs : Array Value) : Below B w0 (w.setRow g cs) :=
  hb.trans ⟨rfl, rfl, rfl, by simp [World.setRow], fun k hk => setRow_other w g k cs (by omega)⟩
/-- an array and another result. -/
theorem results_cell_tmp {P : Program} {fn : Func} {p q : Tmp} {ty : TypeId} (h : fn.results = #[.cell p ty, .tmp q]) (tmps : Array Value) (w : World) (B : Nat) (v : Value) (hp : tmps.getD p undef = .pointer (some ⟨B, 0, none⟩)) (u : Value) (hu : tmps.getD q undef = u) (hv : (loadVar ty ⟨B, 0, none⟩).run P w = .ok v w) :
    (results fn tmps).run P w = .ok (.tuple #[v, u]) w := by
  subst hu
  have hp' : tmps[p]?.getD undef = .pointer (some ⟨B, 0, none⟩) := by simpa using hp
  simp [results, h, hp', asAddr, hv]
theorem Blk.setRow {w : World} {B B' : Nat} {T : TypeId} {vs : List Value} (h : Blk w B T vs) (hne : B ≠ B') (cs : Array Value) : Blk (w.setRow B' cs) B T vs := (setRow_other w B' B cs hne).trans h

def cyAt (x : Int × Int × Int × Int) : Nat → Int
  | 0 => x.1
  | 1 => x.2.1
  | 2 => x.2.2.1
  | _ => x.2.2.2
def specF (l : List Int) (k j : Nat) : Int := if j < 4 * k then cyAt (orderC l ((j / 4 : Nat) : Int)) (j % 4) else 0
def specL (l : List Int) : List Int := upto (specF l 12) 48
theorem upto_get {α : Type} (f : Nat → α) (n j : Nat) : (upto f n)[j]? = if j < n then some (f j) else none := by
  simp [upto]
  by_cases h : j < n
  · simp [h]
  · simp [h]
theorem spec_set (l : List Int) (k : Nat) (hk : k < 12) (o : Int × Int × Int × Int) (ho : o = orderC l (k : Int)) :
    ((((upto (specF l k) 48).set (k * 4) o.1).set (k * 4 + 1) o.2.1).set (k * 4 + 2) o.2.2.1).set (k * 4 + 3) o.2.2.2 = upto (specF l (k + 1)) 48 := by
  subst ho
  apply List.ext_getElem?
  intro j
  simp only [List.getElem?_set, upto_get, List.length_set, upto_length]
  unfold specF
  by_cases h : j = k * 4 ∨ j = k * 4 + 1 ∨ j = k * 4 + 2 ∨ j = k * 4 + 3
  · rcases h with rfl | rfl | rfl | rfl
    · have e1 : k * 4 / 4 = k := by omega
      have e2 : k * 4 % 4 = 0 := by omega
      rw [if_neg (by omega), if_neg (by omega), if_neg (by omega), if_pos rfl, if_pos (by omega), if_pos (by omega), if_pos (by omega), e1, e2]; rfl
    · have e1 : (k * 4 + 1) / 4 = k := by omega
      have e2 : (k * 4 + 1) % 4 = 1 := by omega
      rw [if_neg (by omega), if_neg (by omega), if_pos rfl, if_pos (by omega), if_pos (by omega), if_pos (by omega), e1, e2]; rfl
    · have e1 : (k * 4 + 2) / 4 = k := by omega
      have e2 : (k * 4 + 2) % 4 = 2 := by omega
      rw [if_neg (by omega), if_pos rfl, if_pos (by omega), if_pos (by omega), if_pos (by omega), e1, e2]; rfl
    · have e1 : (k * 4 + 3) / 4 = k := by omega
      have e2 : (k * 4 + 3) % 4 = 3 := by omega
      rw [if_pos rfl, if_pos (by omega), if_pos (by omega), if_pos (by omega), e1, e2]; rfl
  · rw [if_neg (by omega), if_neg (by omega), if_neg (by omega), if_neg (by omega)]
    by_cases hj : j < 48
    · rw [if_pos hj, if_pos hj]
      by_cases h2 : j < 4 * k
      · rw [if_pos h2, if_pos (by omega)]
      · rw [if_neg h2, if_neg (by omega)]
    · rw [if_neg hj, if_neg hj]
theorem spec0 (l : List Int) : List.replicate 48 0 = upto (specF l 0) 48 := by
  apply List.ext_getElem?
  intro j
  rw [upto_get, List.getElem?_replicate]
  unfold specF
  by_cases h : j < 48
  · rw [if_pos h, if_pos h, if_neg (by omega)]
  · rw [if_neg h, if_neg h]

/-- a list, or as many zeros. -/
def arOr (e : Int) (l : List Int) : List Int := if e = 0 then l else List.replicate l.length 0

set_option maxRecDepth 100000 in
set_option maxHeartbeats 4000000 in
theorem SpectrumH_any (l : List Int) (w : World) (hl : l.length = 12) (hw : Powers w) :
    Calls Tryz.prog 21 #[.agg (ia l)] w fun e w' => e = .returned (.tuple #[.agg (ia (arOr (patE l) (specL l))), .int .i64 (patE l)]) ∧ Below w.heap.size w w' := by
  have TP := Lib.hid (fun W => checkPattern_any l W hl)
  obtain ⟨E, hE⟩ : ∃ E, E = patE l := ⟨_, rfl⟩
  rw [← hE] at TP ⊢
  clear hE
  obtain ⟨R, hR⟩ : ∃ R, R = arOr E (specL l) := ⟨_, rfl⟩
  rw [← hR]
  have hR48 : R.length = 48 := by
    rw [hR, arOr]
    split
    · exact upto_length _ _
    · rw [List.length_replicate]; exact upto_length _ _
  go_enter Tryz.func21, Tryz.ntmps21
  go_upto_region 1 with fail
  obtain ⟨W1, hW1⟩ : ∃ v, v = World.alloc w (Obj.cells (ia l) 72) := ⟨_, rfl⟩
  have kW1 : Below w.heap.size w W1 := by rw [hW1]; exact below_new _ _
  have iW1 : BlkI W1 (w.heap.size) 72 l := by rw [hW1]; exact BlkI.new _ _ _
  have sW1 : W1.heap.size = w.heap.size + 1 := by rw [hW1]; simp
  rw [← hW1]
  clear hW1
  obtain ⟨W2, hW2⟩ : ∃ v, v = World.alloc W1 (Obj.cells #[.int .i64 0, .int .i64 0, .int .i64 0, .int .i64 0, .int .i64 0, .int .i64 0, .int .i64 0, .int .i64 0, .int .i64 0, .int .i64 0, .int .i64 0, .int .i64 0, .int .i64 0, .int .i64 0, .int .i64 0, .int .i64 0, .int .i64 0, .int .i64 0, .int .i64 0, .int .i64 0, .int .i64 0, .int .i64 0, .int .i64 0, .int .i64 0, .int .i64 0, .int .i64 0, .int .i64 0, .int .i64 0, .int .i64 0, .int .i64 0, .int .i64 0, .int .i64 0, .int .i64 0, .int .i64 0, .int .i64 0, .int .i64 0, .int .i64 0, .int .i64 0, .int .i64 0, .int .i64 0, .int .i64 0, .int .i64 0, .int .i64 0, .int .i64 0, .int .i64 0, .int .i64 0, .int .i64 0, .int .i64 0] 69) := ⟨_, rfl⟩
  have kW2 : Below W1.heap.size W1 W2 := by rw [hW2]; exact below_new _ _
  have iW2 : BlkI W2 (w.heap.size + 1) 69 (List.replicate 48 0) := by rw [hW2, ← sW1]; exact BlkI.new W1 69 (List.replicate 48 0)
  have sW2 : W2.heap.size = w.heap.size + 1 + 1 := by rw [hW2]; simp [sW1]
  rw [← hW2]
  clear hW2
  replace iW1 := iW1.carry kW2
  have i2 := iW2
  have hB := bthen kW1 kW2
  clear kW1 kW2 sW1 iW2
  have hld := load12 hl iW1
  go_wp2_with (refine wpList_load rfl _ _ rfl hld ?_)
  refine (TP.out W2).mono ?_
  rintro e w3 ⟨rfl, hb3⟩
  clear hld
  replace iW1 := iW1.carry hb3
  replace i2 := i2.carry hb3
  replace hB := bthen hB hb3
  have s3 := hb3.size
  clear hb3
  by_cases he : E = 0
  · subst he
    have hRe : R = specL l := by rw [hR, arOr, if_pos rfl]
    have HR := Lib.hid hRe
    clear hRe hR
    go_upto_region 5 with fail
    obtain ⟨W4, hW4⟩ : ∃ v, v = World.alloc w3 (Obj.cells #[.int .i64 0, .int .i64 0, .int .i64 0, .int .i64 0, .int .i64 0, .int .i64 0, .int .i64 0, .int .i64 0, .int .i64 0, .int .i64 0, .int .i64 0, .int .i64 0, .int .i64 0, .int .i64 0, .int .i64 0, .int .i64 0, .int .i64 0, .int .i64 0, .int .i64 0, .int .i64 0, .int .i64 0, .int .i64 0, .int .i64 0, .int .i64 0, .int .i64 0, .int .i64 0, .int .i64 0, .int .i64 0, .int .i64 0, .int .i64 0, .int .i64 0, .int .i64 0, .int .i64 0, .int .i64 0, .int .i64 0, .int .i64 0, .int .i64 0, .int .i64 0, .int .i64 0, .int .i64 0, .int .i64 0, .int .i64 0, .int .i64 0, .int .i64 0, .int .i64 0, .int .i64 0, .int .i64 0, .int .i64 0] 69) := ⟨_, rfl⟩
    have kW4 : Below w3.heap.size w3 W4 := by rw [hW4]; exact below_new _ _
    have iW4 : BlkI W4 (w3.heap.size) 69 (List.replicate 48 0) := by rw [hW4]; exact BlkI.new w3 69 (List.replicate 48 0)
    have sW4 : W4.heap.size = w3.heap.size + 1 := by rw [hW4]; simp
    rw [← hW4]
    clear hW4
    replace iW1 := iW1.carry kW4
    replace i2 := i2.carry kW4
    replace hB := bthen hB kW4
    have i4 : BlkI W4 w3.heap.size 69 (upto (specF l 0) 48) := by rw [← spec0]; exact iW4
    generalize w3.heap.size = B4 at *
    clear iW4 kW4
    go_wp2_with fail
    go_loopw [13] (fun i wr => ∃ k : Nat, k ≤ 12 ∧ i = .int .i64 k ∧ BlkI wr B4 69 (upto (specF l k) 48) ∧ BlkI wr w.heap.size 72 l ∧ BlkI wr (w.heap.size + 1) 69 (List.replicate 48 0) ∧ Below w.heap.size w wr) (fun i _ => 12 - (intOf i).toNat)
    case atStart => exact ⟨0, by omega, rfl, i4, iW1, i2, hB⟩
    case round =>
      clear i4 iW1 i2 hB
      obtain ⟨k, hk, rfl, i4, iW1, i2, hB⟩ := hrel
      by_cases hlt : k < 12
      · have d1 : (k : Int) < 12 := by omega
        have hld := load12 hl iW1
        have TO := Lib.hid (order_any l k wr hl (by omega) (hw.carry hB))
        obtain ⟨o, ho⟩ : ∃ o, o = orderC l (k : Int) := ⟨_, rfl⟩
        rw [← ho] at TO
        have HSP := Lib.hid (spec_set l k hlt o ho)
        clear ho
        obtain ⟨o0, o1, o2, o3⟩ := o
        simp only [cyV] at TO HSP
        go_wp2_with (refine wpList_load rfl _ _ rfl hld ?_)
        refine TO.out.mono ?_
        rintro e w5 ⟨rfl, hb5⟩
        clear hld TO
        replace iW1 := iW1.carry hb5
        replace i2 := i2.carry hb5
        replace i4 := i4.carry hb5
        replace hB := bthen hB hb5
        clear hb5
        obtain ⟨L, hL⟩ : ∃ L, L = upto (specF l k) 48 := ⟨_, rfl⟩
        have hLl : L.length = 48 := by rw [hL]; exact upto_length _ _
        rw [← hL] at i4 HSP
        clear hL
        have c0 := BlkI.cell (l := L) i4 (j := k * 4) (by omega)
        have c1 := BlkI.cell (l := L) i4 (j := k * 4 + 1) (by omega)
        have c2 := BlkI.cell (l := L) i4 (j := k * 4 + 2) (by omega)
        have c3 := BlkI.cell (l := L) i4 (j := k * 4 + 3) (by omega)
        have f0 := i4.frozen (k * 4)
        have f1 := i4.frozen (k * 4 + 1)
        have f2 := i4.frozen (k * 4 + 2)
        have f3 := i4.frozen (k * 4 + 3)
        go_wp2_with fail
        have i5 := (((BlkI.set (l := L) i4 (k * 4) o0).set (k * 4 + 1) o1).set (k * 4 + 2) o2).set (k * 4 + 3) o3
        rw [HSP.out] at i5
        have hs := hB.size
        go_roundw
        case rel =>
          refine ⟨k + 1, by omega, by go_num, i5, ?_, ?_, ?_⟩
          · exact (((iW1.other (by omega) _).other (by omega) _).other (by omega) _).other (by omega) _
          · exact (((i2.other (by omega) _).other (by omega) _).other (by omega) _).other (by omega) _
          · exact (((hB.setCell (by simp; omega) _).setCell (by simp; omega) _).setCell (by simp; omega) _).setCell (by simp; omega) _
        case measure => simp [intOf]; omega
      · obtain rfl : k = 12 := by omega
        have hld := load48 (upto_length _ _) i4
        rw [show upto (specF l 12) 48 = specL l from rfl, ← HR.out] at hld
        clear i4
        go_wp2_with (first | refine wpList_load rfl _ _ rfl hld ?_ | refine wpList_storeA rfl _ _ _ rfl (w.heap.size + 1) R (List.replicate 48 0) rfl rfl i2 (by rw [hR48]; rfl) (by rw [hR48]; exact Tryz.infoSp) ?_)
        have i9 := BlkI.setRowA i2 R
        have hld := Tryz.loadVar48 hR48 i9
        exact bodyPost_ret (v := .tuple #[.agg (ia R), .int .i64 0]) (results_cell_tmp (p := 2) (q := 3) rfl _ _ (w.heap.size + 1) _ rfl _ rfl hld) rfl ⟨rfl, below_rowA hB (by omega) _⟩
  · have z : (E == 0) = false := by rw [beq_eq_false_iff_ne]; exact he
    have hRe : R = List.replicate 48 0 := by rw [hR, arOr, if_neg he]; congr 1
    have HNE := Lib.hid he
    have HR := Lib.hid hRe
    clear hR hRe
    go_upto_region 3 with fail
    go_wp2_with (refine wpList_storeA rfl _ _ _ rfl (w.heap.size + 1) R (List.replicate 48 0) rfl (by rw [HR.out]; rfl) i2 (by rw [hR48]; rfl) (by rw [hR48]; exact Tryz.infoSp) ?_)
    have i9 := BlkI.setRowA i2 R
    have hld := Tryz.loadVar48 hR48 i9
    exact bodyPost_ret (v := .tuple #[.agg (ia R), .int .i64 E]) (results_cell_tmp (p := 2) (q := 3) rfl _ _ (w.heap.size + 1) _ rfl _ rfl hld) rfl ⟨rfl, below_rowA hB (by omega) _⟩
end Go.Proofs.YtpkaoechbmbolaaGreatDoor

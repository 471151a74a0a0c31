/- The package phasor: a telegram's frame. -/
import Derived.Test.YtjmdnolmaofbiaaDoorThmA
namespace Go.Proofs.YtjmdnolmaofbiaaDoor
set_option linter.unusedSimpArgs false
set_option linter.unusedVariables false
open Go.RowKit

theorem wpList_load {P : Program} {w : World} {ops : Array Oper} {rest : List Oper} {o : Oper} {a : Act} {Q : Exit → Act → World → Prop} (hg : o.guard = none) (t : TypeId) (x : Operand) (hop : o.op = Op.load t x) {v : Value}
    (hrun : (Instr.loadAt t (a.eval x)).run P w = .ok v w) (hK : wpList P ops Q rest (a.put o.dst v) w) : wpList P ops Q (o :: rest) a w := by
  refine wpList_plain hg fun K' hK' => ?_
  unfold Oper.wp execOp
  simp only [hop, hrun, Sem.run_bind, Sem.run_pure, Result.andThen_ok]
  exact hK' _ _ hK
theorem below_rowA {B g : Nat} {w0 w : World} (hb : Below B w0 w) (hBg : B ≤ g) (cs : Array Value) : Below B w0 (w.setRow g cs) :=
  hb.trans ⟨rfl, rfl, rfl, by simp [World.setRow], fun k hk => setRow_other w g k cs (by omega)⟩
theorem results_cell_tmp {P : Program} {fn : Func} {p q : Tmp} {ty : TypeId} (h : fn.results = #[.cell p ty, .tmp q]) (tmps : Array Value) (w : World) (B : Nat) (v : Value) (hp : tmps.getD p undef = .pointer (some ⟨B, 0, none⟩)) (u : Value) (hu : tmps.getD q undef = u) (hv : (loadVar ty ⟨B, 0, none⟩).run P w = .ok v w) :
    (results fn tmps).run P w = .ok (.tuple #[v, u]) w := by
  subst hu
  have hp' : tmps[p]?.getD undef = .pointer (some ⟨B, 0, none⟩) := by simpa using hp
  simp [results, h, hp', asAddr, hv]
/-- bytes as the cells of an array. -/
def ua (s : List Int) : Array Value := (s.map (Value.int .u8)).toArray
theorem ua_size (s : List Int) : (ua s).size = s.length := by simp [ua]
theorem ua_one (s : List Int) : (ua s).all (·.oneCell') = true := by
  rw [Array.all_eq_true_iff_forall_mem]
  intro v hv
  simp [ua] at hv
  obtain ⟨x, _, rfl⟩ := hv
  rfl
def BlkU (w : World) (B : Nat) (T : TypeId) (s : List Int) : Prop := Blk w B T (s.map (Value.int .u8))
theorem Tryd.undA16 : Tryd.prog.underlying 43 = some (.array 16 5) := by kernel_rfl
theorem Tryd.infoA16 : (Tryd.prog.info? 43).map (·.size) = some 16 := by kernel_rfl
theorem load16 {s : List Int} (hl : s.length = 16) {w : World} {B : Nat} {T : TypeId} (h : BlkU w B T s) : Sem.run Tryd.prog (Instr.loadAt 43 (.pointer (some ⟨B, 0, none⟩))) w = .ok (.agg (ua s)) w := by
  have := run_loadVar_row (P := Tryd.prog) w B T 43 (ua s) (0, 0) _ h Tryd.undA16 rfl (by rw [Tryd.infoA16, ua_size, hl])
  simp only [Instr.loadAt, Instr.sureAddr, Sem.run_bind, Sem.run_pure, Result.andThen_ok, this]
theorem Tryd.loadVar16 {s : List Int} (hl : s.length = 16) {w : World} {B : Nat} {T : TypeId} (h : BlkU w B T s) : Sem.run Tryd.prog (loadVar 43 ⟨B, 0, none⟩) w = .ok (.agg (ua s)) w :=
  run_loadVar_row w B T 43 (ua s) (0, 0) _ h Tryd.undA16 rfl (by rw [Tryd.infoA16, ua_size, hl])
/-- sixteen bytes of a row of the call's own, read as an array. -/
theorem load16at {s : List Int} (hl : s.length = 16) {w : World} {B o : Nat} (h : ∀ j, j < 16 → w.cell? ⟨B, o + j, none⟩ = some (.int .u8 (s[j]?.getD 0))) : Sem.run Tryd.prog (Instr.loadAt 43 (.pointer (some ⟨B, o, none⟩))) w = .ok (.agg (ua s)) w := by
  have hc : (s.map (Value.int .u8)).length = 16 := by rw [List.length_map, hl]
  have hcs : ∀ j v, (s.map (Value.int .u8))[j]? = some v → w.cell? ((⟨B, o, none⟩ : Addr).add j) = some v := fun j v hj => by
    rw [addr_add]
    have hlt : j < s.length := by have := (List.getElem?_eq_some_iff.1 hj).1; rwa [List.length_map] at this
    rw [h j (by omega)]
    rw [List.getElem?_map, List.getElem?_eq_getElem hlt] at hj
    rw [List.getElem?_eq_getElem hlt]
    exact hj
  have h1 := run_loadCells_list (P := Tryd.prog) w ⟨B, o, none⟩ (s.map (Value.int .u8)) hcs
  rw [hc] at h1
  have hi := Tryd.infoA16
  cases hq : Tryd.prog.info? 43 with
  | none => rw [hq] at hi; cases hi
  | some i =>
    rw [hq] at hi
    have hs : i.size = 16 := by simpa using hi
    have hagg : (isAgg 43).run Tryd.prog w = .ok true w := by
      unfold isAgg
      rw [Sem.run_bind, run_underlying Tryd.undA16 w]
      rfl
    simp only [Instr.loadAt, Instr.sureAddr, Sem.run_bind, Sem.run_pure, Result.andThen_ok]
    simp [loadVar, Sem.run_bind, hagg, sizeOf, typeInfo, hq, hs, h1, ua]
theorem wpList_storeU {w : World} {ops : Array Oper} {rest : List Oper} {o : Oper} {a : Act} {Q : Exit → Act → World → Prop} (hg : o.guard = none) (T : TypeId) (x y : Operand) (hop : o.op = Op.store T x y) (B : Nat) (l old : List Int)
    (hx : a.eval x = .pointer (some ⟨B, 0, none⟩)) (hy : a.eval y = .agg (ua l)) (hB : BlkU w B T old) (hlo : old.length = l.length) (hi : (Tryd.prog.info? T).map (·.size) = some l.length)
    (hK : wpList Tryd.prog ops Q rest (a.put o.dst undef) (w.setRow B (ua l))) : wpList Tryd.prog ops Q (o :: rest) a w :=
  wpList_plain hg fun _ hK' => wp_store_row T x y hop B (ua l) hx hy T (ua old) hB (by rw [hi, ua_size]) (by rw [ua_size, ua_size, hlo]) (ua_one l) (hK' _ _ hK)
theorem BlkU.setRowU {w : World} {B : Nat} {T : TypeId} {old : List Int} (h : BlkU w B T old) (l : List Int) : BlkU (w.setRow B (ua l)) B T l := setRow_heap w B _ _ T (0, 0) h
theorem BlkU.carry {w w' : World} {B : Nat} {T : TypeId} {s : List Int} (h : BlkU w B T s) (hb : Below w.heap.size w w') : BlkU w' B T s := Blk.carry h hb
theorem arr16 (a : Option Addr) (n cap : Nat) (w : World) (h : 16 ≤ n) : Sem.run Tryd.prog (Instr.arrayAt 43 (.slice a n cap)) w = .ok (.pointer a) w := by
  unfold Instr.arrayAt
  rw [Sem.run_bind, run_underlying Tryd.undA16 w]
  simp [Nat.not_lt.2 h]
theorem Tryd.undA4 : Tryd.prog.underlying 38 = some (.array 4 3) := by kernel_rfl
theorem Tryd.infoInt1' : (Tryd.prog.info? 3).map (·.size) = some 1 := by kernel_rfl
theorem idx4 {l : List Int} (hl : l.length = 4) {k : Nat} (hk : k < 4) (w : World) : Sem.run Tryd.prog (Instr.index 38 (.agg (ia l)) (.int .i64 k)) w = .ok (.int .i64 (l[k]?.getD 0)) w := by
  obtain ⟨i, hi⟩ : ∃ i, Tryd.prog.info? 3 = some i := by
    cases h : Tryd.prog.info? 3 with
    | none => have := Tryd.infoInt1'; rw [h] at this; cases this
    | some i => exact ⟨i, rfl⟩
  have hs : i.size = 1 := by have := Tryd.infoInt1'; rw [hi] at this; simpa using this
  simp [Instr.index, asIntOf, run_underlying Tryd.undA4, sizeOf, typeInfo, hi, hs]
  rw [if_pos hk]
  have hg : (ia l)[k]? = some (.int .i64 (l[k]?.getD 0)) := ia_get l k (by omega)
  simp [part, isAgg, run_underlying (show Tryd.prog.underlying 3 = some _ by kernel_rfl), hg]
/-- the bytes of a frame as k values are in it. -/
def hdK (a b : Int) (vs : List Int) (k : Nat) : List Int := [177, loB a, hiB b, loB b] ++ (vs.take k).flatMap fun v => [hiB v, loB v]
theorem hdK_succ (a b : Int) (vs : List Int) (k : Nat) (hk : k < vs.length) : hdK a b vs (k + 1) = hdK a b vs k ++ [hiB (vs[k]?.getD 0), loB (vs[k]?.getD 0)] := by
  unfold hdK
  rw [List.take_add_one, List.getElem?_eq_getElem hk, List.flatMap_append, List.append_assoc]
  rfl
theorem hdK_len (a b : Int) (vs : List Int) (k : Nat) (hk : k ≤ vs.length) : (hdK a b vs k).length = 4 + 2 * k := by
  induction k with
  | zero => rfl
  | succ k ih => rw [hdK_succ a b vs k (by omega), List.length_append, ih (by omega)]; simp; omega
theorem OwB.form {w : World} {base : Nat} {v : Value} {s : List Int} (h : OwB w base v s) (h0 : 0 < s.length) : ∃ g cap, v = .slice (some ⟨g, 0, none⟩) s.length cap ∧ base ≤ g ∧ ∀ j, j < s.length → w.cell? ⟨g, j, none⟩ = some (.int .u8 (s[j]?.getD 0)) := by
  unfold OwB at h
  rcases h.2 with ⟨_, hn⟩ | ⟨g, cap, cur, hv, hb, hg, hc, _, hs, ht⟩
  · omega
  · refine ⟨g, cap, hv, hb, fun j hj => ?_⟩
    have h1 : (cur.toList.take (s.length * 1))[j]? = (s.map (Value.int .u8))[j]? := by rw [ht]
    rw [Nat.mul_one, List.getElem?_take_of_lt hj, List.getElem?_map, List.getElem?_eq_getElem hj] at h1
    rw [List.getElem?_eq_getElem hj]
    have h2 : cur[j]? = some (.int .u8 s[j]) := by rw [← Array.getElem?_toList]; exact h1
    simp [World.cell?, hg, h2]
set_option maxRecDepth 100000 in
set_option maxHeartbeats 4000000 in
theorem Encode_ok (a b c d e f : Int) (h : TgOk (a, b, c, d, e, f)) (w : World) :
    Calls Tryd.prog 7 #[.agg #[.int .i64 a, .int .i64 b, .int .i64 c, .int .i64 d, .int .i64 e, .int .i64 f]] w fun r w' => r = .returned (.tuple #[.agg (ua (frm (a, b, c, d, e, f))), .int .i64 0]) ∧ Below w.heap.size w w' := by
  have TC := Lib.hid (fun W => CheckTelegram_ok a b c d e f h W)
  obtain ⟨h0, h1, h2, h3, h4, h5⟩ := h
  simp only at h0 h1 h2 h3 h4 h5
  have hvs : ∀ v ∈ [c, d, e, f], -1000000000000 ≤ v ∧ v ≤ 1000000000000 := by
    intro v hv
    simp only [List.mem_cons, List.not_mem_nil, or_false] at hv
    rcases hv with rfl | rfl | rfl | rfl <;> omega
  have HVS := Lib.hid hvs
  have hb0 : -1000000000000 ≤ b ∧ b ≤ 1000000000000 := by omega
  clear hvs h2 h3 h4 h5
  go_enter Tryd.func7, Tryd.ntmps7
  go_upto_region 1 with fail
  obtain ⟨W1, hW1⟩ : ∃ v, v = World.alloc w (Obj.cells #[.int .i64 a, .int .i64 b, .int .i64 c, .int .i64 d, .int .i64 e, .int .i64 f] 40) := ⟨_, rfl⟩
  have kW1 : Below w.heap.size w W1 := by rw [hW1]; exact below_new _ _
  have iW1 : Blk W1 (w.heap.size) 40 [.int .i64 a, .int .i64 b, .int .i64 c, .int .i64 d, .int .i64 e, .int .i64 f] := by rw [hW1]; exact Blk.new _ _ _
  have sW1 : W1.heap.size = w.heap.size + 1 := by rw [hW1]; simp
  rw [← hW1]
  clear hW1
  obtain ⟨W2, hW2⟩ : ∃ v, v = World.alloc W1 (Obj.cells #[.int .u8 0, .int .u8 0, .int .u8 0, .int .u8 0, .int .u8 0, .int .u8 0, .int .u8 0, .int .u8 0, .int .u8 0, .int .u8 0, .int .u8 0, .int .u8 0, .int .u8 0, .int .u8 0, .int .u8 0, .int .u8 0] 43) := ⟨_, rfl⟩
  have kW2 : Below W1.heap.size W1 W2 := by rw [hW2]; exact below_new _ _
  have iW2 : Blk W2 (w.heap.size + 1) 43 [.int .u8 0, .int .u8 0, .int .u8 0, .int .u8 0, .int .u8 0, .int .u8 0, .int .u8 0, .int .u8 0, .int .u8 0, .int .u8 0, .int .u8 0, .int .u8 0, .int .u8 0, .int .u8 0, .int .u8 0, .int .u8 0] := by rw [hW2, ← sW1]; exact Blk.new _ _ _
  have sW2 : W2.heap.size = w.heap.size + 1 + 1 := by rw [hW2]; simp [sW1]
  rw [← hW2]
  clear hW2
  have i1 := Blk.carry iW1 kW2
  have i2 : BlkU W2 (w.heap.size + 1) 43 (List.replicate 16 0) := iW2
  have hB := bthen kW1 kW2
  clear iW1 iW2 kW1 kW2 sW1 sW2
  have a0 := i1.cell (j := 0) (v := .int .i64 a) rfl
  have a1 := i1.cell (j := 1) (v := .int .i64 b) rfl
  have a2 := i1.cell (j := 2) (v := .int .i64 c) rfl
  have a3 := i1.cell (j := 3) (v := .int .i64 d) rfl
  have a4 := i1.cell (j := 4) (v := .int .i64 e) rfl
  have a5 := i1.cell (j := 5) (v := .int .i64 f) rfl
  go_wp2_with fail
  refine (TC.out W2).mono ?_
  rintro r W3 ⟨rfl, hb⟩
  replace i1 := Blk.carry i1 hb
  replace i2 := i2.carry hb
  replace hB := bthen hB hb
  clear hb a0 a1 a2 a3 a4 a5 TC
  have a0 := i1.cell (j := 0) (v := .int .i64 a) rfl
  have a1 := i1.cell (j := 1) (v := .int .i64 b) rfl
  have hla : loB a = a := by unfold loB; omega
  have HLA := Lib.hid hla
  have hb1 : Below W3.heap.size W3 (W3.alloc (.cells #[.int .u8 177, .int .u8 a] 5)) := below_new _ _
  have ho : OwB (W3.alloc (.cells #[.int .u8 177, .int .u8 a] 5)) W3.heap.size (.slice (some ⟨W3.heap.size, 0, none⟩) 2 2) [177, a] :=
    World.ownsRow_lit W3 #[.int .u8 177, .int .u8 a] 2 (Nat.le_refl _) (by unfold maxLen; omega) rfl
  have T1 := Lib.hid (word_any _ [177, a] b W3.heap.size _ (by simp) (by simp) ho hb0)
  have a1' := cellb a1 hb1
  have l2 : w.heap.size + 1 < W3.heap.size := Blk.lt i2
  clear ho hla
  go_wp2_with fail
  refine T1.out.mono ?_
  rintro r W4 ⟨⟨u, rfl, hu⟩, hb2⟩
  have hb4 : Below W3.heap.size W3 W4 := hb1.trans hb2
  replace i1 := Blk.carry i1 hb4
  replace i2 := i2.carry hb4
  replace hB := bthen hB hb4
  have hs4 := hb4.size
  have hu : OwB W4 W3.heap.size u (hdK a b [c, d, e, f] 0) := by
    have : hdK a b [c, d, e, f] 0 = [177, a] ++ [hiB b, loB b] := by unfold hdK; rw [HLA.out]; rfl
    rw [this]; exact hu
  obtain ⟨B4, hB4⟩ : ∃ B, B = W3.heap.size := ⟨_, rfl⟩
  rw [← hB4] at hu hs4 l2
  clear T1 hb1 hb2 a0 a1 a1' hb4 hB4
  have a2 := i1.cell (j := 2) (v := .int .i64 c) rfl
  have a3 := i1.cell (j := 3) (v := .int .i64 d) rfl
  have a4 := i1.cell (j := 4) (v := .int .i64 e) rfl
  have a5 := i1.cell (j := 5) (v := .int .i64 f) rfl
  go_wp2_with fail
  go_loopw [5, 24] (fun x i wr => ∃ k : Nat, k ≤ 4 ∧ i = .int .i64 k ∧ OwB wr B4 x (hdK a b [c, d, e, f] k) ∧ Below B4 W4 wr) (fun _ i _ => 4 - (intOf i).toNat)
  case atStart => exact ⟨0, by omega, rfl, hu, Below.refl _ _⟩
  case round =>
    obtain ⟨k, hk, rfl, hown, hbel⟩ := hrel
    by_cases hlt : k < 4
    · have hix : ∀ W, Sem.run Tryd.prog (Instr.index 38 (.agg #[.int .i64 c, .int .i64 d, .int .i64 e, .int .i64 f]) (.int .i64 (k : Int))) W = .ok (.int .i64 ([c, d, e, f][k]?.getD 0)) W := fun W => idx4 (l := [c, d, e, f]) rfl hlt W
      have hy := HVS.out ([c, d, e, f][k]?.getD 0) (by rw [List.getElem?_eq_getElem (by exact hlt)]; exact List.getElem_mem _)
      have HS := Lib.hid (hdK_succ a b [c, d, e, f] k hlt)
      have hlen := hdK_len a b [c, d, e, f] k (by exact hk)
      have d1 : (k : Int) < 4 := by omega
      generalize [c, d, e, f][k]?.getD 0 = y at hix hy HS
      have TW := Lib.hid (word_any _ (hdK a b [c, d, e, f] k) y B4 wr (by omega) (Nat.le_trans hs4 hbel.size) hown hy)
      clear hown hlen
      go_wp2_with fail
      refine TW.out.mono ?_
      rintro r W5 ⟨⟨u5, rfl, hu5⟩, hb5⟩
      rw [← HS.out] at hu5
      go_wp2_with fail
      go_roundw
      case rel => exact ⟨k + 1, by omega, by go_num, hu5, hbel.trans hb5⟩
      case measure => simp [intOf]; omega
    · obtain rfl : k = 4 := by omega
      have hown2 : OwB wr B4 u5 (hd12 (a, b, c, d, e, f)) := hown
      have hbr := Byt.of_own hown2
      have hck := ckN_bd (hd12 (a, b, c, d, e, f))
      have TK := Lib.hid (checksum_any _ _ wr (hd12_byte (a, b, c, d, e, f)) (by rw [hd12_len]; omega) hbr)
      have HFR : frm (a, b, c, d, e, f) = hd12 (a, b, c, d, e, f) ++ lng (ckN (hd12 (a, b, c, d, e, f))) := rfl
      have HF := Lib.hid HFR
      have hfl := frm_len (a, b, c, d, e, f)
      generalize ckN (hd12 (a, b, c, d, e, f)) = n at TK hck HF
      have TL := Lib.hid (long_any _ (hd12 (a, b, c, d, e, f)) n B4 wr (by rw [hd12_len]; omega) (Nat.le_trans hs4 hbel.size) hown2 (by omega))
      rw [← HF.out] at TL
      obtain ⟨F, hFd⟩ : ∃ F, F = frm (a, b, c, d, e, f) := ⟨_, rfl⟩
      rw [← hFd] at TL hfl
      have HFD := Lib.hid hFd
      clear hown hown2 hbr HFR hck HF hFd
      go_wp2_with fail
      refine TK.out.mono ?_
      rintro r W5 ⟨rfl, rfl⟩
      go_wp2_with fail
      refine TL.out.mono ?_
      rintro r W6 ⟨⟨u6, rfl, hu6⟩, hb6⟩
      clear TK TL
      obtain ⟨g, cap, rfl, hgb, hcl⟩ := hu6.form (by omega)
      rw [hfl] at hcl ⊢
      have hb46 := hbel.trans hb6
      have i2' : BlkU W6 (w.heap.size + 1) 43 (List.replicate 16 0) := Blk.below i2 hb46 l2
      have hB6 : Below w.heap.size w W6 := hB.trans (hb46.mono (by omega))
      have hld := load16at (w := W6) (B := g) (o := 0) hfl (fun j hj => by rw [Nat.zero_add]; exact hcl j hj)
      have harr := arr16 (some ⟨g, 0, none⟩) 16 cap W6 (Nat.le_refl _)
      clear hu6 hcl
      go_wp2_with (first | (refine wpList_load rfl _ _ rfl hld ?_) | (refine wpList_storeU rfl _ _ _ rfl (w.heap.size + 1) F (List.replicate 16 0) rfl rfl i2' (by rw [hfl]; rfl) (by rw [hfl]; exact Tryd.infoA16) ?_))
      have i9 := BlkU.setRowU i2' F
      have hld9 := Tryd.loadVar16 hfl i9
      exact bodyPost_ret (v := .tuple #[.agg (ua F), .int .i64 0]) (results_cell_tmp (p := 2) (q := 3) rfl _ _ (w.heap.size + 1) _ rfl _ rfl hld9) rfl ⟨by rw [HFD.out], below_rowA hB6 (by omega) _⟩
end Go.Proofs.YtjmdnolmaofbiaaDoor

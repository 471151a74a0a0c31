/- Texts: the program's Parse, the walk. -/
import Derived.Test.YtoihfmndhfnmmaaGreatDoorTxtF
import Derived.Test.YtoihfmndhfnmmaaGreatDoorHqA
import Derived.Laws.EntriesVeiled
import Derived.Sort.CutIn
namespace Go.Proofs.YtoihfmndhfnmmaaGreatDoor
set_option linter.unusedSimpArgs false
set_option linter.unusedVariables false
open Go.RowKit

attribute [local go_sem] Oper.semAt_some
/-- what Parse tells of a text. -/
def ParsePost (L : List UInt8) (e : Ending) (W' : World) : Prop :=
  if 4096 < L.length then e = .returned (.tuple #[.agg #[.slice none 0 0], .int .i64 0, .int .i64 26]) else
  match badAt (linesL L) with
  | some n => e = .returned (.tuple #[.agg #[.slice none 0 0], .int .i64 (n : Int), .int .i64 25])
  | none => if fltE (brsOf (linesL L)) = 0 then ∃ u, e = .returned (.tuple #[.agg #[u], .int .i64 0, .int .i64 0]) ∧ Pairs W' u (brsOf (linesL L))
    else e = .returned (.tuple #[.agg #[.slice none 0 0], .int .i64 ((linesL L).length : Int), .int .i64 (fltE (brsOf (linesL L)))])
theorem linesL_len (L : List UInt8) : (linesL L).length ≤ L.length + 1 := by
  have h := splitC_length 10 L
  have h2 : L.count 10 ≤ L.length := List.count_le_length
  unfold linesL
  rw [List.length_append, List.length_map, List.length_dropLast]
  split <;> simp <;> omega
theorem pairs_own {w : World} {base : Nat} {e : TypeId} {v : Value} {l : List (Int × Int)} (h : w.ownsRow base e 2 v l.length ((flat2 l).map (Value.int .i64))) : Pairs w v l := Pairs.of_own h
theorem line_len {L x : List UInt8} (h : x ∈ linesL L) : x.length ≤ L.length + 1 := by
  unfold linesL at h
  rcases List.mem_append.1 h with h | h
  · obtain ⟨p, hp, rfl⟩ := List.mem_map.1 h
    have := splitC_len 10 L p (List.dropLast_subset _ hp)
    rw [List.length_append, List.length_singleton]; omega
  · split at h
    · simp at h
    · have := splitC_len 10 L x (by rw [List.mem_singleton.1 h]; exact List.getLast_mem _)
      omega
theorem bodyL_len (l : List UInt8) : (bodyL l).length ≤ l.length := by
  unfold bodyL
  split
  · rw [List.length_dropLast]; omega
  · exact Nat.le_refl _
theorem zeroForm (W : World) : (zeroValue 160).run Tryz.prog W = .ok (.agg #[.nilFunc]) W := by
  go_simp
def three (W : World) (h : Nat) (v2 v3 v4 : Value) : World := ((W.setCell ⟨h, 0, none⟩ v2).setCell ⟨h + 1, 0, none⟩ v3).setCell ⟨h + 1 + 1, 0, none⟩ v4
theorem setThree {w W1 : World} {h D : Nat} {T2 T3 T4 : TypeId} {o2 o3 o4 : Value} {ob : Obj} (v2 v3 v4 : Value) (b2 : Blk W1 h T2 [o2]) (b3 : Blk W1 (h + 1) T3 [o3]) (b4 : Blk W1 (h + 2) T4 [o4]) (hD : h + 2 < D)
    (hK : W1.heap[D]? = some ob) (hB : Below h w W1) :
    Blk (three W1 h v2 v3 v4) h T2 [v2] ∧ Blk (three W1 h v2 v3 v4) (h + 1) T3 [v3] ∧ Blk (three W1 h v2 v3 v4) (h + 2) T4 [v4] ∧ (three W1 h v2 v3 v4).heap[D]? = some ob ∧ Below h w (three W1 h v2 v3 v4) :=
  ⟨((b2.set 0 v2).other (by omega) _).other (by omega) _, ((b3.other (by omega) _).set 0 v3).other (by omega) _, ((b4.other (by omega) _).other (by omega) _).set 0 v4,
    (Below.heap_setCell _ _ _ _ (by simp; omega)).trans ((Below.heap_setCell _ _ _ _ (by simp; omega)).trans ((Below.heap_setCell _ _ _ _ (by simp; omega)).trans hK)),
    ((hB.setCell (by simp) _).setCell (by simp) _).setCell (by simp; omega) _⟩
theorem three_blk {W : World} {k D : Nat} {T : TypeId} {v : Value} (b : Blk W k T [v]) (hk : k < D) : (W.putObj D (.deferred none)).cell? ⟨k, 0, none⟩ = some v :=
  (blk_own b (grownBy_putObj' W D (.deferred none)) (fun r e => by cases e; omega)).cell (j := 0) rfl
theorem brW_cons (p : List UInt8) (wt : List (List UInt8)) : brW (p :: wt) = if wt.length = 2 ∧ p = [98, 114, 97, 110, 99, 104] ∧ twoW wt = true then some (valD (wt[0]?.getD []), valD (wt[1]?.getD [])) else none := by
  unfold brW twoW
  by_cases h : wt.length = 2
  · obtain ⟨a, b, rfl⟩ : ∃ a b, wt = [a, b] := by
      match wt, h with
      | [a, b], _ => exact ⟨a, b, rfl⟩
    by_cases hp : p = [98, 114, 97, 110, 99, 104]
    · subst hp
      simp [okW]
    · rw [if_neg (fun e => hp e.2.1), if_neg]
      intro e
      exact hp e.2.1
  · rw [if_neg (fun e => h (by have := e.1; simpa using this)), if_neg (fun e => h e.1)]
theorem branch_iff (p : List UInt8) : (⟨p.toArray⟩ : ByteArray) = branchB ↔ p = [98, 114, 97, 110, 99, 104] := by
  constructor
  · intro h
    have := congrArg (fun b : ByteArray => b.data.toList) h
    simpa [branchB] using this
  · rintro rfl; rfl
theorem three_keeps (W : World) (h : Nat) (v2 v3 v4 : Value) : KeepsFrom (h + 6) W (three W h v2 v3 v4).drew :=
  ⟨by simp [three, World.drew], fun k o hk ho _ => (Below.heap_setCell _ _ _ _ (by simp; omega)).trans ((Below.heap_setCell _ _ _ _ (by simp; omega)).trans ((Below.heap_setCell _ _ _ _ (by simp; omega)).trans ho))⟩
/-- a wrong line's way out. -/
theorem exit_post {w W Wz : World} {B : Nat} (hBv : B = w.heap.size + 6) {pre : List (Value × List UInt8)} {x : Value × List UInt8} {a : Act} {Kp : World → World → Prop} (hk : Keep (fun k => k = w.heap.size + 3 ∨ w.heap.size + 6 ≤ k) W Wz)
    (hgood : ∀ y ∈ pre, lineP y.2 ≠ none) (hbad : lineP x.2 = none) (b2 : Blk W w.heap.size 73 [.slice none 0 0]) (b3 : Blk W (w.heap.size + 1) 3 [.int .i64 0]) (b4 : Blk W (w.heap.size + 2) 31 [.int .i64 0])
    (hB : Below w.heap.size w W) :
    ownPostG B Kp (PInv w) (PEx w) (pre ++ [x]) W .ret a (three Wz w.heap.size (.slice none 0 0) (.int .i64 (pre.length : Int)) (.int .i64 25)).drew := by
  have hW := hB.size
  have hsz : w.heap.size + 2 < W.heap.size := Blk.lt b4
  have c2 := hk.blk b2 (by omega)
  have c3 := hk.blk b3 (by omega)
  have c4 := hk.blk b4 (by omega)
  have hBz : Below w.heap.size w Wz := hB.trans (hk.below (fun k hk => by omega) hW)
  have hx : Wz.heap[w.heap.size + 3]? = Wz.heap[w.heap.size + 3]? := rfl
  subst hBv
  refine ⟨(hk.from _).trans (three_keeps Wz _ _ _ _), ⟨rfl, pre, x, rfl, hgood, hbad⟩, ?_, ?_, ?_, ?_⟩
  · exact ((c2.set 0 _).other (by omega) _).other (by omega) _
  · rw [show (pre ++ [x]).length - 1 = pre.length by simp]
    exact ((c3.other (by omega) _).set 0 _).other (by omega) _
  · exact ((c4.other (by omega) _).other (by omega) _).set 0 _
  · exact (((hBz.setCell (by simp) _).setCell (by simp) _).setCell (by simp; omega) _).drew
/-- a right line. -/
theorem next_post {w W Wz : World} {B : Nat} (hBv : B = w.heap.size + 6) {pre : List (Value × List UInt8)} {x : Value × List UInt8} {a : Act} {l c : Int} {fv : Value} (hk : Keep (fun k => k = w.heap.size + 3 ∨ w.heap.size + 6 ≤ k) W Wz)
    (hgood : ∀ y ∈ pre, lineP y.2 ≠ none) (hp : lineP x.2 = some (l, c)) (b2 : Blk W w.heap.size 73 [.slice none 0 0]) (b3 : Blk W (w.heap.size + 1) 3 [.int .i64 0]) (b4 : Blk W (w.heap.size + 2) 31 [.int .i64 0])
    (b6 : Blk W (w.heap.size + 4) 3 [.int .i64 (pre.length : Int)]) (bs : ∃ o : Obj, W.heap[w.heap.size + 5]? = some o) (b5 : Blk Wz (w.heap.size + 3) 73 [fv])
    (hown : Wz.ownsRow (w.heap.size + 6) 148 2 fv (brsOf (pre.map Prod.snd) ++ [(l, c)]).length ((flat2 (brsOf (pre.map Prod.snd) ++ [(l, c)])).map (Value.int .i64)))
    (hB : Below w.heap.size w W) (hsz : w.heap.size + 6 ≤ W.heap.size) :
    ownPostG B (fun A B => B.heap[w.heap.size + 5]? = A.heap[w.heap.size + 5]?) (PInv w) (PEx w) (pre ++ [x]) W .normal a (Wz.setCell ⟨w.heap.size + 4, 0, none⟩ (.int .i64 ((pre.length : Int) + 1))) := by
  have c2 := hk.blk b2 (by omega)
  have c3 := hk.blk b3 (by omega)
  have c4 := hk.blk b4 (by omega)
  have c6 := hk.blk b6 (by omega)
  have hBz : Below w.heap.size w Wz := hB.trans (hk.below (fun k hk => by omega) (by omega))
  have hbr : brsOf ((pre ++ [x]).map Prod.snd) = brsOf (pre.map Prod.snd) ++ [(l, c)] := by
    unfold brsOf
    rw [List.map_append, List.filterMap_append]
    simp [hp]
  subst hBv
  refine ⟨(hk.from _).trans ⟨by simp, fun k o hk ho _ => (Below.heap_setCell _ _ _ _ (by simp; omega)).trans ho⟩, ?_, ?_, ?_, ?_, ?_, ?_, ?_, ?_, ?_⟩
  · obtain ⟨o, ho⟩ := bs
    rw [ho]
    exact (Below.heap_setCell _ _ _ _ (by simp)).trans (hk.same _ o ho (.inl (by omega)))
  · intro y hy
    rcases List.mem_append.1 hy with hy | hy
    · exact hgood y hy
    · rw [List.mem_singleton.1 hy, hp]; simp
  · exact c2.other (by omega) _
  · exact c3.other (by omega) _
  · exact c4.other (by omega) _
  · rw [show ((pre ++ [x]).length : Int) = (pre.length : Int) + 1 by simp]
    exact c6.set 0 _
  · rw [hbr]
    exact ⟨fv, b5.other (by omega) _, ownsRow_setO hown (by omega)⟩
  · exact hBz.setCell (by simp) _
  · have := hk.size
    simp; omega
set_option maxRecDepth 100000 in
set_option maxHeartbeats 8000000 in
theorem Parse_any (s : ByteArray) (w : World) (hs : s.size ≤ 100000) (hM : MaxL w) :
    Calls Tryz.prog 31 #[.string s] w fun e W' => ParsePost s.data.toList e W' ∧ Below w.heap.size w W' := by
  have HL := Lib.hid (data_len s)
  have HM := Lib.hid hM
  clear hM
  obtain ⟨L, hL⟩ : ∃ L, L = s.data.toList := ⟨_, rfl⟩
  have hsL : s = ⟨L.toArray⟩ := baEq (by rw [hL])
  rw [← hL] at HL ⊢
  clear hL
  obtain ⟨n, hn⟩ : ∃ n, n = s.size := ⟨_, rfl⟩
  have hn' : s.size = n := hn.symm
  rw [hn'] at HL hs
  have HSL := Lib.hid hsL
  clear hn hsL
  refine calls_of_postR Tryz.func31 rfl ?_
  simp only [Tryz.ntmps31, List.size_toArray, List.length_cons, List.length_nil, Nat.reduceAdd, Nat.reduceSub, Array.replicate_succ, Array.replicate_zero, List.push_toArray, List.append_toArray, List.nil_append, List.cons_append]
  by_cases hlt : 4096 < n
  · have hlt' : 4096 < (n : Int) := by omega
    go_upto_region 1 with fail
    obtain ⟨W1, hW1⟩ : ∃ v, v = World.alloc w (Obj.cells #[.slice none 0 0] 73) := ⟨_, rfl⟩
    have kW1 : Below w.heap.size w W1 := by rw [hW1]; exact below_new _ _
    have iW1 : Blk W1 (w.heap.size) 73 [.slice none 0 0] := by rw [hW1]; exact Blk.new _ _ _
    have sW1 : W1.heap.size = w.heap.size + 1 := by rw [hW1]; simp
    rw [← hW1]
    clear hW1
    obtain ⟨W2, hW2⟩ : ∃ v, v = World.alloc W1 (Obj.cells #[.int .i64 0] 3) := ⟨_, rfl⟩
    have kW2 : Below W1.heap.size W1 W2 := by rw [hW2]; exact below_new _ _
    have iW2 : Blk W2 (w.heap.size + 1) 3 [.int .i64 0] := by rw [hW2, ← sW1]; exact Blk.new _ _ _
    have sW2 : W2.heap.size = w.heap.size + 1 + 1 := by rw [hW2]; simp [sW1]
    rw [← hW2]
    clear hW2
    obtain ⟨W3, hW3⟩ : ∃ v, v = World.alloc W2 (Obj.cells #[.int .i64 0] 31) := ⟨_, rfl⟩
    have kW3 : Below W2.heap.size W2 W3 := by rw [hW3]; exact below_new _ _
    have iW3 : Blk W3 (w.heap.size + 1 + 1) 31 [.int .i64 0] := by rw [hW3, ← sW2]; exact Blk.new _ _ _
    have sW3 : W3.heap.size = w.heap.size + 1 + 1 + 1 := by rw [hW3]; simp [sW2]
    rw [← hW3]
    clear hW3
    have b2 := (iW1.carry kW2).carry kW3
    have b3 := iW2.carry kW3
    have b4 := iW3
    have hB3 : Below w.heap.size w W3 := bthen (bthen kW1 kW2) kW3
    have c2 := b2.cell (j := 0) (v := .slice none 0 0) rfl
    have c3 := b3.cell (j := 0) (v := .int .i64 0) rfl
    have c4 := b4.cell (j := 0) (v := .int .i64 0) rfl
    have f2 := b2.frozen 0
    have f3 := b3.frozen 0
    have f4 := b4.frozen 0
    clear kW1 kW2 kW3 sW1 sW2 sW3 iW1 iW2 iW3
    go_wp2
    have e2 := (((b2.set 0 (.slice none 0 0)).other (j := 0) (by omega : w.heap.size ≠ w.heap.size + 1) (.int .i64 0)).other (j := 0) (by omega : w.heap.size ≠ w.heap.size + 1 + 1) (.int .i64 26)).cell (j := 0) (v := .slice none 0 0) rfl
    have e3 := (((b3.other (j := 0) (by omega : w.heap.size + 1 ≠ w.heap.size) (.slice none 0 0)).set 0 (.int .i64 0)).other (j := 0) (by omega : w.heap.size + 1 ≠ w.heap.size + 1 + 1) (.int .i64 26)).cell (j := 0) (v := .int .i64 0) rfl
    have e4 := (((b4.other (j := 0) (by omega : w.heap.size + 1 + 1 ≠ w.heap.size) (.slice none 0 0)).other (j := 0) (by omega : w.heap.size + 1 + 1 ≠ w.heap.size + 1) (.int .i64 0)).set 0 (.int .i64 26)).cell (j := 0) (v := .int .i64 26) rfl
    refine postR_ret (v := .tuple #[.agg #[.slice none 0 0], .int .i64 0, .int .i64 26]) ?_ rfl ⟨?_, ((hB3.setCell (by simp) _).setCell (by simp) _).setCell (by simp; omega) _⟩
    · simp [results, Tryz.f31, go_sem, e2, e3, e4]
    · unfold ParsePost
      rw [if_pos (by rw [HL.out]; exact hlt)]
  · have hlt' : ¬ 4096 < (n : Int) := by omega
    go_upto_region 1 with fail
    obtain ⟨W1, hW1⟩ : ∃ v, v = World.alloc w (Obj.cells #[.slice none 0 0] 73) := ⟨_, rfl⟩
    have kW1 : Below w.heap.size w W1 := by rw [hW1]; exact below_new _ _
    have iW1 : Blk W1 (w.heap.size) 73 [.slice none 0 0] := by rw [hW1]; exact Blk.new _ _ _
    have sW1 : W1.heap.size = w.heap.size + 1 := by rw [hW1]; simp
    rw [← hW1]
    clear hW1
    obtain ⟨W2, hW2⟩ : ∃ v, v = World.alloc W1 (Obj.cells #[.int .i64 0] 3) := ⟨_, rfl⟩
    have kW2 : Below W1.heap.size W1 W2 := by rw [hW2]; exact below_new _ _
    have iW2 : Blk W2 (w.heap.size + 1) 3 [.int .i64 0] := by rw [hW2, ← sW1]; exact Blk.new _ _ _
    have sW2 : W2.heap.size = w.heap.size + 1 + 1 := by rw [hW2]; simp [sW1]
    rw [← hW2]
    clear hW2
    obtain ⟨W3, hW3⟩ : ∃ v, v = World.alloc W2 (Obj.cells #[.int .i64 0] 31) := ⟨_, rfl⟩
    have kW3 : Below W2.heap.size W2 W3 := by rw [hW3]; exact below_new _ _
    have iW3 : Blk W3 (w.heap.size + 1 + 1) 31 [.int .i64 0] := by rw [hW3, ← sW2]; exact Blk.new _ _ _
    have sW3 : W3.heap.size = w.heap.size + 1 + 1 + 1 := by rw [hW3]; simp [sW2]
    rw [← hW3]
    clear hW3
    go_upto_region 4 with fail
    obtain ⟨W4, hW4⟩ : ∃ v, v = World.alloc W3 (Obj.cells #[.slice none 0 0] 73) := ⟨_, rfl⟩
    have kW4 : Below W3.heap.size W3 W4 := by rw [hW4]; exact below_new _ _
    have iW4 : Blk W4 (w.heap.size + 1 + 1 + 1) 73 [.slice none 0 0] := by rw [hW4, ← sW3]; exact Blk.new _ _ _
    have sW4 : W4.heap.size = w.heap.size + 1 + 1 + 1 + 1 := by rw [hW4]; simp [sW3]
    rw [← hW4]
    clear hW4
    go_upto_region 5 with fail
    obtain ⟨W5, hW5⟩ : ∃ v, v = World.alloc W4 (Obj.cells #[.int .i64 0] 3) := ⟨_, rfl⟩
    have kW5 : Below W4.heap.size W4 W5 := by rw [hW5]; exact below_new _ _
    have iW5 : Blk W5 (w.heap.size + 1 + 1 + 1 + 1) 3 [.int .i64 0] := by rw [hW5, ← sW4]; exact Blk.new _ _ _
    have sW5 : W5.heap.size = w.heap.size + 1 + 1 + 1 + 1 + 1 := by rw [hW5]; simp [sW4]
    rw [← hW5]
    clear hW5
    have b2 := ((iW1.carry kW2).carry kW3).carry (bthen kW4 kW5)
    have b3 := (iW2.carry kW3).carry (bthen kW4 kW5)
    have b4 := iW3.carry (bthen kW4 kW5)
    have b5 := iW4.carry kW5
    have b6 := iW5
    have hB5 : Below w.heap.size w W5 := bthen (bthen (bthen kW1 kW2) kW3) (bthen kW4 kW5)
    have s5 : W5.heap.size = w.heap.size + 5 := by omega
    clear iW1 iW2 iW3 iW4 iW5 kW1 kW2 kW3 kW4 kW5 sW1 sW2 sW3 sW4 sW5
    go_wp2_with fail
    refine (lines_any s W5).mono ?_
    rintro e V ⟨rfl, hV⟩
    have kV : Below W5.heap.size W5 V := by rw [← hV]; exact below_new _ _
    have sV : V.heap.size = w.heap.size + 6 := by rw [← hV, World.size_alloc, s5]
    have lV : Left V (w.heap.size + 5) L := by rw [← hV, HSL.out, ← s5]; exact Blk.new _ _ _
    rw [s5]
    have b2 := b2.carry kV
    have b3 := b3.carry kV
    have b4 := b4.carry kV
    have b5 := b5.carry kV
    have b6 := b6.carry kV
    have hBV := bthen hB5 kV
    clear hV kV hB5 s5
    have HMV := Lib.hid (HM.out.carry (hBV.mono (Nat.le_refl _)))
    have hLl : L.length ≤ 1000000 := by rw [HL.out]; omega
    have hV0 : PInv w [] V := ⟨fun x hx => by simp at hx, b2, b3, b4, b6, ⟨_, b5, World.ownsRow_nil _ _ _ _⟩, hBV, by omega⟩
    clear b2 b3 b4 b5 b6
    go_wp2_with fail
    refine wp_rangeR (s := 7) (gf := 138) (lb := #[.pointer (some ⟨w.heap.size + 5, 0, none⟩)]) rfl (enters_of Tryz.func138 (by kernel_rfl) rfl)
      (lines_seq 4 (by omega) (w.heap.size + 5) L hLl V lV) (fun r e => by subst e; omega)
      (fun h k => k.trans h) (fun W l o o' hl h _ _ => World.putObj_heap_other (by omega)) (fun W => rfl) (Below.refl _ _)
      (PInv w) (PEx w) (PInv.own w (by omega)) (fun c => PEx.own w (by omega) c) hV0
      (fun pre A B r h hg e => by subst e; exact PInv.write w pre A B h hg) (fun pre x A B row hs _ _ => hs) ?assign ?body ?done ?stop
    case assign =>
      intro l v W K hK
      gi_wp2
      exact hK
    case body =>
      rintro l pre ⟨xv, xl⟩ W ⟨hgood, b2, b3, b4, b6, ⟨fv, b5, hown⟩, hBW, hsz⟩ ⟨hxv, post, hpost⟩
      simp only at hxv hpost
      subst hxv
      simp only [List.setIfInBounds_toArray, List.set_cons_succ, List.set_cons_zero]
      have hwf : ∀ f, (Fence.wide.inRound l).fn f := fun _ => trivial
      have hxl : xl.length ≤ 100001 := by
        have := line_len (L := L) (x := xl) (by rw [← hpost]; exact List.mem_append_right _ (List.mem_cons_self ..))
        have := HL.out
        omega
      have hbl := bodyL_len xl
      have HLP := Lib.hid (lineP_of xl)
      have HX := Lib.hid (cut_any xl W (by omega))
      have hsW := hBW.size
      have hsWV : V.heap.size ≤ W.heap.size := by omega
      obtain ⟨whole, hwh⟩ : ∃ b, b = endsL xl := ⟨_, rfl⟩
      obtain ⟨bd, hbd⟩ : ∃ b, b = bodyL xl := ⟨_, rfl⟩
      rw [← hwh, ← hbd] at HX HLP
      rw [← hbd] at hbl
      have hpl : (brsOf (pre.map Prod.snd)).length ≤ 1000000 := by
        have h1 : (brsOf (pre.map Prod.snd)).length ≤ (pre.map Prod.snd).length := List.length_filterMap_le ..
        have h2 := congrArg List.length hpost
        rw [List.length_append, List.length_cons] at h2
        have h3 := linesL_len L
        have := HL.out
        omega
      have HPL := Lib.hid (show pre.length ≤ 1000000 by
        have h2 := congrArg List.length hpost
        rw [List.length_append, List.length_cons, List.length_map] at h2
        have h3 := linesL_len L
        have := HL.out
        omega)
      clear hwh hbd hpost post
      have hX := HX.out
      unfold strV at hX ⊢
      gi_wp2_with fail
      refine (((callsIn_wide (n := 2)).2 hX).inRound l).mono ?_
      rintro e w1 ⟨rfl, rfl⟩
      have HWD := Lib.hid (words_any bd w1 (by omega) (HM.out.carry hBW))
      obtain ⟨ws, hws⟩ : ∃ b, b = splitC 32 bd := ⟨_, rfl⟩
      have hwl : 0 < ws.length := by rw [hws, splitC_length]; omega
      have hwm : ws.length ≤ 1000000 := by rw [hws, splitC_length]; have : bd.count 32 ≤ bd.length := List.count_le_length; omega
      have HWP := Lib.hid (show ∀ p ∈ ws, p.length ≤ 1000000 from fun p hp => by rw [hws] at hp; have := splitC_len 32 bd p hp; omega)
      rw [← hws] at HWD HLP
      clear hws hX
      have hWD := HWD.out
      unfold strV at hWD
      gi_wp2_with fail
      refine (((callsIn_wide (n := 2)).2 hWD).inRound l).mono ?_
      rintro e w2 ⟨rfl, hbw, hb2⟩
      obtain ⟨p, wt, rfl⟩ : ∃ p wt, ws = p :: wt := by
        cases ws with
        | nil => simp at hwl
        | cons p wt => exact ⟨p, wt, rfl⟩
      have c0 : w2.cell? ⟨w1.heap.size, 0, none⟩ = some (.string ⟨p.toArray⟩) := hbw.cell (j := 0) rfl
      have HBW := Lib.hid hbw
      have hm1 := Tryz.underlying162
      have hm2 := Tryz.underlying9
      have HM1 := Lib.hid hm1
      have HM2 := Lib.hid hm2
      clear hWD hbw hm1 hm2
      obtain ⟨xf, kb, hxk, hone, hcase⟩ : ∃ (xf : Value) (kb : Bool), (if (⟨p.toArray⟩ : ByteArray) = branchB then Value.tuple #[.agg #[.func (.func 142) #[] #[]], .bool true] else .tuple #[.agg #[.nilFunc], .bool false]) = .tuple #[.agg #[xf], .bool kb] ∧ xf.oneCell' = true ∧
          ((kb = true ∧ (⟨p.toArray⟩ : ByteArray) = branchB ∧ xf = .func (.func 142) #[] #[]) ∨ (kb = false ∧ ¬ (⟨p.toArray⟩ : ByteArray) = branchB)) := by
        by_cases hk : (⟨p.toArray⟩ : ByteArray) = branchB
        · exact ⟨_, true, by rw [if_pos hk], rfl, .inl ⟨rfl, hk, rfl⟩⟩
        · exact ⟨_, false, by rw [if_neg hk], rfl, .inr ⟨rfl, hk⟩⟩
      have HXK := Lib.hid hxk
      have HCS := Lib.hid hcase
      have hst := fun a m W => run_store Tryz.prog W a xf m hone
      clear hxk hcase
      gi_upto_region 9 with fail
      gi_cut [11, 12] from 29 (fun u11 u12 wn => ∃ b : Nat, u11 = .pointer (some ⟨b, 0, none⟩) ∧ u12 = .bool kb ∧ Blk wn b 160 [xf] ∧ Below w2.heap.size w2 wn)
      case first =>
        have c0a := fun o => cellb (w := w2.drew) c0 (below_new w2.drew o)
        have hq1 : w1.heap.size < w2.heap.size := Blk.lt HBW.out
        have hq2 : w1.heap.size ≠ w2.heap.size := by omega
        gi_region_with (gi_at_call 87; refine (((callsIn_wide (n := 2)).2 (forms_any _)).inRound l).mono ?_; rintro e w3 ⟨⟨fm, rfl, r, rfl, hr⟩, hb3⟩; first
          | (have c0 := cellb c0 (below_drew hb3); have c0b := fun o => cellb c0 (below_new w3 o); have hb9 := below_drew hb3; have hq3 : w1.heap.size < w3.heap.size := Nat.lt_of_lt_of_le hq1 hb9.size; have hq4 : w1.heap.size ≠ w3.heap.size := Nat.ne_of_lt hq3; have hlk := lookup_one (P := Tryz.prog) (w := w3) HM1.out HM2.out hr (zeroForm w3) ⟨p.toArray⟩; have hlk2 := lookup_one (P := Tryz.prog) (w := w3.alloc (.cells #[.nilFunc] 160)) HM1.out HM2.out ((Below.heap_alloc w3 _ r (Array.getElem?_eq_some_iff.1 hr).1).trans hr) (zeroForm _) ⟨p.toArray⟩; rw [HXK.out] at hlk hlk2)
          | (have ht := (Blk.new w2.drew 160 [.nilFunc]).carry hb3; have ct : w3.cell? ⟨w2.heap.size, 0, none⟩ = some .nilFunc := ht.cell (j := 0) (v := .nilFunc) rfl; have ft : w3.frozen? ⟨w2.heap.size, 0, none⟩ = false := ht.frozen 0; have hb9 := bthen (below_drew (below_new w2.drew (.cells #[.nilFunc] 160))) hb3; have c0 := cellb c0 hb9; have hlk := lookup_one (P := Tryz.prog) (w := w3) HM1.out HM2.out hr (zeroForm w3) ⟨p.toArray⟩; rw [HXK.out] at hlk))
        all_goals (gi_wp2_with fail; gi_meet; first
          | exact ⟨_, rfl, rfl, Blk.new w3 160 [xf], bthen hb9 (below_new w3 _)⟩
          | exact ⟨_, rfl, rfl, (Blk.new w3 160 [.nilFunc]).set 0 xf, (bthen hb9 (below_new w3 _)).setCell hb9.size _⟩
          | exact ⟨_, rfl, rfl, Blk.set ht 0 xf, hb9.setCell (Nat.le_refl _) _⟩)
      case rest =>
        obtain ⟨b, rfl, rfl, hbx, hb9⟩ := hcut
        clear hst c0
        have hbc := bthen hb2 hb9
        have hw12 : w1.heap.size < w2.heap.size := Blk.lt HBW.out
        have hwc := hb9.size
        have c2 := (b2.carry hbc).cell (j := 0) (v := .slice none 0 0) rfl
        have c3 := (b3.carry hbc).cell (j := 0) (v := .int .i64 0) rfl
        have c4 := (b4.carry hbc).cell (j := 0) (v := .int .i64 0) rfl
        have c6 := (b6.carry hbc).cell (j := 0) (v := .int .i64 (pre.length : Int)) rfl
        have f2 := (b2.carry hbc).frozen 0
        have f3 := (b3.carry hbc).frozen 0
        have f4 := (b4.carry hbc).frozen 0
        have HEX := Lib.hid (fun (hbad : lineP xl = none) (Wz : World) (hk : Keep (fun k => k = w.heap.size + 3 ∨ w.heap.size + 6 ≤ k) w1 Wz) => fun (a : Act) => exit_post (a := a) (x := (Value.string ⟨xl.toArray⟩, xl)) (Kp := fun A B => B.heap[w.heap.size + 5]? = A.heap[w.heap.size + 5]?) sV hk hgood hbad b2 b3 b4 hBW)
        cases whole with
        | false =>
          have hbad : lineP xl = none := HLP.out
          have HE := Lib.hid (HEX.out hbad wc (Keep.of_below hbc))
          clear hbad
          gi_wp2_with fail
          gi_region
          all_goals gi_wp2
          all_goals exact HE.out _
        | true =>
          have hlp : lineP xl = brW (p :: wt) := HLP.out
          rw [brW_cons] at hlp
          cases kb with
          | false =>
            have hbad : lineP xl = none := by
              rw [hlp, if_neg]
              rintro ⟨_, hp, _⟩
              rcases HCS.out with ⟨h, _⟩ | ⟨_, h⟩
              · cases h
              · exact h ((branch_iff p).2 hp)
            have HE := Lib.hid (HEX.out hbad wc (Keep.of_below hbc))
            clear hbad hlp
            gi_wp2_with fail
            gi_region
            all_goals gi_wp2
            all_goals exact HE.out _
          | true =>
            have hxf : xf = .func (.func 142) #[] #[] := by
              rcases HCS.out with ⟨_, _, h⟩ | ⟨h, _⟩
              · exact h
              · cases h
            have hpb : p = [98, 114, 97, 110, 99, 104] := by
              rcases HCS.out with ⟨_, h, _⟩ | ⟨h, _⟩
              · exact (branch_iff p).1 h
              · cases h
            subst hxf
            have HLP2 := Lib.hid hlp
            have HPB := Lib.hid hpb
            have cx := hbx.cell (j := 0) (v := .func (.func 142) #[] #[]) rfl
            clear hlp hpb
            by_cases hw0 : wt = []
            · subst hw0
              gi_upto_region 13 with fail
              obtain ⟨W5, hW5⟩ : ∃ v, v = wc.alloc (Obj.cells #[Value.slice (some ⟨w1.heap.size, 0, none⟩) 0 0, Value.bool false] 166) := ⟨_, rfl⟩
              have hb5 : Below wc.heap.size wc W5 := by rw [hW5]; exact below_new _ _
              have iT : Blk W5 wc.heap.size 166 [Value.slice (some ⟨w1.heap.size, 0, none⟩) 0 0, .bool false] := by rw [hW5]; exact Blk.new _ _ _
              rw [← hW5]
              clear hW5 c2 c3 c4 c6 f2 f3 f4
              have cx := cellb cx hb5
              have hvv : Vals W5 (Value.slice (some ⟨w1.heap.size, 0, none⟩) 0 0) (([] : List (List UInt8)).map strV) := ⟨some ⟨w1.heap.size, 0, none⟩, 0, rfl, Nat.le_refl _, fun h => absurd h (by simp)⟩
              have TK := take_any (w.heap.size + 6) (w.heap.size + 3) wc.heap.size (Value.slice (some ⟨w1.heap.size, 0, none⟩) 0 0) fv (brsOf (pre.map Prod.snd)) [] W5 ((b5.carry hbc).carry hb5) (by omega) (by omega) (own_below (own_below hown hbc) hb5) hpl iT hvv (by simp) (fun q hq => HWP.out q (List.mem_cons_of_mem _ hq)) (fun b' o' c' e => by simp only [Value.slice.injEq, Option.some.injEq, Addr.mk.injEq] at e; rw [← e.1.1]; omega)
              clear iT hvv
              gi_wp2_with fail
              refine (((callsIn_wide (n := 2)).2 TK).inRound l).mono ?_
              rintro e W6 ⟨rfl, ⟨lv, cv, fv2, u, hlc, iF, ho6, iB, ua, uc, rfl⟩, hk6⟩
              have hkA : Keep (fun k => k = w.heap.size + 3 ∨ w.heap.size + 6 ≤ k) w1 W6 := (Keep.of_below (bthen hbc hb5)).trans hk6
              have g2 := hkA.blk b2 (by omega)
              have g3 := hkA.blk b3 (by omega)
              have g4 := hkA.blk b4 (by omega)
              have g6 := hkA.blk b6 (by omega)
              have c2 := g2.cell (j := 0) (v := .slice none 0 0) rfl
              have c3 := g3.cell (j := 0) (v := .int .i64 0) rfl
              have c4 := g4.cell (j := 0) (v := .int .i64 0) rfl
              have c6 := g6.cell (j := 0) (v := .int .i64 (pre.length : Int)) rfl
              have f2 := g2.frozen 0
              have f3 := g3.frozen 0
              have f4 := g4.frozen 0
              have f6 := g6.frozen 0
              have t0 := iB.cell (j := 0) (v := .slice ua (0 - 2) uc) rfl
              have t1 := iB.cell (j := 1) (v := .bool (!twoW [])) rfl
              clear TK cx hk6 g2 g3 g4 g6
              cases htw : twoW ([] : List (List UInt8)) with
              | false =>
                have hbad : lineP xl = none := by rw [HLP2.out, htw, if_neg (fun e => by cases e.2.2)]
                have HE := Lib.hid (HEX.out hbad W6 hkA)
                rw [htw] at t1
                clear hbad htw hlc ho6
                gi_wp2_with fail
                gi_region
                all_goals gi_wp2
                all_goals exact HE.out _
              | true =>
                exact absurd htw (by simp [twoW, okW])
            · skip
              have hw1 : wt.length ≠ 0 := fun e => hw0 (List.length_eq_zero_iff.1 e)
              have hw2 : ¬ wt.length + 1 ≤ 1 := by omega
              have hvw : Vals w2 (.slice (some ⟨w1.heap.size, 0, none⟩) (wt.length + 1) (wt.length + 1)) (strV p :: wt.map strV) := by have h := Vals.of_blk HBW.out; simpa using h
              gi_upto_region 13 with fail
              obtain ⟨W5, hW5⟩ : ∃ v, v = wc.alloc (Obj.cells #[Value.slice (some ⟨w1.heap.size, 1, none⟩) wt.length wt.length, Value.bool false] 166) := ⟨_, rfl⟩
              have hb5 : Below wc.heap.size wc W5 := by rw [hW5]; exact below_new _ _
              have iT : Blk W5 wc.heap.size 166 [Value.slice (some ⟨w1.heap.size, 1, none⟩) wt.length wt.length, .bool false] := by rw [hW5]; exact Blk.new _ _ _
              rw [← hW5]
              clear hW5 c2 c3 c4 c6 f2 f3 f4
              have cx := cellb cx hb5
              have hvv : Vals W5 (Value.slice (some ⟨w1.heap.size, 1, none⟩) wt.length wt.length) (wt.map strV) := ((Vals.tail (n := wt.length) (hvw) (List.length_map ..)).carry hb9).carry hb5
              have TK := take_any (w.heap.size + 6) (w.heap.size + 3) wc.heap.size (Value.slice (some ⟨w1.heap.size, 1, none⟩) wt.length wt.length) fv (brsOf (pre.map Prod.snd)) wt W5 ((b5.carry hbc).carry hb5) (by omega) (by omega) (own_below (own_below hown hbc) hb5) hpl iT hvv (by rw [List.length_cons] at hwm; omega) (fun q hq => HWP.out q (List.mem_cons_of_mem _ hq)) (fun b' o' c' e => by simp only [Value.slice.injEq, Option.some.injEq, Addr.mk.injEq] at e; rw [← e.1.1]; omega)
              clear iT hvv
              gi_wp2_with fail
              refine (((callsIn_wide (n := 2)).2 TK).inRound l).mono ?_
              rintro e W6 ⟨rfl, ⟨lv, cv, fv2, u, hlc, iF, ho6, iB, ua, uc, rfl⟩, hk6⟩
              have hkA : Keep (fun k => k = w.heap.size + 3 ∨ w.heap.size + 6 ≤ k) w1 W6 := (Keep.of_below (bthen hbc hb5)).trans hk6
              have g2 := hkA.blk b2 (by omega)
              have g3 := hkA.blk b3 (by omega)
              have g4 := hkA.blk b4 (by omega)
              have g6 := hkA.blk b6 (by omega)
              have c2 := g2.cell (j := 0) (v := .slice none 0 0) rfl
              have c3 := g3.cell (j := 0) (v := .int .i64 0) rfl
              have c4 := g4.cell (j := 0) (v := .int .i64 0) rfl
              have c6 := g6.cell (j := 0) (v := .int .i64 (pre.length : Int)) rfl
              have f2 := g2.frozen 0
              have f3 := g3.frozen 0
              have f4 := g4.frozen 0
              have f6 := g6.frozen 0
              have t0 := iB.cell (j := 0) (v := .slice ua (wt.length - 2) uc) rfl
              have t1 := iB.cell (j := 1) (v := .bool (!twoW wt)) rfl
              clear TK cx hk6 g2 g3 g4 g6
              cases htw : twoW wt with
              | false =>
                have hbad : lineP xl = none := by rw [HLP2.out, htw, if_neg (fun e => by cases e.2.2)]
                have HE := Lib.hid (HEX.out hbad W6 hkA)
                rw [htw] at t1
                clear hbad htw hlc ho6
                gi_wp2_with fail
                gi_region
                all_goals gi_wp2
                all_goals exact HE.out _
              | true =>
                rw [htw] at t1
                by_cases hl2 : wt.length = 2
                · have hgd : lineP xl = some (lv, cv) := by rw [HLP2.out, if_pos ⟨hl2, HPB.out, htw⟩, (hlc htw).1, (hlc htw).2]
                  have HNX := Lib.hid (fun (a : Act) => next_post (a := a) (x := (Value.string ⟨xl.toArray⟩, xl)) sV hkA hgood hgd b2 b3 b4 b6 ⟨_, Array.getElem?_eq_getElem (by omega : w.heap.size + 5 < w1.heap.size)⟩ iF ho6 hBW (by omega))
                  rw [hl2] at t0
                  have v0 : IntKind.i64.wrap ((pre.length : Int) + 1) = (pre.length : Int) + 1 := IntWalk.i64_in _ (by have := HPL.out; omega)
                  clear hgd htw hlc ho6
                  gi_wp2_with fail
                  exact HNX.out _
                · have hbad : lineP xl = none := by rw [HLP2.out, if_neg (fun e => hl2 e.1)]
                  have hl3 : 2 < wt.length := by
                    match wt, htw, hl2 with
                    | [], h, _ => simp [twoW, okW] at h
                    | [a], h, _ => simp [twoW, okW] at h
                    | [a, b], _, h => simp at h
                    | a :: b :: c :: r, _, _ => simp
                  have d2 : (0 : Int) < ((wt.length - 2 : Nat) : Int) := by omega
                  have HE := Lib.hid (HEX.out hbad W6 hkA)
                  obtain ⟨k2, hk2⟩ : ∃ k, k = wt.length - 2 := ⟨_, rfl⟩
                  rw [← hk2] at t0 d2
                  clear hbad htw hlc ho6 hk2
                  gi_wp2_with fail
                  gi_region
                  all_goals gi_wp2
                  all_goals exact HE.out _
    case done =>
      rintro D xs W hD hS ⟨hgood, b2, b3, b4, b6, ⟨fv, b5, hown⟩, hBW, _⟩ hK
      have hsW := hBW.size
      have hba : badAt (linesL L) = none := badAt_none (fun x hx => by
        rw [← hS] at hx
        obtain ⟨z, hz, rfl⟩ := List.mem_map.1 hx
        exact hgood z hz)
      have hxl : xs.length = (linesL L).length := by rw [← hS, List.length_map]
      rw [hS] at hown
      rw [hxl] at b6
      have HR := Lib.hid hba
      have HLL := Lib.hid (show ¬ 4096 < L.length by rw [HL.out]; exact hlt)
      have hbl : (brsOf (linesL L)).length ≤ 1000000 := Nat.le_trans (List.length_filterMap_le ..) (by have := linesL_len L; have := HL.out; omega)
      clear hba hgood hS hxl
      obtain ⟨bl, hblq⟩ : ∃ b, b = brsOf (linesL L) := ⟨_, rfl⟩
      rw [← hblq] at hown hbl
      have HBQ := Lib.hid hblq
      obtain ⟨nl, hnl⟩ : ∃ b, b = (linesL L).length := ⟨_, rfl⟩
      rw [← hnl] at b6
      have HNL := Lib.hid hnl
      clear hblq hnl
      have hp : Pairs W fv bl := pairs_own hown
      obtain ⟨fa, fc, rfl, _, _⟩ := id hp
      have c0 := b5.cell (j := 0) (v := .slice fa bl.length fc) rfl
      have HC := Lib.hid (CheckFilter_any _ bl W hp hbl)
      have HO := Lib.hid hown
      clear hp hown
      obtain ⟨fe, hfe⟩ : ∃ e, e = fltE bl := ⟨_, rfl⟩
      rw [← hfe] at HC
      have HFE := Lib.hid hfe
      clear hfe
      go_wp2_with fail
      refine HC.out.mono ?_
      rintro e W1 ⟨rfl, hb1⟩
      have hK1 := (hb1.block D (Array.getElem?_eq_some_iff.1 hK).1).trans hK
      have b2 := b2.carry hb1
      have b3 := b3.carry hb1
      have b4 := b4.carry hb1
      have b5 := b5.carry hb1
      have b6 := b6.carry hb1
      have HO1 := Lib.hid (own_below HO.out hb1)
      have hB1 := bthen hBW hb1
      clear c0 hb1 hK HO HC hBW
      have c2 := b2.cell (j := 0) (v := .slice none 0 0) rfl
      have c3 := b3.cell (j := 0) (v := .int .i64 0) rfl
      have c4 := b4.cell (j := 0) (v := .int .i64 0) rfl
      have c5 := b5.cell (j := 0) (v := .slice fa bl.length fc) rfl
      have c6 := b6.cell (j := 0) (v := .int .i64 (nl : Int)) rfl
      have f2 := b2.frozen 0
      have f3 := b3.frozen 0
      have f4 := b4.frozen 0
      by_cases hz : fe = 0
      · subst hz
        go_wp2_with fail
        obtain ⟨a2, a3, a4, hK2, hB2⟩ := setThree (.slice fa bl.length fc) (.int .i64 0) (.int .i64 0) b2 b3 b4 (by omega : w.heap.size + 2 < D) hK1 hB1
        have ho2 : (three W1 w.heap.size (.slice fa bl.length fc) (.int .i64 0) (.int .i64 0)).ownsRow (w.heap.size + 6) 148 2 (.slice fa bl.length fc) bl.length ((flat2 bl).map (Value.int .i64)) :=
          ownsRow_setO (ownsRow_setO (ownsRow_setO HO1.out (by omega)) (by omega)) (by omega)
        obtain ⟨W2, hW2⟩ : ∃ v, v = three W1 w.heap.size (.slice fa bl.length fc) (.int .i64 0) (.int .i64 0) := ⟨_, rfl⟩
        have hW2' := hW2
        unfold three at hW2'
        rw [← hW2']
        rw [← hW2] at a2 a3 a4 hK2 hB2 ho2
        clear hW2 hW2'
        have e2 := three_blk a2 (D := D) (by omega)
        have e3 := three_blk a3 (D := D) (by omega)
        have e4 := three_blk a4 (D := D) (by omega)
        have hpz : Pairs (W2.putObj D (.deferred none)) (.slice fa bl.length fc) bl := pairs_own (own_own ho2 (grownBy_putObj' W2 D (.deferred none)) (fun r g e hv e2 => by
          cases e
          subst e2
          have := ownsRow_cells ho2 hv hK2
          cases this))
        clear c2 c3 c4 c5 c6 f2 f3 f4
        go_wp2
        refine postR_mark (v := .tuple #[.agg #[.slice fa bl.length fc], .int .i64 0, .int .i64 0]) hK2 rfl ?_ ⟨?_, hB2.trans (belowK_b (w := w) (Nat.le_refl _) _ D _ _ (by omega) hK2 rfl rfl)⟩
        · simp [results, Tryz.f31, go_sem, e2, e3, e4]
        · unfold ParsePost
          rw [if_neg HLL.out, HR.out]
          simp only
          rw [← HBQ.out, ← HFE.out, if_pos rfl]
          exact ⟨_, rfl, hpz⟩
      · have hzb : (fe != 0) = true := by rw [bne_iff_ne]; exact hz
        go_wp2_with fail
        go_region
        obtain ⟨a2, a3, a4, hK2, hB2⟩ := setThree (.slice none 0 0) (.int .i64 (nl : Int)) (.int .i64 fe) b2 b3 b4 (by omega : w.heap.size + 2 < D) hK1 hB1
        obtain ⟨W2, hW2⟩ : ∃ v, v = three W1 w.heap.size (.slice none 0 0) (.int .i64 (nl : Int)) (.int .i64 fe) := ⟨_, rfl⟩
        have hW2' := hW2
        unfold three at hW2'
        rw [← hW2']
        rw [← hW2] at a2 a3 a4 hK2 hB2
        clear hW2 hW2'
        obtain ⟨W3, hW3⟩ : ∃ v, v = W2.drew := ⟨_, rfl⟩
        replace a2 : Blk W3 w.heap.size 73 [.slice none 0 0] := by rw [hW3]; exact a2
        replace a3 : Blk W3 (w.heap.size + 1) 3 [.int .i64 (nl : Int)] := by rw [hW3]; exact a3
        replace a4 : Blk W3 (w.heap.size + 2) 31 [.int .i64 fe] := by rw [hW3]; exact a4
        replace hK2 : W3.heap[D]? = some (.deferred (some [])) := by rw [hW3]; exact hK2
        replace hB2 : Below w.heap.size w W3 := by rw [hW3]; exact hB2.drew
        rw [← hW3]
        clear hW3
        have e2 := three_blk a2 (D := D) (by omega)
        have e3 := three_blk a3 (D := D) (by omega)
        have e4 := three_blk a4 (D := D) (by omega)
        clear c2 c3 c4 c5 c6 f2 f3 f4
        go_wp2
        refine postR_mark (v := .tuple #[.agg #[.slice none 0 0], .int .i64 (nl : Int), .int .i64 fe]) hK2 rfl ?_ ⟨?_, hB2.trans (belowK_b (w := w) (Nat.le_refl _) _ D _ _ (by omega) hK2 rfl rfl)⟩
        · simp [results, Tryz.f31, go_sem, e2, e3, e4]
        · unfold ParsePost
          rw [if_neg HLL.out, HR.out]
          simp only
          rw [← HBQ.out, ← HFE.out, ← HNL.out, if_neg hz]
    case stop =>
      rintro D c pre W hD ⟨post, hpost⟩ ⟨⟨rfl, pre', x, rfl, hgood, hbad⟩, b2, b3, b4, hBW⟩ hK
      have hsW := hBW.size
      have hpl : (pre' ++ [x]).length - 1 = pre'.length := by simp
      rw [hpl] at b3
      have hba : badAt (linesL L) = some pre'.length := badAt_some (l := x.2) (by
          rw [← hpost, List.map_append, List.append_assoc, List.getElem?_append_right (by rw [List.length_map]; omega)]
          simp) hbad (fun j y hj hy => by
          rw [← hpost, List.map_append, List.append_assoc, List.getElem?_append_left (by rw [List.length_map]; exact hj), List.getElem?_map] at hy
          obtain ⟨z, hz, rfl⟩ := Option.map_eq_some_iff.1 hy
          exact hgood z (List.mem_of_getElem? hz))
      have HR := Lib.hid hba
      have HLL := Lib.hid (show ¬ 4096 < L.length by rw [HL.out]; exact hlt)
      clear hba hbad hpost hgood hpl
      have e2 := (blk_own b2 (grownBy_putObj' W D (.deferred none)) (fun r e => by cases e; omega)).cell (j := 0) (v := .slice none 0 0) rfl
      have e3 := (blk_own b3 (grownBy_putObj' W D (.deferred none)) (fun r e => by cases e; omega)).cell (j := 0) (v := .int .i64 (pre'.length : Int)) rfl
      have e4 := (blk_own b4 (grownBy_putObj' W D (.deferred none)) (fun r e => by cases e; omega)).cell (j := 0) (v := .int .i64 25) rfl
      go_wp2
      refine postR_mark (v := .tuple #[.agg #[.slice none 0 0], .int .i64 (pre'.length : Int), .int .i64 25]) hK rfl ?_ ⟨?_, hBW.trans (belowK_b (w := w) (Nat.le_refl _) _ D _ _ (by omega) hK rfl rfl)⟩
      · simp [results, Tryz.f31, go_sem, e2, e3, e4]
      · unfold ParsePost
        rw [if_neg HLL.out, HR.out]
end Go.Proofs.YtoihfmndhfnmmaaGreatDoor

/- The package phasor: checks, and bytes of numbers. -/
import Derived.Test.YtjmdnolmaofbiaaDoorBlk
import Derived.Test.YtjmdnolmaofbiaaDoorOrdE
import Derived.Test.YtjmdnolmaofbiaaDoorLoopD
import Derived.Test.YtjmdnolmaofbiaaDoorThmP
import Derived.Laws.OwnMore
import Derived.Deep.DeepCutAuto
namespace Go.Proofs.YtjmdnolmaofbiaaDoor
set_option linter.unusedSimpArgs false
set_option linter.unusedVariables false
open Go.RowKit

set_option maxHeartbeats 400000 in
theorem whenP_any (c : Bool) (e : Int) (w : World) :
    Calls Tryd.prog 19 #[.bool c, .int .i64 e] w fun r w' => r = .returned (.int .i64 (whenE c e)) ∧ w = w' := by
  cases c
  · go_enter Tryd.func19, Tryd.ntmps19
    go_wp2
    go_ret
    exact ⟨rfl, rfl⟩
  · go_enter Tryd.func19, Tryd.ntmps19
    go_wp2
    go_ret
    exact ⟨rfl, rfl⟩

set_option maxHeartbeats 400000 in
theorem withinP_any (n lo hi : Int) (w : World) :
    Calls Tryd.prog 23 #[.int .i64 n, .int .i64 lo, .int .i64 hi] w fun r w' => r = .returned (.int .i64 (withinE n lo hi)) ∧ w = w' := by
  by_cases h1 : n < lo
  · go_enter Tryd.func23, Tryd.ntmps23
    go_wp2_with fail
    refine (whenP_any _ _ _).mono ?_
    rintro e w' ⟨rfl, rfl⟩
    go_wp2_with fail
    go_ret
    exact ⟨by simp [whenE, withinE, h1], rfl⟩
  · by_cases h2 : hi < n
    all_goals
      go_enter Tryd.func23, Tryd.ntmps23
      go_wp2_with fail
      refine (whenP_any _ _ _).mono ?_
      rintro e w' ⟨rfl, rfl⟩
      go_wp2_with fail
      go_ret
      exact ⟨by simp [whenE, withinE, h1, h2], rfl⟩

set_option maxHeartbeats 400000 in
theorem firstP_any (v : Value) (l : List Int) (w : World) (hl : l.length ≤ maxLen) (hv : Ints w v l) :
    Calls Tryd.prog 18 #[v] w fun r w' => r = .returned (.int .i64 (firstE l)) ∧ w = w' := by
  unfold maxLen at hl
  obtain ⟨a, cap, rfl, hc, hv⟩ := hv
  rcases Nat.eq_zero_or_pos l.length with h0 | h0
  · obtain rfl : l = [] := List.length_eq_zero_iff.1 h0
    go_enter Tryd.func18, Tryd.ntmps18
    go_wp2
    go_loop [7] (fun i => i = .int .i64 0) (fun _ => 0)
    case atStart => rfl
    case round =>
      obtain rfl := hrel
      go_wp2
      go_ret
      exact ⟨rfl, rfl⟩
  · obtain ⟨b, off, rfl, hcs⟩ := hv h0
    clear hv
    go_enter Tryd.func18, Tryd.ntmps18
    go_wp2
    go_loop [7] (fun i => ∃ k : Nat, k ≤ l.length ∧ i = .int .i64 k ∧ firstE (l.take k) = 0) (fun i => l.length - (intOf i).toNat)
    case atStart => exact ⟨0, by omega, rfl, rfl⟩
    case round =>
      obtain ⟨k, hk, rfl, hf⟩ := hrel
      by_cases hlt : k < l.length
      · have hcell := hcs k hlt
        have hs := firstE_take_succ l k hlt hf
        clear hcs
        generalize l[k]?.getD 0 = x at hcell hs
        have HS := Lib.hid hs
        clear hs hf
        by_cases hz : x = 0
        · go_wp2
          go_round
          case rel => exact ⟨k + 1, by omega, by go_num, by rw [HS.out]; exact hz⟩
          case measure => simp [intOf]; omega
        · go_wp2
          go_ret
          exact ⟨ret_int (by rw [firstE_of_take l (k+1) (by rw [HS.out]; exact hz), HS.out]), rfl⟩
      · have HF := Lib.hid hf
        clear hf
        go_wp2
        go_ret
        have h := HF.out
        rw [List.take_of_length_le (by omega)] at h
        exact ⟨ret_int h.symm, rfl⟩

theorem first2P (a b : Int) (T : TypeId) (w : World) :
    Calls Tryd.prog 18 #[.slice (some ⟨w.heap.size, 0, none⟩) 2 2] (w.alloc (.cells #[.int .i64 a, .int .i64 b] T)) fun r w' => r = .returned (.int .i64 (firstE [a, b])) ∧ w.alloc (.cells #[.int .i64 a, .int .i64 b] T) = w' :=
  firstP_any _ [a, b] _ (by simp [maxLen]) (Ints.lit w T [a, b] 2 rfl)

theorem first3P (a b c : Int) (T : TypeId) (w : World) :
    Calls Tryd.prog 18 #[.slice (some ⟨w.heap.size, 0, none⟩) 3 3] (w.alloc (.cells #[.int .i64 a, .int .i64 b, .int .i64 c] T)) fun r w' => r = .returned (.int .i64 (firstE [a, b, c])) ∧ w.alloc (.cells #[.int .i64 a, .int .i64 b, .int .i64 c] T) = w' :=
  firstP_any _ [a, b, c] _ (by simp [maxLen]) (Ints.lit w T [a, b, c] 3 rfl)

theorem first4P (a b c d : Int) (T : TypeId) (w : World) :
    Calls Tryd.prog 18 #[.slice (some ⟨w.heap.size, 0, none⟩) 4 4] (w.alloc (.cells #[.int .i64 a, .int .i64 b, .int .i64 c, .int .i64 d] T)) fun r w' => r = .returned (.int .i64 (firstE [a, b, c, d])) ∧ w.alloc (.cells #[.int .i64 a, .int .i64 b, .int .i64 c, .int .i64 d] T) = w' :=
  firstP_any _ [a, b, c, d] _ (by simp [maxLen]) (Ints.lit w T [a, b, c, d] 4 rfl)

set_option maxHeartbeats 400000 in
theorem mappedEP_any (K : Nat) (cap : Array Value) (henter : ∀ args w, Sem.run Tryd.prog (callFunc K args) w = .ok (.enter K args) w) (g : Int → Int) (v : Value) (l : List Int) (w : World) (hl : l.length * 8 ≤ 140737488351232) (hv : Ints w v l)
    (hf : ∀ x ∈ l, ∀ w1, Below w.heap.size w w1 → Calls Tryd.prog K (#[.int .i64 x] ++ cap) w1 fun r w2 => r = .returned (.int .i64 (g x)) ∧ w1 = w2) :
    Calls Tryd.prog 31 #[v, .func (.func K) #[] cap] w fun r w' => (∃ u, r = .returned u ∧ Ints w' u (l.map g)) ∧ Below w.heap.size w w' := by
  obtain ⟨a, cp, rfl, hc, hv⟩ := hv
  rcases Nat.eq_zero_or_pos l.length with h0 | h0
  · obtain rfl : l = [] := List.length_eq_zero_iff.1 h0
    go_enter Tryd.func31, Tryd.ntmps31
    go_wp2
    go_loop [5, 10] (fun v i => v = .slice none 0 0 ∧ i = .int .i64 0) (fun _ _ => 0)
    case atStart => exact ⟨rfl, rfl⟩
    case round =>
      obtain ⟨rfl, rfl⟩ := hrel
      go_wp2
      go_ret
      exact ⟨⟨_, rfl, Ints.nil _⟩, Below.refl _ _⟩
  · obtain ⟨b, off, rfl, hcs⟩ := hv h0
    clear hv
    obtain ⟨i0, hi, hz0, hz1, hz2⟩ := info_parts Tryd.infoErrno
    go_enter Tryd.func31, Tryd.ntmps31
    go_wp2
    go_loopw [5, 10] (fun v i wr => ∃ k : Nat, k ≤ l.length ∧ i = .int .i64 k ∧ wr.ownsRow w.heap.size 44 1 v k ((l.take k).map fun x => Value.int .i64 (g x)) ∧ Below w.heap.size w wr) (fun _ i _ => l.length - (intOf i).toNat)
    case atStart => exact ⟨0, by omega, rfl, World.ownsRow_nil _ _ _ _, Below.refl _ _⟩
    case round =>
      obtain ⟨k, hk, rfl, hown, hbel⟩ := hrel
      by_cases hlt : k < l.length
      · have hcell := hcs k hlt
        have hcell2 : wr.cell? ⟨b, off + k, none⟩ = some (.int .i64 (l[k]?.getD 0)) := (hbel.cell (p := ⟨b, off + k, none⟩) (lt_of_cellSome hcell)).trans hcell
        clear hcs hcell
        generalize hx : l[k]?.getD 0 = x at hcell2
        have HX := Lib.hid hx
        clear hx
        go_wp2_with fail
        refine (hf x (by rw [← HX.out]; simp [hlt]) wr hbel).mono ?_
        rintro e w2 ⟨rfl, rfl⟩
        go_wp2_with (at_builtin; refine wpList_append_own _ rfl _ _ 81 rfl w.heap.size 44 i0 (.int .i64 0) 1 8 Tryd.underlying81 hi hz0 hz1 hz2 rfl (by decide) _ _ _ rfl (hown.alloc _) ⟨wr.heap.size, 0, none⟩ 1 1 [.int .i64 (g x)] rfl rfl (cell_one_new _ _ _) (by simp [Value.oneCell']) (by unfold maxLen; omega) (by omega) (by have := hbel.size; simp; omega) ?_; intro v' w1 hown' hgrow _)
        have hbel' := below_own hbel hown hgrow
        have hown2 : w1.ownsRow w.heap.size 44 1 v' (k + 1) ((l.take (k + 1)).map fun x => Value.int .i64 (g x)) := by
          rw [take_succ_map _ _ _ x (getElem?_of_getD hlt HX.out)]; exact hown'
        clear hown hbel hown' hgrow
        go_wp2
        go_roundw
        case rel => exact ⟨k + 1, by omega, by go_num, hown2, hbel'⟩
        case measure => simp [intOf]; omega
      · obtain rfl : k = l.length := by omega
        have hout : Ints wr u5 (l.map g) := Ints.of_own (n := l.length) (by rw [List.take_length] at hown; rw [List.map_map]; exact hown) (by simp)
        clear hown
        go_wp2
        go_ret
        exact ⟨⟨_, rfl, hout⟩, hbel⟩



/-- a slice of bytes. -/
def Byt (w : World) (v : Value) (s : List Int) : Prop :=
  ∃ a cap, v = .slice a s.length cap ∧ s.length ≤ cap ∧ (0 < s.length → ∃ b off, a = some ⟨b, off, none⟩ ∧ ∀ j, j < s.length → w.cell? ⟨b, off + j, none⟩ = some (.int .u8 (s[j]?.getD 0)))
theorem Byt.carry {w w' : World} {v : Value} {s : List Int} (h : Byt w v s) (hb : Below w.heap.size w w') : Byt w' v s := by
  obtain ⟨a, cap, hv, hc, h⟩ := h
  refine ⟨a, cap, hv, hc, fun hl => ?_⟩
  obtain ⟨b, off, ha, h⟩ := h hl
  exact ⟨b, off, ha, fun j hj => cellb (h j hj) hb⟩
theorem Byt.of_own {w : World} {base e : Nat} {v : Value} {s : List Int} (h : w.ownsRow base e 1 v s.length (s.map (Value.int .u8))) : Byt w v s := by
  rcases h.2 with ⟨h0, hn⟩ | ⟨g, cap, cur, hv, _, hg, hc, _, hs, ht⟩
  · have : s = [] := List.length_eq_zero_iff.1 hn
    subst this
    exact ⟨none, 0, h0, Nat.le_refl _, fun h => by simp at h⟩
  · refine ⟨some ⟨g, 0, none⟩, cap, hv, hc, fun _ => ⟨g, 0, rfl, fun j hj => ?_⟩⟩
    have h1 : (cur.toList.take (s.length * 1))[j]? = (s.map (Value.int .u8))[j]? := by rw [ht]
    rw [Nat.mul_one, List.getElem?_take_of_lt hj, List.getElem?_map, List.getElem?_eq_getElem hj] at h1
    rw [Nat.zero_add, List.getElem?_eq_getElem hj]
    have h2 : cur[j]? = some (.int .u8 s[j]) := by rw [← Array.getElem?_toList]; exact h1
    simp [World.cell?, hg, h2]
set_option maxRecDepth 100000 in
set_option maxHeartbeats 1000000 in
theorem checksum_any (v : Value) (s : List Int) (w : World) (hb : ByteL s) (hl : s.length ≤ 1000000) (hv : Byt w v s) :
    Calls Tryd.prog 16 #[v] w fun e w' => e = .returned (.int .i64 (ckN s)) ∧ w = w' := by
  obtain ⟨a, cp, rfl, _, hcs⟩ := hv
  have HCS := Lib.hid hcs
  have HB := Lib.hid hb
  clear hcs hb
  go_enter Tryd.func16, Tryd.ntmps16
  go_wp2
  go_loop [3, 8] (fun x i => ∃ k : Nat, k ≤ s.length ∧ i = .int .i64 k ∧ x = .int .i64 (ckN (s.take k))) (fun _ i => s.length - (intOf i).toNat)
  case atStart => exact ⟨0, by omega, rfl, rfl⟩
  case round =>
    obtain ⟨k, hk, rfl, rfl⟩ := hrel
    by_cases hlt : k < s.length
    · obtain ⟨b, off, rfl, hc⟩ := HCS.out (by omega)
      have c0 := hc k hlt
      have hx := HB.out (s[k]?.getD 0) (by rw [List.getElem?_eq_getElem hlt]; exact List.getElem_mem _)
      have hT : ckN (s.take (k + 1)) = (263 * ckN (s.take k) + s[k]?.getD 0) % 16777199 := by
        rw [List.take_add_one, List.getElem?_eq_getElem hlt]
        unfold ckN ckF
        rw [List.foldl_append]; rfl
      have hbd := ckN_bd (s.take k)
      generalize ckN (s.take k) = x at hT hbd
      generalize s[k]?.getD 0 = y at c0 hx hT
      have HT := Lib.hid hT
      clear hT hc
      go_wp2
      go_round
      case rel => exact ⟨k + 1, by omega, by go_num, by rw [HT.out]⟩
      case measure => simp [intOf]; omega
    · obtain rfl : k = s.length := by omega
      rw [List.take_length]
      go_wp2
      go_ret
      exact ⟨rfl, rfl⟩

theorem or_low (n y : Int) (hn : 0 ≤ n ∧ n < 16777216) (hy : 0 ≤ y ∧ y < 256) : bits .or .i64 (n * 256) y = 256 * n + y := by
  obtain ⟨N, rfl⟩ := Int.eq_ofNat_of_zero_le hn.1
  obtain ⟨Y, rfl⟩ := Int.eq_ofNat_of_zero_le hy.1
  have h1 : N * 256 ||| Y = N * 256 + Y := by
    have := Nat.shiftLeft_add_eq_or_of_lt (i := 8) (b := Y) (by omega) N
    rw [Nat.shiftLeft_eq] at this
    exact this.symm
  show IntKind.i64.wrap ((BitVec.ofInt 64 ((N : Int) * 256) ||| BitVec.ofInt 64 (Y : Int)).toNat : Nat) = _
  have e1 : BitVec.ofInt 64 ((N : Int) * 256) = BitVec.ofNat 64 (N * 256) := rfl
  have e2 : BitVec.ofInt 64 (Y : Int) = BitVec.ofNat 64 Y := rfl
  rw [e1, e2, BitVec.toNat_or, BitVec.toNat_ofNat, BitVec.toNat_ofNat, Nat.mod_eq_of_lt (by omega), Nat.mod_eq_of_lt (by omega), h1]
  have h2 : -9223372036854775808 ≤ ((N * 256 + Y : Nat) : Int) ∧ ((N * 256 + Y : Nat) : Int) ≤ 9223372036854775807 := by omega
  rw [IntWalk.i64_in _ h2]
  omega
theorem num_snoc (s : List Int) (y : Int) : numN (s ++ [y]) = 256 * numN s + y := by
  unfold numN
  rw [List.foldl_append]; rfl
theorem num_bdG : ∀ (s : List Int) (x : Int) (k : Nat), ByteL s → (0 ≤ x ∧ x < 256 ^ k) → 0 ≤ s.foldl (fun n b => 256 * n + b) x ∧ s.foldl (fun n b => 256 * n + b) x < 256 ^ (k + s.length)
  | [], x, k, _, hx => hx
  | b :: s, x, k, hb, hx => by
    have h1 := hb b (by simp)
    have h2 := num_bdG s (256 * x + b) (k + 1) (fun y hy => hb y (by simp [hy])) (by rw [Int.pow_succ]; omega)
    rw [List.foldl_cons, List.length_cons, show k + (s.length + 1) = k + 1 + s.length by omega]
    exact h2
theorem num_bd {s : List Int} (hb : ByteL s) : 0 ≤ numN s ∧ numN s < 256 ^ s.length := by
  have h := num_bdG s 0 0 hb (by decide)
  rw [Nat.zero_add] at h
  exact h
set_option maxRecDepth 100000 in
set_option maxHeartbeats 1000000 in
theorem number_any (v : Value) (s : List Int) (w : World) (hb : ByteL s) (hl : s.length ≤ 4) (hv : Byt w v s) :
    Calls Tryd.prog 34 #[v] w fun e w' => e = .returned (.int .i64 (numN s)) ∧ w = w' := by
  obtain ⟨a, cp, rfl, _, hcs⟩ := hv
  have HCS := Lib.hid hcs
  have HB := Lib.hid hb
  clear hcs hb
  go_enter Tryd.func34, Tryd.ntmps34
  go_wp2
  go_loop [3, 8] (fun x i => ∃ k : Nat, k ≤ s.length ∧ i = .int .i64 k ∧ x = .int .i64 (numN (s.take k))) (fun _ i => s.length - (intOf i).toNat)
  case atStart => exact ⟨0, by omega, rfl, rfl⟩
  case round =>
    obtain ⟨k, hk, rfl, rfl⟩ := hrel
    by_cases hlt : k < s.length
    · obtain ⟨b, off, rfl, hc⟩ := HCS.out (by omega)
      have c0 := hc k hlt
      have hx := HB.out (s[k]?.getD 0) (by rw [List.getElem?_eq_getElem hlt]; exact List.getElem_mem _)
      have hT : numN (s.take (k + 1)) = 256 * numN (s.take k) + s[k]?.getD 0 := by
        rw [List.take_add_one, List.getElem?_eq_getElem hlt]
        exact num_snoc _ _
      have hbd : 0 ≤ numN (s.take k) ∧ numN (s.take k) < 16777216 := by
        have h1 := num_bd (s := s.take k) (fun b hb => HB.out b (List.mem_of_mem_take hb))
        refine ⟨h1.1, Int.lt_of_lt_of_le h1.2 ?_⟩
        rw [List.length_take, Nat.min_eq_left hk]
        have hk3 : k = 0 ∨ k = 1 ∨ k = 2 ∨ k = 3 := by omega
        rcases hk3 with rfl | rfl | rfl | rfl <;> decide
      generalize numN (s.take k) = x at hT hbd
      generalize s[k]?.getD 0 = y at c0 hx hT
      have HT := Lib.hid hT
      have hor := or_low x y hbd hx
      clear hT hc
      go_wp2
      go_round
      case rel => exact ⟨k + 1, by omega, by go_num, by rw [HT.out]⟩
      case measure => simp [intOf]; omega
    · obtain rfl : k = s.length := by omega
      rw [List.take_length]
      go_wp2
      go_ret
      exact ⟨rfl, rfl⟩

theorem Tryd.infoU8 : (Tryd.prog.info? 5).map (fun i => (i.zero, i.size, i.bytes)) = some (some (.int .u8 0), 1, 1) := by kernel_rfl
/-- a row of bytes of the call's own. -/
def OwB (w : World) (base : Nat) (v : Value) (s : List Int) : Prop := w.ownsRow base 5 1 v s.length (s.map (Value.int .u8))
theorem below_ownG {base : Nat} {w w1 : World} {e size n : Nat} {v : Value} {xs : List Value} (hb : base ≤ w.heap.size) {o : Obj} (hown : w.ownsRow base e size v n xs) (hgrow : (w.alloc o).grownBy w1 v.ownBlock) : Below base w w1 :=
  ((Below.refl base w).alloc hb _).grown hgrow (by simp; omega) fun k hk => (hown.lt k hk).1
theorem two_new (w : World) (T : TypeId) (x y : Value) : ∀ j u, [x, y][j]? = some u → (w.alloc (.cells #[x, y] T)).cell? ((⟨w.heap.size, 0, none⟩ : Addr).add j) = some u := fun j u hj => by
  rw [addr_add, Nat.zero_add]
  exact Blk.cell (Blk.new w T [x, y]) hj
set_option maxRecDepth 100000 in
set_option maxHeartbeats 1000000 in
theorem word_any (v : Value) (s : List Int) (n : Int) (base : Nat) (w : World) (hl : s.length ≤ 1000000) (hbw : base ≤ w.heap.size) (hown : OwB w base v s) (hn : -1000000000000 ≤ n ∧ n ≤ 1000000000000) :
    Calls Tryd.prog 15 #[v, .int .i64 n] w fun e w' => (∃ u, e = .returned u ∧ OwB w' base u (s ++ [hiB n, loB n])) ∧ Below base w w' := by
  obtain ⟨i0, hi, hz0, hz1, hz2⟩ := info_parts Tryd.infoU8
  have HI := Lib.hid hi
  clear hi
  unfold OwB at hown
  go_enter Tryd.func15, Tryd.ntmps15
  go_wp2_with (at_builtin; refine wpList_append_own _ rfl _ _ 28 rfl base 5 i0 (.int .u8 0) 1 1 Tryd.underlying28 HI.out hz0 hz1 hz2 rfl (by decide) _ _ _ rfl (hown.alloc _) ⟨w.heap.size, 0, none⟩ 2 2 [.int .u8 (hiB n), .int .u8 (loB n)] rfl rfl (two_new w _ _ _) (by simp [Value.oneCell']) (by unfold maxLen; omega) (by omega) (by simp; omega) ?_; intro v' w1 hown' hgrow _)
  have hB := below_ownG hbw hown hgrow
  have ho : OwB w1 base v' (s ++ [hiB n, loB n]) := by
    unfold OwB
    rw [List.length_append, List.map_append]; exact hown'
  clear hown hown' hgrow
  go_wp2
  go_ret
  exact ⟨⟨_, rfl, ho⟩, hB⟩

set_option maxRecDepth 100000 in
set_option maxHeartbeats 1000000 in
theorem long_any (v : Value) (s : List Int) (n : Int) (base : Nat) (w : World) (hl : s.length ≤ 100000) (hbw : base ≤ w.heap.size) (hown : OwB w base v s) (hn : -1000000000000 ≤ n ∧ n ≤ 1000000000000) :
    Calls Tryd.prog 17 #[v, .int .i64 n] w fun e w' => (∃ u, e = .returned u ∧ OwB w' base u (s ++ lng n)) ∧ Below base w w' := by
  have T1 := Lib.hid (word_any v s (n / 65536) base w (by omega) hbw hown (by omega))
  have HL := Lib.hid (show s ++ lng n = s ++ [hiB (n / 65536), loB (n / 65536)] ++ [hiB n, loB n] by rw [List.append_assoc]; rfl)
  rw [HL.out]
  clear hown
  go_enter Tryd.func17, Tryd.ntmps17
  go_wp2_with fail
  refine T1.out.mono ?_
  rintro e w1 ⟨⟨u, rfl, hu⟩, hb1⟩
  have T2 := Lib.hid (word_any u _ n base w1 (by simp; omega) (Nat.le_trans hbw hb1.size) hu hn)
  clear hu
  go_wp2_with fail
  refine T2.out.mono ?_
  rintro e w2 ⟨⟨u2, rfl, hu2⟩, hb2⟩
  go_wp2
  go_ret
  exact ⟨⟨_, rfl, hu2⟩, hb1.trans hb2⟩
def tgV (t : Tg) : List Value := [.int .i64 t.1, .int .i64 t.2.1, .int .i64 t.2.2.1, .int .i64 t.2.2.2.1, .int .i64 t.2.2.2.2.1, .int .i64 t.2.2.2.2.2]
theorem Tryd.enterTg1 (args : Array Value) (w : World) : Sem.run Tryd.prog (callFunc 32 args) w = .ok (.enter 32 args) w :=
  MuLone.run_callFunc_enter Tryd.func32 (by kernel_rfl) rfl args w
theorem CheckTg1_any (n : Int) (w : World) : Calls Tryd.prog 32 #[.int .i64 n] w fun r w' => r = .returned (.int .i64 (withinE n (-32768) 32767)) ∧ w = w' := by
  go_enter Tryd.func32, Tryd.ntmps32
  go_wp2_with fail
  refine (withinP_any _ _ _ _).mono ?_
  rintro e w' ⟨rfl, rfl⟩
  go_wp2_with fail
  go_ret
  exact ⟨rfl, rfl⟩
theorem wiOk {n lo hi : Int} (h : lo ≤ n ∧ n ≤ hi) : withinE n lo hi = 0 := by unfold withinE; rw [if_neg (by omega)]
set_option maxRecDepth 100000 in
set_option maxHeartbeats 2000000 in
theorem CheckTelegram_ok (a b c d e f : Int) (h : TgOk (a, b, c, d, e, f)) (w : World) :
    Calls Tryd.prog 14 #[.agg #[.int .i64 a, .int .i64 b, .int .i64 c, .int .i64 d, .int .i64 e, .int .i64 f]] w fun r w' => r = .returned (.int .i64 0) ∧ Below w.heap.size w w' := by
  obtain ⟨h0, h1, h2, h3, h4, h5⟩ := h
  simp only at h0 h1 h2 h3 h4 h5
  have R1 := Lib.hid (fun W => withinP_any a 0 255 W)
  have R2 := Lib.hid (fun W => withinP_any b 0 65535 W)
  rw [wiOk (by omega)] at R1 R2
  have RF := Lib.hid (fun (u : Value) (W : World) (h : Ints W u [0, 0]) => firstP_any u [0, 0] W (by simp [maxLen]) h)
  rw [show firstE [0, 0] = 0 from rfl] at RF
  have RM := Lib.hid (fun (u : Value) (W : World) (h : Ints W u [c, d, e, f]) => mappedEP_any 32 #[] Tryd.enterTg1 (fun n => withinE n (-32768) 32767) u [c, d, e, f] W (by simp) h (fun x _ w1 _ => CheckTg1_any x w1))
  rw [show [c, d, e, f].map (fun n => withinE n (-32768) 32767) = [0, 0, 0, 0] by simp only [List.map]; rw [wiOk (by omega), wiOk (by omega), wiOk (by omega), wiOk (by omega)]] at RM
  have RG := Lib.hid (fun (u : Value) (W : World) (h : Ints W u [0, 0, 0, 0]) => firstP_any u [0, 0, 0, 0] W (by simp [maxLen]) h)
  rw [show firstE [0, 0, 0, 0] = 0 from rfl] at RG
  clear h0 h1 h2 h3 h4 h5
  go_enter Tryd.func14, Tryd.ntmps14
  go_upto_region 1 with fail
  obtain ⟨W1, hW1⟩ : ∃ v, v = World.alloc w (Obj.cells #[.int .i64 a, .int .i64 b, .int .i64 c, .int .i64 d, .int .i64 e, .int .i64 f] 40) := ⟨_, rfl⟩
  have kW1 : Below w.heap.size w W1 := by rw [hW1]; exact below_new _ _
  have iW1 : Blk W1 (w.heap.size) 40 [.int .i64 a, .int .i64 b, .int .i64 c, .int .i64 d, .int .i64 e, .int .i64 f] := by rw [hW1]; exact Blk.new _ _ _
  have sW1 : W1.heap.size = w.heap.size + 1 := by rw [hW1]; simp
  rw [← hW1]
  clear hW1
  have i1 := iW1
  have hB := kW1
  have a0 := i1.cell (j := 0) (v := .int .i64 a) rfl
  have a1 := i1.cell (j := 1) (v := .int .i64 b) rfl
  clear iW1 kW1 sW1
  refine wp_region_E 99 (by kernel_rfl) ?_
  obtain ⟨wz, hwz⟩ : ∃ v, v = W1.drew := ⟨_, rfl⟩
  rw [← hwz]
  have hlz : Below W1.heap.size W1 wz := by rw [hwz]; exact (Below.refl _ _).drew
  have hbz := bthen hB hlz
  have a0 := cellb a0 hlz
  have a1 := cellb a1 hlz
  have i1 := i1.carry hlz
  clear hwz hlz
  refine wpAnyE_take (i := 0) (oi := { dst := some 4, op := Op.fieldAddr 40 (Operand.tmp 1) 0, type := 0, pos := "telegram.go:35", after := #[], guard := none }) (v := ?_) rfl (by kernel_rfl) (by kernel_rfl) (by kernel_rfl) (by kernel_rfl) (fun _ _ _ h => h) (Or.inl ⟨by rfl, ?_⟩) ?_
  rotate_left
  · (intro w hE; have a0 := cellb a0 hE; have a1 := cellb a1 hE; (try dsimp only); go_simp); (try with_reducible rfl)
  try simp only [Act.put, List.setIfInBounds_toArray, List.set_cons_zero, List.set_cons_succ]
  refine wpAnyE_take (i := 1) (oi := { dst := some 5, op := Op.load 3 (Operand.tmp 4), type := 3, pos := "telegram.go:35", after := #[{ on := 0, ground := Ground.data }], guard := none }) (v := ?_) rfl (by kernel_rfl) (by kernel_rfl) (by kernel_rfl) (by kernel_rfl) (fun _ _ _ h => h) (Or.inl ⟨by rfl, ?_⟩) ?_
  rotate_left
  · (intro w hE; have a0 := cellb a0 hE; have a1 := cellb a1 hE; (try dsimp only); go_simp); (try with_reducible rfl)
  try simp only [Act.put, List.setIfInBounds_toArray, List.set_cons_zero, List.set_cons_succ]
  refine wpAnyE_take (i := 3) (oi := { dst := some 7, op := Op.fieldAddr 40 (Operand.tmp 1) 1, type := 0, pos := "telegram.go:35", after := #[], guard := none }) (v := ?_) rfl (by kernel_rfl) (by kernel_rfl) (by kernel_rfl) (by kernel_rfl) (fun _ _ _ h => h) (Or.inl ⟨by rfl, ?_⟩) ?_
  rotate_left
  · (intro w hE; have a0 := cellb a0 hE; have a1 := cellb a1 hE; (try dsimp only); go_simp); (try with_reducible rfl)
  try simp only [Act.put, List.setIfInBounds_toArray, List.set_cons_zero, List.set_cons_succ]
  refine wpAnyE_take (i := 4) (oi := { dst := some 8, op := Op.load 3 (Operand.tmp 7), type := 3, pos := "telegram.go:35", after := #[{ on := 3, ground := Ground.data }], guard := none }) (v := ?_) rfl (by kernel_rfl) (by kernel_rfl) (by kernel_rfl) (by kernel_rfl) (fun _ _ _ h => h) (Or.inl ⟨by rfl, ?_⟩) ?_
  rotate_left
  · (intro w hE; have a0 := cellb a0 hE; have a1 := cellb a1 hE; (try dsimp only); go_simp); (try with_reducible rfl)
  try simp only [Act.put, List.setIfInBounds_toArray, List.set_cons_zero, List.set_cons_succ]
  refine wpAnyE_call (i := 2) (oi := { dst := some 6, op := Op.call { callee := Callee.value (Operand.func 23), args := #[Operand.tmp 5, Operand.const (Value.int IntKind.i64 0), Operand.const (Value.int IntKind.i64 255)], argTypes := #[3, 3, 3] }, type := 44, pos := "telegram.go:35", after := #[{ on := 1, ground := Ground.data }], guard := none }) (fun w hE => ofPure (R1.out w)) rfl (by kernel_rfl) (by kernel_rfl) (by kernel_rfl) (by kernel_rfl) (fun _ _ _ h => h) (by rfl) (fun w hE => by (try dsimp only); go_simp) ?_
  try simp only [Act.put, List.setIfInBounds_toArray, List.set_cons_zero, List.set_cons_succ]
  refine wpAnyE_call (i := 5) (oi := { dst := some 9, op := Op.call { callee := Callee.value (Operand.func 23), args := #[Operand.tmp 8, Operand.const (Value.int IntKind.i64 0), Operand.const (Value.int IntKind.i64 65535)], argTypes := #[3, 3, 3] }, type := 44, pos := "telegram.go:35", after := #[{ on := 4, ground := Ground.data }, { on := 2, ground := Ground.chain }], guard := none }) (fun w hE => ofPure (R2.out w)) rfl (by kernel_rfl) (by kernel_rfl) (by kernel_rfl) (by kernel_rfl) (fun _ _ _ h => h) (by rfl) (fun w hE => by (try dsimp only); go_simp) ?_
  try simp only [Act.put, List.setIfInBounds_toArray, List.set_cons_zero, List.set_cons_succ]
  refine wpAnyE_one (i := 6) (o := { dst := some 10, op := Op.buildSlice 81 2 #[(0, Operand.tmp 6), (1, Operand.tmp 9)], type := 81, pos := "telegram.go:35", after := #[{ on := 2, ground := Ground.data }, { on := 5, ground := Ground.data }], guard := none }) (by kernel_rfl) rfl (fun wy1 hE K hK => ?_)
  have a0 := cellb a0 hE
  have a1 := cellb a1 hE
  have i1 := i1.carry hE
  have hbz1 := bthen hbz hE
  clear hE
  go_simp
  obtain ⟨wx1, hwz⟩ : ∃ v, v = wy1.alloc (Obj.cells #[.int .i64 0, .int .i64 0] 44) := ⟨_, rfl⟩
  rw [← hwz]
  have hl : Below wy1.heap.size wy1 wx1 := by rw [hwz]; exact below_new _ _
  have hcz1 := bthen hbz1 hl
  have iN : BlkI wx1 wy1.heap.size 44 [0, 0] := by rw [hwz]; exact Blk.new _ _ _
  generalize wy1.heap.size = G at iN ⊢
  have a0 := cellb a0 hl
  have a1 := cellb a1 hl
  have i1 := i1.carry hl
  clear hwz
  refine hK _ _ (fun _ => hl) ?_
  clear hK K hl
  try simp only [Act.put, List.setIfInBounds_toArray, List.set_cons_zero, List.set_cons_succ]
  refine wpAnyE_call (i := 7) (oi := { dst := some 11, op := Op.call { callee := Callee.value (Operand.func 18), args := #[Operand.tmp 10], argTypes := #[81] }, type := 44, pos := "telegram.go:35", after := #[{ on := 6, ground := Ground.data }, { on := 5, ground := Ground.chain }], guard := none }) (fun w hE => ofPure (RF.out _ w ((BlkI.ints iN rfl).carry hE))) rfl (by kernel_rfl) (by kernel_rfl) (by kernel_rfl) (by kernel_rfl) (fun _ _ _ h => h) (by rfl) (fun w hE => by (try dsimp only); go_simp) ?_
  try simp only [Act.put, List.setIfInBounds_toArray, List.set_cons_zero, List.set_cons_succ]
  refine wpAnyE_take (i := 8) (oi := { dst := some 3, op := Op.assign (Operand.tmp 11), type := 44, pos := "telegram.go:35", after := #[{ on := 7, ground := Ground.data }, { on := 7, ground := Ground.chain }, { on := 0, ground := Ground.phase }, { on := 1, ground := Ground.phase }, { on := 2, ground := Ground.phase }, { on := 3, ground := Ground.phase }, { on := 4, ground := Ground.phase }, { on := 5, ground := Ground.phase }, { on := 6, ground := Ground.phase }, { on := 7, ground := Ground.phase }], guard := none }) (v := ?_) rfl (by kernel_rfl) (by kernel_rfl) (by kernel_rfl) (by kernel_rfl) (fun _ _ _ h => h) (Or.inl ⟨by rfl, ?_⟩) ?_
  rotate_left
  · (intro w hE; have a0 := cellb a0 hE; have a1 := cellb a1 hE; (try dsimp only); go_simp); (try with_reducible rfl)
  try simp only [Act.put, List.setIfInBounds_toArray, List.set_cons_zero, List.set_cons_succ]
  refine wpAnyE_done (by kernel_rfl) (fun wy2 hE => ?_) _
  have hbz2 := bthen hcz1 hE
  have a0 := cellb a0 hE
  have a1 := cellb a1 hE
  have i1 := i1.carry hE
  clear hE
  have hB := hbz2
  obtain ⟨W9, hW9⟩ : ∃ v, v = wy2 := ⟨_, rfl⟩
  rw [← hW9] at hB i1 ⊢
  clear hW9
  have hI : Ints W9 (.slice (some ⟨w.heap.size, 2, none⟩) 4 4) [c, d, e, f] := by
    refine ⟨some ⟨w.heap.size, 2, none⟩, 4, rfl, by simp, fun _ => ⟨w.heap.size, 2, rfl, fun j hj => ?_⟩⟩
    have hj4 : j = 0 ∨ j = 1 ∨ j = 2 ∨ j = 3 := by simp at hj; omega
    rcases hj4 with rfl | rfl | rfl | rfl
    · exact i1.cell (j := 2) (v := .int .i64 c) rfl
    · exact i1.cell (j := 3) (v := .int .i64 d) rfl
    · exact i1.cell (j := 4) (v := .int .i64 e) rfl
    · exact i1.cell (j := 5) (v := .int .i64 f) rfl
  go_wp2_with fail
  refine (RM.out _ W9 hI).mono ?_
  rintro e w5 ⟨⟨u, rfl, hu⟩, hb5⟩
  go_wp2_with fail
  refine (RG.out u w5 hu).mono ?_
  rintro e w6 ⟨rfl, rfl⟩
  go_wp2
  go_ret
  exact ⟨rfl, bthen hB hb5⟩
end Go.Proofs.YtjmdnolmaofbiaaDoor

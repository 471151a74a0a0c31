/- Texts of loops: Digits, Split, iterators that write a block laid ahead (SeqR), strings.Lines, strings.CutSuffix, strings.Split at this program. -/
import Derived.Test.YtfdehcphmmhjaaaGreatDoorLopP
import Derived.Test.YtfdehcphmmhjaaaGreatDoorCertify
import Derived.Laws.RangeAny
import Derived.Laws.DeepStrings4
import Derived.BigRegionIn
import Derived.WideMake
import Derived.Test.YtfdehcphmmhjaaaGreatDoorOrdE
namespace Go.Proofs.YtfdehcphmmhjaaaGreatDoor
section
set_option linter.unusedSimpArgs false
set_option linter.unusedVariables false
open Go.RowKit
theorem exec_add {P : Program} {ρ : Operand → Value} {o : Oper} {t t2 : TypeId} {x y : Operand} {v : Value} {w : World} (hop : o.op = Op.binOp .add t x y t2) (h : Sem.run P (binOp .add t (ρ x) (ρ y)) w = .ok v w) : (execOp ρ o).run P w = .ok (.value v) w := by
  unfold execOp
  simp [hop, h, eqGuard, Result.andThen]
theorem exec_load {P : Program} {ρ : Operand → Value} {o : Oper} {t : TypeId} {x : Operand} {v : Value} {w : World} (hop : o.op = Op.load t x) (h : (Instr.loadAt t (ρ x)).run P w = .ok v w) : (execOp ρ o).run P w = .ok (.value v) w := by
  unfold execOp
  simp only [hop, h, Sem.run_bind, Sem.run_pure, Result.andThen_ok]
end
section
set_option linter.unusedSimpArgs false
set_option linter.unusedVariables false

end

section
set_option linter.unusedSimpArgs false
set_option linter.unusedVariables false
open Go.RowKit

theorem idxS (T : TypeId) (hT : Tryz.prog.underlying T = some .string) (s : ByteArray) (k : Nat) (hk : k < s.size) (W : World) :
    Sem.run Tryz.prog (Instr.index T (.string s) (.int .i64 (k : Int))) W = .ok (.int .u8 ((s.data.toList[k]?.getD 0).toNat : Int)) W := by
  rw [run_index_string (h := hT), dif_pos ⟨by omega, by omega⟩]
  have hk' : k < s.data.size := hk
  have : s[(k : Int).toNat]'(by simpa using hk) = s.data.toList[k]?.getD 0 := by
    simp only [Int.toNat_natCast]
    rw [List.getElem?_eq_getElem (by simpa using hk')]
    rfl
  rw [this]
theorem isDigit_any (c : Int) (w : World) : Calls Tryz.prog 149 #[.int .u8 c] w fun e w' => e = .returned (.bool (decide (48 ≤ c ∧ c ≤ 57))) ∧ w = w' := by
  by_cases h1 : 48 ≤ c
  · by_cases h2 : c ≤ 57
    · rw [show decide (48 ≤ c ∧ c ≤ 57) = true from decide_eq_true ⟨h1, h2⟩]
      go_enter Tryz.func149, Tryz.ntmps149
      go_wp2
      go_ret
      exact ⟨rfl, rfl⟩
    · rw [show decide (48 ≤ c ∧ c ≤ 57) = false from decide_eq_false (fun h => h2 h.2)]
      have h3 : 57 < c := by omega
      go_enter Tryz.func149, Tryz.ntmps149
      go_wp2
      go_ret
      exact ⟨rfl, rfl⟩
  · rw [show decide (48 ≤ c ∧ c ≤ 57) = false from decide_eq_false (fun h => h1 h.1)]
    have h3 : c < 48 := by omega
    go_enter Tryz.func149, Tryz.ntmps149
    go_wp2
    go_ret
    exact ⟨rfl, rfl⟩
set_option maxRecDepth 100000 in
set_option maxHeartbeats 2000000 in
theorem Digits_any (s : ByteArray) (w : World) (hs : s.size ≤ 1000000) :
    Calls Tryz.prog 122 #[.string s] w fun e w' => e = .returned (.tuple #[.int .i64 (digV s.data.toList), .bool (digOk s.data.toList)]) ∧ w = w' := by
  have HL := Lib.hid (data_len s)
  obtain ⟨L, hL⟩ : ∃ L, L = s.data.toList := ⟨_, rfl⟩
  have hix := fun (k : Nat) (hk : k < s.size) W => idxS 9 Tryz.underlying9 s k hk W
  rw [← hL] at HL hix ⊢
  have HIX := Lib.hid hix
  clear hL hix
  obtain ⟨n, hn⟩ : ∃ n, n = s.size := ⟨_, rfl⟩
  have hn' : s.size = n := hn.symm
  rw [hn'] at HL HIX hs
  clear hn
  by_cases h0 : n = 0
  · subst h0
    have HR := Lib.hid (digOk_false (l := L) (.inl HL.out))
    go_enter Tryz.func122, Tryz.ntmps122
    go_wp2
    go_ret2
    rw [digV_false HR.out, HR.out]
    exact ⟨rfl, rfl⟩
  by_cases h9 : 9 < n
  · have HR := Lib.hid (digOk_false (l := L) (.inr (.inl (by rw [HL.out]; exact h9))))
    have d0 : (n : Int) ≠ 0 := by omega
    have d1 : 9 < (n : Int) := by omega
    go_enter Tryz.func122, Tryz.ntmps122
    go_wp2
    go_ret2
    rw [digV_false HR.out, HR.out]
    exact ⟨rfl, rfl⟩
  by_cases h1 : n = 1
  · have d0 : (n : Int) ≠ 0 := by omega
    have d1 : ¬ 9 < (n : Int) := by omega
    have d2 : ¬ 1 < (n : Int) := by omega
    have HO := Lib.hid (show L.length = 1 ∨ L[0]?.getD 0 ≠ 48 from .inl (by rw [HL.out]; exact h1))
    have H1 := Lib.hid h1
    clear h1
    go_enter Tryz.func122, Tryz.ntmps122
    go_wp2
    go_loop [4, 5] (fun v i => ∃ k : Nat, k ≤ n ∧ i = .int .i64 k ∧ v = .int .i64 (valD (L.take k)) ∧ (L.take k).all isD = true) (fun _ i => n - (intOf i).toNat)
    case atStart => exact ⟨0, by omega, rfl, rfl, rfl⟩
    case round =>
      obtain ⟨k, hk, rfl, rfl, ha⟩ := hrel
      have HA := Lib.hid ha
      clear ha
      by_cases hlt : k < n
      · have e1 := HIX.out k hlt
        have HT := Lib.hid (take_snoc L k (by rw [HL.out]; exact hlt))
        have HB := Lib.hid (valD_9 (l := L.take k) (by rw [List.length_take, HL.out]; omega) HA.out)
        generalize L[k]?.getD 0 = b at e1 HT
        have HC := Lib.hid (isD_iff b)
        have HZ := Lib.hid (show isD b = false → ∃ k, k < L.length ∧ isD (L[k]?.getD 0) = false from fun h => ⟨k, by rw [HL.out]; exact hlt, by
          have h2 := congrArg List.getLast? HT.out
          rw [List.getLast?_concat, List.getLast?_take] at h2
          rw [if_neg (by omega), show k + 1 - 1 = k by omega, List.getElem?_eq_getElem (by rw [HL.out]; exact hlt)] at h2
          rw [List.getElem?_eq_getElem (by rw [HL.out]; exact hlt)]
          simp at h2
          simp [h2, h]⟩)
        have HV := Lib.hid (valD_snoc (L.take k) b)
        obtain ⟨v, hv⟩ : ∃ v, v = valD (L.take k) := ⟨_, rfl⟩
        rw [← hv] at HB HV ⊢
        clear hv
        have hb2 : 0 ≤ (b.toNat : Int) := by omega
        by_cases hd : 48 ≤ (b.toNat : Int) ∧ (b.toNat : Int) ≤ 57
        · have hdd : decide (48 ≤ (b.toNat : Int) ∧ (b.toNat : Int) ≤ 57) = true := decide_eq_true hd
          have v0 : IntKind.i64.wrap (10 * v) = 10 * v := IntWalk.i64_in _ (by have := HB.out; omega)
          have hbd : isD b = true := HC.out.2 (by omega)
          have HBD := Lib.hid hbd
          obtain ⟨c, hc⟩ : ∃ c : Int, c = (b.toNat : Int) := ⟨_, rfl⟩
          rw [← hc] at e1 hd hdd hb2 HV
          clear hc hbd
          have v1 : IntKind.u8.wrap (c - 48) = c - 48 := IntWalk.u8_in _ (by omega)
          have v2 : IntKind.i64.wrap (c - 48) = c - 48 := IntWalk.i64_in _ (by omega)
          have v3 : IntKind.i64.wrap (10 * v + (c - 48)) = 10 * v + (c - 48) := IntWalk.i64_in _ (by have := HB.out; omega)
          have HD := Lib.hid hd
          clear hd
          go_wp2_with (go_at_call 149; refine (isDigit_any _ _).mono ?_; rintro e w' ⟨rfl, rfl⟩)
          go_round
          case rel => exact ⟨k + 1, by omega, by go_num, by rw [HT.out, HV.out], by rw [HT.out, List.all_append, HA.out]; simp [HBD.out]⟩
          case measure => simp [intOf]; omega
        · have hdd : decide (48 ≤ (b.toNat : Int) ∧ (b.toNat : Int) ≤ 57) = false := decide_eq_false hd
          have HR := Lib.hid (digOk_false (.inr (.inr (.inr (HZ.out (Bool.eq_false_iff.2 fun h => hd (by have := HC.out.1 h; omega)))))))
          clear hd
          go_wp2_with (go_at_call 149; refine (isDigit_any _ _).mono ?_; rintro e w' ⟨rfl, rfl⟩)
          go_ret2
          rw [digV_false HR.out, HR.out]
          exact ⟨rfl, rfl⟩
      · obtain rfl : k = n := by omega
        have hta : L.take k = L := List.take_of_length_le (by rw [HL.out]; omega)
        rw [hta] at HA ⊢
        have HR := Lib.hid (digOk_true (l := L) (by rw [HL.out]; omega) (by rw [HL.out]; omega) HO.out HA.out)
        clear hta
        go_wp2
        go_ret2
        rw [digV_true HR.out, HR.out]
        exact ⟨rfl, rfl⟩
  have e0 := HIX.out 0 (by omega)
  have d0 : (n : Int) ≠ 0 := by omega
  have d1 : ¬ 9 < (n : Int) := by omega
  have d2 : 1 < (n : Int) := by omega
  by_cases hc : L[0]?.getD 0 = 48
  · have HR := Lib.hid (digOk_false (l := L) (.inr (.inr (.inl ⟨by rw [HL.out]; exact h1, hc⟩))))
    rw [hc] at e0
    have e0' : ∀ W, Sem.run Tryz.prog (Instr.index 9 (.string s) (.int .i64 0)) W = .ok (.int .u8 48) W := e0
    clear e0 hc
    go_enter Tryz.func122, Tryz.ntmps122
    go_wp2
    go_ret2
    rw [digV_false HR.out, HR.out]
    exact ⟨rfl, rfl⟩
  · have HO := Lib.hid (show L.length = 1 ∨ L[0]?.getD 0 ≠ 48 from .inr hc)
    have d3 : ((L[0]?.getD 0).toNat : Int) ≠ 48 := fun h => hc (UInt8.toNat.inj (by rw [show (48 : UInt8).toNat = 48 from rfl]; omega))
    generalize ((L[0]?.getD 0).toNat : Int) = c0 at e0 d3
    have d4 : (c0 == 48) = false := by simpa using d3
    have e0' : ∀ W, Sem.run Tryz.prog (Instr.index 9 (.string s) (.int .i64 0)) W = .ok (.int .u8 c0) W := e0
    clear e0 hc
    go_enter Tryz.func122, Tryz.ntmps122
    go_wp2
    go_loop [4, 5] (fun v i => ∃ k : Nat, k ≤ n ∧ i = .int .i64 k ∧ v = .int .i64 (valD (L.take k)) ∧ (L.take k).all isD = true) (fun _ i => n - (intOf i).toNat)
    case atStart => exact ⟨0, by omega, rfl, rfl, rfl⟩
    case round =>
      obtain ⟨k, hk, rfl, rfl, ha⟩ := hrel
      have HA := Lib.hid ha
      clear ha
      by_cases hlt : k < n
      · have e1 := HIX.out k hlt
        have HT := Lib.hid (take_snoc L k (by rw [HL.out]; exact hlt))
        have HB := Lib.hid (valD_9 (l := L.take k) (by rw [List.length_take, HL.out]; omega) HA.out)
        generalize L[k]?.getD 0 = b at e1 HT
        have HC := Lib.hid (isD_iff b)
        have HZ := Lib.hid (show isD b = false → ∃ k, k < L.length ∧ isD (L[k]?.getD 0) = false from fun h => ⟨k, by rw [HL.out]; exact hlt, by
          have h2 := congrArg List.getLast? HT.out
          rw [List.getLast?_concat, List.getLast?_take] at h2
          rw [if_neg (by omega), show k + 1 - 1 = k by omega, List.getElem?_eq_getElem (by rw [HL.out]; exact hlt)] at h2
          rw [List.getElem?_eq_getElem (by rw [HL.out]; exact hlt)]
          simp at h2
          simp [h2, h]⟩)
        have HV := Lib.hid (valD_snoc (L.take k) b)
        obtain ⟨v, hv⟩ : ∃ v, v = valD (L.take k) := ⟨_, rfl⟩
        rw [← hv] at HB HV ⊢
        clear hv
        have hb2 : 0 ≤ (b.toNat : Int) := by omega
        by_cases hd : 48 ≤ (b.toNat : Int) ∧ (b.toNat : Int) ≤ 57
        · have hdd : decide (48 ≤ (b.toNat : Int) ∧ (b.toNat : Int) ≤ 57) = true := decide_eq_true hd
          have v0 : IntKind.i64.wrap (10 * v) = 10 * v := IntWalk.i64_in _ (by have := HB.out; omega)
          have hbd : isD b = true := HC.out.2 (by omega)
          have HBD := Lib.hid hbd
          obtain ⟨c, hc⟩ : ∃ c : Int, c = (b.toNat : Int) := ⟨_, rfl⟩
          rw [← hc] at e1 hd hdd hb2 HV
          clear hc hbd
          have v1 : IntKind.u8.wrap (c - 48) = c - 48 := IntWalk.u8_in _ (by omega)
          have v2 : IntKind.i64.wrap (c - 48) = c - 48 := IntWalk.i64_in _ (by omega)
          have v3 : IntKind.i64.wrap (10 * v + (c - 48)) = 10 * v + (c - 48) := IntWalk.i64_in _ (by have := HB.out; omega)
          have HD := Lib.hid hd
          clear hd
          go_wp2_with (go_at_call 149; refine (isDigit_any _ _).mono ?_; rintro e w' ⟨rfl, rfl⟩)
          go_round
          case rel => exact ⟨k + 1, by omega, by go_num, by rw [HT.out, HV.out], by rw [HT.out, List.all_append, HA.out]; simp [HBD.out]⟩
          case measure => simp [intOf]; omega
        · have hdd : decide (48 ≤ (b.toNat : Int) ∧ (b.toNat : Int) ≤ 57) = false := decide_eq_false hd
          have HR := Lib.hid (digOk_false (.inr (.inr (.inr (HZ.out (Bool.eq_false_iff.2 fun h => hd (by have := HC.out.1 h; omega)))))))
          clear hd
          go_wp2_with (go_at_call 149; refine (isDigit_any _ _).mono ?_; rintro e w' ⟨rfl, rfl⟩)
          go_ret2
          rw [digV_false HR.out, HR.out]
          exact ⟨rfl, rfl⟩
      · obtain rfl : k = n := by omega
        have hta : L.take k = L := List.take_of_length_le (by rw [HL.out]; omega)
        rw [hta] at HA ⊢
        have HR := Lib.hid (digOk_true (l := L) (by rw [HL.out]; omega) (by rw [HL.out]; omega) HO.out HA.out)
        clear hta
        go_wp2
        go_ret2
        rw [digV_true HR.out, HR.out]
        exact ⟨rfl, rfl⟩
end

section
set_option linter.unusedSimpArgs false
set_option linter.unusedVariables false
open Go.RowKit

end

section
set_option linter.unusedSimpArgs false
set_option linter.unusedVariables false
open Go.RowKit

/-- a row of texts of the call's own. -/
def OwnS (base : Nat) (W : World) (v : Value) (ps : List (List UInt8)) : Prop := W.ownsRow base 9 1 v ps.length (ps.map strV)
theorem OwnS.carry {base : Nat} {W W' : World} {v : Value} {ps : List (List UInt8)} (h : OwnS base W v ps) (hb : Below W.heap.size W W') : OwnS base W' v ps := own_below h hb
theorem OwnS.vals {base : Nat} {W : World} {v : Value} {ps : List (List UInt8)} (h : OwnS base W v ps) : Vals W v (ps.map strV) :=
  Vals.of_own (us := ps.map strV) (v := v) (w := W) (base := base) (e := 9) (by rw [List.length_map]; exact h)
theorem catS2 (T : TypeId) (x y : ByteArray) (W : World) (h : x.size + y.size ≤ 1000000000) : Sem.run Tryz.prog (binOp .add T (.string x) (.string y)) W = .ok (.string (x ++ y)) W := by
  have h2 : ¬ (9223372036854775807 < x.size + y.size) := by omega
  go_simp
theorem OwnS.set {base g cp : Nat} {W : World} {q : List (List UInt8)} {p : List UInt8} (h : OwnS base W (.slice (some ⟨g, 0, none⟩) (q.length + 1) cp) (q ++ [p])) (r : List UInt8) :
    OwnS base (W.setCell ⟨g, q.length, none⟩ (strV r)) (.slice (some ⟨g, 0, none⟩) (q.length + 1) cp) (q ++ [r]) := by
  unfold OwnS at h ⊢
  have h1 : (q ++ [p]).length = q.length + 1 := by simp
  have h2 : (q ++ [r]).length = q.length + 1 := by simp
  rw [h1] at h
  rw [h2]
  have := (h.stored q.length (strV r)).1
  rw [List.map_append] at this ⊢
  simpa using this
set_option maxRecDepth 100000 in
set_option maxHeartbeats 4000000 in
theorem Split_any (s : ByteArray) (c : UInt8) (w : World) (hs : s.size ≤ 1000000) :
    Calls Tryz.prog 15 #[.string s, .int .u8 (c.toNat : Int)] w fun e w' => (∃ u, e = .returned u ∧ OwnS w.heap.size w' u (splitC c s.data.toList)) ∧ Below w.heap.size w w' := by
  have HL := Lib.hid (data_len s)
  have hix := fun (k : Nat) (hk : k < s.size) W => idxS 9 Tryz.underlying9 s k hk W
  have hgr := fun (k : Nat) (hk : k < s.size) p => growAt s k hk p
  obtain ⟨L, hL⟩ : ∃ L, L = s.data.toList := ⟨_, rfl⟩
  rw [← hL] at HL hix hgr ⊢
  have HIX := Lib.hid hix
  have HGR := Lib.hid hgr
  clear hL hix hgr
  obtain ⟨n, hn⟩ : ∃ n, n = s.size := ⟨_, rfl⟩
  have hn' : s.size = n := hn.symm
  rw [hn'] at HL HIX HGR hs
  clear hn
  obtain ⟨i0, hi, hz0, hz1, hz2⟩ := info_parts Tryz.infoString
  have HC := Lib.hid (show ∀ b : UInt8, (b.toNat : Int) = (c.toNat : Int) → b = c from fun b h => UInt8.toNat.inj (by omega))
  go_enter Tryz.func15, Tryz.ntmps15
  go_wp2
  have hx := below_new w (Obj.cells #[Value.string ⟨#[]⟩] 9)
  have ho : OwnS w.heap.size (w.alloc (Obj.cells #[Value.string ⟨#[]⟩] 9)) (.slice (some ⟨w.heap.size, 0, none⟩) 1 1) (splitC c (L.take 0)) := World.ownsRow_lit w #[Value.string ⟨#[]⟩] 1 (Nat.le_refl _) (by unfold maxLen; omega) rfl
  go_loopw [5, 6] (fun v i wr => ∃ k : Nat, k ≤ n ∧ i = .int .i64 k ∧ OwnS w.heap.size wr v (splitC c (L.take k)) ∧ Below w.heap.size w wr) (fun _ i _ => n - (intOf i).toNat)
  case atStart => exact ⟨0, by omega, rfl, ho, hx⟩
  case round =>
    clear hx ho
    obtain ⟨k, hk, rfl, hown, hx⟩ := hrel
    by_cases hlt : k < n
    · have e1 := HIX.out k hlt
      have HT := Lib.hid (take_snoc L k (by rw [HL.out]; exact hlt))
      have HG := Lib.hid (HGR.out k hlt)
      have HLN := Lib.hid (splitC_length c (L.take k))
      have HCN := Lib.hid (show (L.take k).count c ≤ k from Nat.le_trans List.count_le_length (by rw [List.length_take]; omega))
      generalize L[k]?.getD 0 = b at e1 HT HG
      have HSN := Lib.hid (splitC_snoc c b (L.take k))
      have HNE := Lib.hid (splitC_ne c (L.take k))
      obtain ⟨ps, hps⟩ : ∃ ps, ps = splitC c (L.take k) := ⟨_, rfl⟩
      rw [← hps] at HLN HSN HNE hown
      clear hps
      have hpl : ps.length ≤ 1000001 := by have := HLN.out; have := HCN.out; omega
      by_cases hb : b = c
      · subst hb
        have HNX : OwnS w.heap.size = OwnS w.heap.size := rfl
        clear HNX
        go_wp2_with (at_builtin; refine wpList_append_own _ rfl _ _ 43 rfl w.heap.size 9 i0 (.string ⟨#[]⟩) 1 16 Tryz.underlying43 hi hz0 hz1 hz2 rfl (by decide) _ _ _ rfl (hown.alloc _) ⟨wr.heap.size, 0, none⟩ 1 1 [.string ⟨#[]⟩] rfl rfl (cell_one_new _ _ _) (by simp [Value.oneCell']) (by unfold maxLen; omega) (by omega) (by have := hx.size; simp; omega) ?_; intro v' w1 hown' hgrow hfrozen)
        have hx' := below_own hx hown hgrow
        have hown2 : OwnS w.heap.size w1 v' (splitC b (L.take (k + 1))) := by
          rw [HT.out, HSN.out, if_pos rfl]
          unfold OwnS
          rw [List.length_append, List.map_append]
          exact hown'
        clear hown hown' hgrow hfrozen hx
        go_wp2
        go_roundw
        case rel => exact ⟨k + 1, by omega, by go_num, hown2, hx'⟩
        case measure => simp [intOf]; omega
      · have d0 : ((b.toNat : Int) == (c.toNat : Int)) = false := by
          rw [beq_eq_false_iff_ne]; exact fun h => hb (HC.out b h)
        have d1 : (b.toNat : Int) ≠ (c.toNat : Int) := fun h => hb (HC.out b h)
        obtain ⟨q, p, rfl⟩ := concat_of_ne HNE.out
        have HSN2 := Lib.hid (show splitC c (L.take (k + 1)) = q ++ [p ++ [b]] by rw [HT.out, HSN.out, if_neg hb, growLast_concat])
        have hg := HG.out p
        clear hb
        have HLN2 := Lib.hid (show (q ++ [p]).length = q.length + 1 by simp)
        obtain ⟨g, cp, hv⟩ : ∃ g cp, u5 = .slice (some ⟨g, 0, none⟩) (q.length + 1) cp := ownsRow_succ (by unfold OwnS at hown; rw [HLN2.out] at hown; exact hown)
        subst hv
        have hown0 : wr.ownsRow w.heap.size 9 1 (.slice (some ⟨g, 0, none⟩) (q.length + 1) cp) (q.length + 1) ((q ++ [p]).map strV) := by unfold OwnS at hown; rw [HLN2.out] at hown; exact hown
        have hge : w.heap.size ≤ g := (hown0.lt g rfl).1
        have hql : q.length ≤ 1000000 := by have := HLN2.out; omega
        have c0 : wr.cell? ⟨g, q.length, none⟩ = some (.string ⟨p.toArray⟩) := by rw [hown0.cellAt q.length (by omega)]; simp
        have v0 : IntKind.i64.wrap (((q.length + 1 : Nat) : Int) - 1) = (q.length : Int) := (IntWalk.i64_in _ (by omega)).trans (by omega)
        have v2 : IntKind.i64.wrap (q.length : Int) = (q.length : Int) := IntWalk.i64_in _ (by omega)
        have v1 : IntKind.i64.wrap ((k : Int) + 1) = ((k + 1 : Nat) : Int) := (IntWalk.i64_in _ (by omega)).trans (by omega)
        have d3 : (q.length : Int) < (q.length : Int) + 1 := by omega
        have d4 : (k : Int) ≤ (k : Int) + 1 := by omega
        have d5 : (k : Int) + 1 ≤ (n : Int) := by omega
        have d6 : 0 ≤ (k : Int) := by omega
        obtain ⟨z, hz⟩ : ∃ z : ByteArray, z = ⟨(p ++ [b]).toArray⟩ := ⟨_, rfl⟩
        rw [← hz] at hg
        have hpz : p.length ≤ 1000000 := by
          have h1 := splitC_len c (L.take (k + 1)) (p ++ [b]) (by rw [HSN2.out]; exact List.mem_append_right _ (List.mem_singleton.2 rfl))
          rw [List.length_append, List.length_singleton, List.length_take] at h1
          omega
        have hcat : ∀ W, Sem.run Tryz.prog (binOp .add 9 (.string ⟨p.toArray⟩) (.string (s.extract k (k + 1)))) W = .ok (.string z) W := fun W => by
          have h3 : (s.extract k (k + 1)).size ≤ 1 := by rw [ByteArray.size_extract]; omega
          rw [← hg]
          exact catS2 _ _ _ _ (by rw [mk_size]; omega)
        have HZ := Lib.hid hz
        clear hz hg hown0 hpz
        go_upto_region 7 with fail
        refine wp_region_E 17 (by kernel_rfl) ?_
        obtain ⟨wz, hwz⟩ : ∃ v, v = wr.drew := ⟨_, rfl⟩
        rw [← hwz]
        have hlz : Below wr.heap.size wr wz := by rw [hwz]; exact (Below.refl _ _).drew
        have hbz := bthen hx hlz
        have c0 := cellb c0 hlz
        have hown := hown.carry hlz
        clear hwz hlz
        refine wpAnyE_take (i := 0) (oi := { dst := some 22, op := Op.move (Operand.tmp 5), type := 43, pos := "words.go:56", after := #[], guard := none }) (v := ?_) rfl (by kernel_rfl) (by kernel_rfl) (by kernel_rfl) (by kernel_rfl) (fun _ _ _ h => h) (Or.inl ⟨by rfl, ?_⟩) ?_
        rotate_left
        · (intro w hE; have c0 := cellb c0 hE; (try dsimp only); go_simp); (try with_reducible rfl)
        try simp only [Act.put, List.setIfInBounds_toArray, List.set_cons_zero, List.set_cons_succ]
        refine wpAnyE_take (i := 1) (oi := { dst := some 23, op := Op.move (Operand.tmp 5), type := 43, pos := "words.go:56", after := #[], guard := none }) (v := ?_) rfl (by kernel_rfl) (by kernel_rfl) (by kernel_rfl) (by kernel_rfl) (fun _ _ _ h => h) (Or.inl ⟨by rfl, ?_⟩) ?_
        rotate_left
        · (intro w hE; have c0 := cellb c0 hE; (try dsimp only); go_simp); (try with_reducible rfl)
        try simp only [Act.put, List.setIfInBounds_toArray, List.set_cons_zero, List.set_cons_succ]
        refine wpAnyE_take (i := 2) (oi := { dst := some 24, op := Op.call { callee := Callee.builtin Builtin.len, args := #[Operand.tmp 23], argTypes := #[43] }, type := 3, pos := "words.go:56", after := #[{ on := 1, ground := Ground.data }], guard := none }) (v := ?_) rfl (by kernel_rfl) (by kernel_rfl) (by kernel_rfl) (by kernel_rfl) (fun _ _ _ h => h) (Or.inl ⟨by rfl, ?_⟩) ?_
        rotate_left
        · (intro w hE; have c0 := cellb c0 hE; (try dsimp only); go_simp); (try with_reducible rfl)
        try simp only [Act.put, List.setIfInBounds_toArray, List.set_cons_zero, List.set_cons_succ]
        refine wpAnyE_take (i := 3) (oi := { dst := some 25, op := Op.binOp BinOp.sub 3 (Operand.tmp 24) (Operand.const (Value.int IntKind.i64 1)) 3, type := 3, pos := "words.go:56", after := #[{ on := 2, ground := Ground.data }], guard := none }) (v := ?_) rfl (by kernel_rfl) (by kernel_rfl) (by kernel_rfl) (by kernel_rfl) (fun _ _ _ h => h) (Or.inl ⟨by rfl, ?_⟩) ?_
        rotate_left
        · (intro w hE; have c0 := cellb c0 hE; (try dsimp only); go_simp); (try with_reducible rfl)
        try simp only [Act.put, List.setIfInBounds_toArray, List.set_cons_zero, List.set_cons_succ]
        refine wpAnyE_take (i := 4) (oi := { dst := some 26, op := Op.move (Operand.tmp 5), type := 43, pos := "words.go:56", after := #[], guard := none }) (v := ?_) rfl (by kernel_rfl) (by kernel_rfl) (by kernel_rfl) (by kernel_rfl) (fun _ _ _ h => h) (Or.inl ⟨by rfl, ?_⟩) ?_
        rotate_left
        · (intro w hE; have c0 := cellb c0 hE; (try dsimp only); go_simp); (try with_reducible rfl)
        try simp only [Act.put, List.setIfInBounds_toArray, List.set_cons_zero, List.set_cons_succ]
        refine wpAnyE_take (i := 5) (oi := { dst := some 27, op := Op.move (Operand.tmp 5), type := 43, pos := "words.go:56", after := #[], guard := none }) (v := ?_) rfl (by kernel_rfl) (by kernel_rfl) (by kernel_rfl) (by kernel_rfl) (fun _ _ _ h => h) (Or.inl ⟨by rfl, ?_⟩) ?_
        rotate_left
        · (intro w hE; have c0 := cellb c0 hE; (try dsimp only); go_simp); (try with_reducible rfl)
        try simp only [Act.put, List.setIfInBounds_toArray, List.set_cons_zero, List.set_cons_succ]
        refine wpAnyE_take (i := 6) (oi := { dst := some 28, op := Op.call { callee := Callee.builtin Builtin.len, args := #[Operand.tmp 27], argTypes := #[43] }, type := 3, pos := "words.go:56", after := #[{ on := 5, ground := Ground.data }], guard := none }) (v := ?_) rfl (by kernel_rfl) (by kernel_rfl) (by kernel_rfl) (by kernel_rfl) (fun _ _ _ h => h) (Or.inl ⟨by rfl, ?_⟩) ?_
        rotate_left
        · (intro w hE; have c0 := cellb c0 hE; (try dsimp only); go_simp); (try with_reducible rfl)
        try simp only [Act.put, List.setIfInBounds_toArray, List.set_cons_zero, List.set_cons_succ]
        refine wpAnyE_take (i := 7) (oi := { dst := some 29, op := Op.binOp BinOp.sub 3 (Operand.tmp 28) (Operand.const (Value.int IntKind.i64 1)) 3, type := 3, pos := "words.go:56", after := #[{ on := 6, ground := Ground.data }], guard := none }) (v := ?_) rfl (by kernel_rfl) (by kernel_rfl) (by kernel_rfl) (by kernel_rfl) (fun _ _ _ h => h) (Or.inl ⟨by rfl, ?_⟩) ?_
        rotate_left
        · (intro w hE; have c0 := cellb c0 hE; (try dsimp only); go_simp); (try with_reducible rfl)
        try simp only [Act.put, List.setIfInBounds_toArray, List.set_cons_zero, List.set_cons_succ]
        refine wpAnyE_take (i := 8) (oi := { dst := some 30, op := Op.indexAddr 43 (Operand.tmp 26) (Operand.tmp 29), type := 0, pos := "words.go:56", after := #[{ on := 4, ground := Ground.data }, { on := 7, ground := Ground.data }], guard := none }) (v := ?_) rfl (by kernel_rfl) (by kernel_rfl) (by kernel_rfl) (by kernel_rfl) (fun _ _ _ h => h) (Or.inl ⟨by rfl, ?_⟩) ?_
        rotate_left
        · (intro w hE; have c0 := cellb c0 hE; (try dsimp only); go_simp); (try with_reducible rfl)
        try simp only [Act.put, List.setIfInBounds_toArray, List.set_cons_zero, List.set_cons_succ]
        refine wpAnyE_take (i := 9) (oi := { dst := some 31, op := Op.load 9 (Operand.tmp 30), type := 9, pos := "words.go:56", after := #[{ on := 8, ground := Ground.data }], guard := none }) (v := ?_) rfl (by kernel_rfl) (by kernel_rfl) (by kernel_rfl) (by kernel_rfl) (fun _ _ _ h => h) (Or.inl ⟨by rfl, ?_⟩) ?_
        rotate_left
        · (intro w hE; have c0 := cellb c0 hE; (try dsimp only); go_simp); (try with_reducible rfl)
        try simp only [Act.put, List.setIfInBounds_toArray, List.set_cons_zero, List.set_cons_succ]
        refine wpAnyE_take (i := 10) (oi := { dst := some 32, op := Op.move (Operand.tmp 0), type := 9, pos := "words.go:56", after := #[], guard := none }) (v := ?_) rfl (by kernel_rfl) (by kernel_rfl) (by kernel_rfl) (by kernel_rfl) (fun _ _ _ h => h) (Or.inl ⟨by rfl, ?_⟩) ?_
        rotate_left
        · (intro w hE; have c0 := cellb c0 hE; (try dsimp only); go_simp); (try with_reducible rfl)
        try simp only [Act.put, List.setIfInBounds_toArray, List.set_cons_zero, List.set_cons_succ]
        refine wpAnyE_take (i := 11) (oi := { dst := some 33, op := Op.move (Operand.tmp 6), type := 3, pos := "words.go:56", after := #[], guard := none }) (v := ?_) rfl (by kernel_rfl) (by kernel_rfl) (by kernel_rfl) (by kernel_rfl) (fun _ _ _ h => h) (Or.inl ⟨by rfl, ?_⟩) ?_
        rotate_left
        · (intro w hE; have c0 := cellb c0 hE; (try dsimp only); go_simp); (try with_reducible rfl)
        try simp only [Act.put, List.setIfInBounds_toArray, List.set_cons_zero, List.set_cons_succ]
        refine wpAnyE_take (i := 12) (oi := { dst := some 34, op := Op.move (Operand.tmp 6), type := 3, pos := "words.go:56", after := #[], guard := none }) (v := ?_) rfl (by kernel_rfl) (by kernel_rfl) (by kernel_rfl) (by kernel_rfl) (fun _ _ _ h => h) (Or.inl ⟨by rfl, ?_⟩) ?_
        rotate_left
        · (intro w hE; have c0 := cellb c0 hE; (try dsimp only); go_simp); (try with_reducible rfl)
        try simp only [Act.put, List.setIfInBounds_toArray, List.set_cons_zero, List.set_cons_succ]
        refine wpAnyE_take (i := 13) (oi := { dst := some 35, op := Op.binOp BinOp.add 3 (Operand.tmp 34) (Operand.const (Value.int IntKind.i64 1)) 3, type := 3, pos := "words.go:56", after := #[{ on := 12, ground := Ground.data }], guard := none }) (v := ?_) rfl (by kernel_rfl) (by kernel_rfl) (by kernel_rfl) (by kernel_rfl) (fun _ _ _ h => h) (Or.inl ⟨by rfl, ?_⟩) ?_
        rotate_left
        · (intro w hE; have c0 := cellb c0 hE; (try dsimp only); go_simp); (try with_reducible rfl)
        try simp only [Act.put, List.setIfInBounds_toArray, List.set_cons_zero, List.set_cons_succ]
        refine wpAnyE_take (i := 14) (oi := { dst := some 36, op := Op.slice 9 (Operand.tmp 32) (some (Operand.tmp 33)) (some (Operand.tmp 35)) none, type := 9, pos := "words.go:56", after := #[{ on := 10, ground := Ground.data }, { on := 11, ground := Ground.data }, { on := 13, ground := Ground.data }], guard := none }) (v := ?_) rfl (by kernel_rfl) (by kernel_rfl) (by kernel_rfl) (by kernel_rfl) (fun _ _ _ h => h) (Or.inl ⟨by rfl, ?_⟩) ?_
        rotate_left
        · (intro w hE; have c0 := cellb c0 hE; (try dsimp only); go_simp); (try with_reducible rfl)
        try simp only [Act.put, List.setIfInBounds_toArray, List.set_cons_zero, List.set_cons_succ]
        refine wpAnyE_take (i := 15) (oi := { dst := some 37, op := Op.binOp BinOp.add 9 (Operand.tmp 31) (Operand.tmp 36) 9, type := 9, pos := "words.go:56", after := #[{ on := 9, ground := Ground.data }, { on := 14, ground := Ground.data }], guard := none }) (v := ?_) rfl (by kernel_rfl) (by kernel_rfl) (by kernel_rfl) (by kernel_rfl) (fun _ _ _ h => h) (Or.inl ⟨by rfl, ?_⟩) ?_
        rotate_left
        · (intro w hE; have c0 := cellb c0 hE; (try dsimp only); refine Eq.trans (exec_add (v := .string z) rfl (hcat w)) ?_); (try with_reducible rfl)
        try simp only [Act.put, List.setIfInBounds_toArray, List.set_cons_zero, List.set_cons_succ]
        refine wpAnyE_take (i := 16) (oi := { dst := some 38, op := Op.indexAddr 43 (Operand.tmp 22) (Operand.tmp 25), type := 0, pos := "words.go:56", after := #[{ on := 0, ground := Ground.data }, { on := 3, ground := Ground.data }, { on := 0, ground := Ground.phase }, { on := 1, ground := Ground.phase }, { on := 2, ground := Ground.phase }, { on := 3, ground := Ground.phase }, { on := 4, ground := Ground.phase }, { on := 5, ground := Ground.phase }, { on := 6, ground := Ground.phase }, { on := 7, ground := Ground.phase }, { on := 8, ground := Ground.phase }, { on := 9, ground := Ground.phase }, { on := 10, ground := Ground.phase }, { on := 11, ground := Ground.phase }, { on := 12, ground := Ground.phase }, { on := 13, ground := Ground.phase }, { on := 14, ground := Ground.phase }, { on := 15, ground := Ground.phase }], guard := none }) (v := ?_) rfl (by kernel_rfl) (by kernel_rfl) (by kernel_rfl) (by kernel_rfl) (fun _ _ _ h => h) (Or.inl ⟨by rfl, ?_⟩) ?_
        rotate_left
        · (intro w hE; have c0 := cellb c0 hE; (try dsimp only); go_simp); (try with_reducible rfl)
        try simp only [Act.put, List.setIfInBounds_toArray, List.set_cons_zero, List.set_cons_succ]
        refine wpAnyE_one (i := 17) (o := { dst := none, op := Op.store 9 (Operand.tmp 38) (Operand.tmp 37), type := 0, pos := "words.go:56", after := #[{ on := 16, ground := Ground.data }, { on := 15, ground := Ground.data }, { on := 0, ground := Ground.phase }, { on := 1, ground := Ground.phase }, { on := 2, ground := Ground.phase }, { on := 3, ground := Ground.phase }, { on := 4, ground := Ground.phase }, { on := 5, ground := Ground.phase }, { on := 6, ground := Ground.phase }, { on := 7, ground := Ground.phase }, { on := 8, ground := Ground.phase }, { on := 9, ground := Ground.phase }, { on := 10, ground := Ground.phase }, { on := 11, ground := Ground.phase }, { on := 12, ground := Ground.phase }, { on := 13, ground := Ground.phase }, { on := 14, ground := Ground.phase }, { on := 15, ground := Ground.phase }], guard := none }) (by kernel_rfl) rfl (fun wy1 hE K hK => ?_)
        have c0 := cellb c0 hE
        have hown := hown.carry hE
        have hbz1 := bthen hbz hE
        clear hE
        have fz : World.frozen? wy1 ⟨g, q.length, none⟩ = false := World.ownsRow.frozenAt (by unfold OwnS at hown; rw [HLN2.out] at hown; exact hown) q.length
        go_simp
        obtain ⟨wx1, hwz⟩ : ∃ v, v = wy1.setCell ⟨g, q.length, none⟩ (.string z) := ⟨_, rfl⟩
        rw [← hwz]
        have hcz1 : Below w.heap.size w wx1 := by rw [hwz]; exact (hbz1).setCell (by exact hge) _
        replace hown : OwnS w.heap.size wx1 (.slice (some ⟨g, 0, none⟩) (q.length + 1) cp) (splitC c (L.take (k + 1))) := by rw [HSN2.out, hwz, HZ.out]; exact OwnS.set hown (p ++ [b])
        clear hwz
        refine hK _ _ (fun h => absurd rfl h) ?_
        clear hK K
        try simp only [Act.put, List.setIfInBounds_toArray, List.set_cons_zero, List.set_cons_succ]
        refine wpAnyE_done (by kernel_rfl) (fun wy2 hE => ?_) _
        have hbz2 := bthen hcz1 hE
        have hown := hown.carry hE
        clear hE
        clear hx
        have hx := hbz2
        obtain ⟨Y1, hY1⟩ : ∃ v, v = wy2 := ⟨_, rfl⟩
        rw [← hY1] at hx hown ⊢
        clear hY1
        go_wp2_with fail
        go_roundw
        case rel => exact ⟨k + 1, by omega, by go_num, hown, hx⟩
        case measure => simp [intOf]; omega
    · obtain rfl : k = n := by omega
      have hta : L.take k = L := List.take_of_length_le (by rw [HL.out]; omega)
      rw [hta] at hown
      clear hta
      go_wp2
      go_ret
      exact ⟨⟨_, rfl, hown⟩, hx⟩
end

section
set_option linter.unusedSimpArgs false
set_option linter.unusedVariables false
open Go.RowKit

/-- blocks outside S, and all that is no row of cells, stand. -/
structure Keep (S : Nat → Prop) (W W' : World) : Prop where
  os : W'.os = W.os
  tape : W'.tape = W.tape
  output : W'.output = W.output
  size : W.heap.size ≤ W'.heap.size
  same : ∀ (k : Nat) (o : Obj), W.heap[k]? = some o → (¬ S k ∨ o.isCells = false) → W'.heap[k]? = some o
theorem Keep.of_below {S : Nat → Prop} {W W' : World} (h : Below W.heap.size W W') : Keep S W W' := ⟨h.os, h.tape, h.output, h.size, fun k o hk _ => (h.block k (Array.getElem?_eq_some_iff.1 hk).1).trans hk⟩
theorem Keep.refl (S : Nat → Prop) (W : World) : Keep S W W := Keep.of_below (Below.refl _ _)
theorem Keep.trans {S : Nat → Prop} {W W1 W2 : World} (h : Keep S W W1) (k : Keep S W1 W2) : Keep S W W2 :=
  ⟨k.os.trans h.os, k.tape.trans h.tape, k.output.trans h.output, Nat.le_trans h.size k.size, fun j o hj hn => k.same j o (h.same j o hj hn) hn⟩
theorem Keep.mono {S S' : Nat → Prop} {W W1 : World} (h : Keep S W W1) (hs : ∀ k, S k → S' k) : Keep S' W W1 :=
  ⟨h.os, h.tape, h.output, h.size, fun j o hj hn => h.same j o hj (hn.imp (fun h e => h (hs _ e)) id)⟩
theorem Keep.setCell {S : Nat → Prop} {W W1 : World} (h : Keep S W W1) {B o : Nat} {T : TypeId} {vs : List Value} (hB : Blk W1 B T vs) (hS : S B) (x : Value) : Keep S W (W1.setCell ⟨B, o, none⟩ x) :=
  ⟨h.os, h.tape, h.output, by simpa using h.size, fun j ob hj hn => by
    have hj1 := h.same j ob hj hn
    refine (Below.heap_setCell _ _ _ _ (fun e => ?_)).trans hj1
    obtain rfl : j = B := by simpa using e
    rcases hn with hn | hn
    · exact hn hS
    · have := hB.symm.trans hj1
      cases this
      cases hn⟩
theorem Keep.grown {S : Nat → Prop} {W W1 W2 : World} (h : Keep S W W1) {row : Option Nat} (hg : W1.grownBy W2 row) (hr : ∀ r, row = some r → S r ∧ ∀ o, W1.heap[r]? = some o → o.isCells = true) : Keep S W W2 :=
  h.trans ⟨hg.1, hg.2, hg.3, hg.size, fun j o hj hn => by
    refine (hg.block j (Array.getElem?_eq_some_iff.1 hj).1 (fun e => ?_)).trans hj
    obtain ⟨h1, h2⟩ := hr j e.symm
    rcases hn with hn | hn
    · exact hn h1
    · have := h2 o hj
      rw [hn] at this; cases this⟩
theorem Keep.below {S : Nat → Prop} {W W1 : World} (h : Keep S W W1) {base : Nat} (hb : ∀ k, k < base → ¬ S k) (hs : base ≤ W.heap.size) : Below base W W1 := ⟨h.os, h.tape, h.output, h.size, fun k hk => by
  have hlt : k < W.heap.size := by omega
  have he : W.heap[k]? = some W.heap[k] := Array.getElem?_eq_getElem hlt
  rw [he]
  exact h.same k _ he (.inl (hb k hk))⟩
theorem Keep.from {S : Nat → Prop} {W W1 : World} (h : Keep S W W1) (B : Nat) : KeepsFrom B W W1 := ⟨h.size, fun k o _ hk ho => h.same k o hk (.inr ho)⟩
theorem Keep.blk {S : Nat → Prop} {W W1 : World} (h : Keep S W W1) {F : Nat} {T : TypeId} {vs : List Value} (hF : Blk W F T vs) (hne : ¬ S F) : Blk W1 F T vs := h.same F _ hF (.inl hne)
theorem Keep.own {S : Nat → Prop} {W W1 : World} (h : Keep S W W1) {base e size n : Nat} {v : Value} {xs : List Value} (ho : W.ownsRow base e size v n xs) (hne : ∀ g, v.ownBlock = some g → ¬ S g) : W1.ownsRow base e size v n xs := by
  obtain ⟨h1, h2⟩ := ho
  refine ⟨h1, ?_⟩
  rcases h2 with h2 | ⟨g, cap, cur, hv, hg, hh, r⟩
  · exact Or.inl h2
  · exact Or.inr ⟨g, cap, cur, hv, hg, h.same g _ hh (.inl (hne g (by rw [hv]; rfl))), r⟩
theorem Vals.set {W : World} {u : Value} {us : List Value} (h : Vals W u us) {B o : Nat} {x : Value} (hne : ∀ b off c, u = .slice (some ⟨b, off, none⟩) us.length c → b ≠ B) : Vals (W.setCell ⟨B, o, none⟩ x) u us := by
  obtain ⟨a, cp, rfl, hc, hv⟩ := h
  refine ⟨a, cp, rfl, hc, fun h0 => ?_⟩
  obtain ⟨b, off, rfl, hcs⟩ := hv h0
  refine ⟨b, off, rfl, fun j y hj => ?_⟩
  rw [World.cell?_setCell_other _ _ _ _ (fun e => hne b off cp rfl (congrArg Addr.block e).symm)]
  exact hcs j y hj
theorem Vals.tail {W : World} {b off cp n : Nat} {x : Value} {us : List Value} (h : Vals W (.slice (some ⟨b, off, none⟩) (n + 1) cp) (x :: us)) (hn : us.length = n) : Vals W (.slice (some ⟨b, off + 1, none⟩) n (cp - 1)) us := by
  obtain ⟨a, c, he, hc, hv⟩ := h
  have hc' : n + 1 ≤ cp := by
    simp only [Value.slice.injEq] at he
    obtain ⟨_, h1, h2⟩ := he
    rw [h1, h2]; exact hc
  obtain ⟨b', off', rfl, hcs⟩ := hv (by simp)
  simp only [Value.slice.injEq, Option.some.injEq, Addr.mk.injEq, and_true] at he
  obtain ⟨⟨rfl, rfl⟩, _, rfl⟩ := he
  refine ⟨some ⟨b, off + 1, none⟩, cp - 1, by rw [hn], by omega, fun _ => ⟨b, off + 1, rfl, fun j y hj => ?_⟩⟩
  rw [show off + 1 + j = off + (j + 1) by omega]
  exact hcs (j + 1) y hj
end


section
set_option linter.unusedSimpArgs false
set_option linter.unusedVariables false
open Go.RowKit

section
variable {α : Type} {F : Fence} {n : Nat} {P : Program}

/-- what an iterator does with its yield: Rw tells which blocks it may write. -/
def SeqR (F : Fence) (n : Nat) (P : Program) (g : Nat) (lb : Array Value) (encs : α → Array Value) (X : List α → α → World → Prop) (Kp : World → World → Prop) (S Sp : List α → Prop) (Rw : Nat → Prop) (w : World) : Prop :=
  ∀ (l : Nat) (J Jx : List α → World → Prop) (W : World), Below w.heap.size w W →
    (∀ pre A B row, J pre A → A.grownBy B row → (∀ r, row = some r → Rw r) → J pre B) → (∀ pre A B, Jx pre A → A.grownBy B none → Jx pre B) →
    (∀ pre x W1, J pre W1 → X pre x W1 → YieldAt F (n - 1) P l (encs x) W1 fun e W' =>
      (e = .returned (.bool true) ∧ J (pre ++ [x]) W' ∧ Kp W1 W') ∨ (e = .returned (.bool false) ∧ Jx (pre ++ [x]) W')) →
    J [] W →
    CallsIn F n P g (#[.func (.yield l) #[] #[]] ++ lb) W fun e W' => (∃ v, e = .returned v) ∧ ((∃ xs, S xs ∧ J xs W') ∨ (∃ pre, Sp pre ∧ Jx pre W'))
theorem Books.growR {D : Nat} {R : LoopState → Option Code → Loop} {st : LoopState} {pe : Option Code} {A B : World} {row : Option Nat} (h : Books D R st pe A) (hg : A.grownBy B row) (hr : ∀ r, row = some r → r < D) : Books D R st pe B :=
  ⟨(hg.block _ (Array.getElem?_eq_some_iff.1 h.1).1 (fun e => by have := hr _ e.symm; omega)).trans h.1, (hg.block _ (Array.getElem?_eq_some_iff.1 h.2).1 (fun e => by have := hr _ e.symm; omega)).trans h.2⟩
theorem wpIn_rangeR {g : Operand} {ps : Array Tmp} {assign body : Code} {Q : Exit → Act → World → Prop} {a : Act} {w : World}
    (hro : F.round = none) (h1 : 1 ≤ n) {gf : Nat} {lb : Array Value} (hg : a.eval g = .func (.func gf) #[] lb) (hFg : F.fn gf) (eg : ∀ args w, (callFunc gf args).run P w = .ok (.enter gf args) w)
    {encs : α → Array Value} {X : List α → α → World → Prop} {Kp : World → World → Prop} {S Sp : List α → Prop} {Rw : Nat → Prop} {w0 : World} (hseq : SeqR F (n - 1) P gf lb encs X Kp S Sp Rw w0) (hRb : ∀ r, Rw r → r < w.heap.size)
    (hKt : ∀ {A B C : World}, Kp A B → Kp B C → Kp A C) (hKb : ∀ (W : World) (l : Nat) (o o' : Obj), w.heap.size ≤ l → W.heap[l]? = some o → o.isCells = false → o.isWalk = false → Kp W (W.putObj l o')) (hb0 : Below w0.heap.size w0 w) (hps : ∀ x, (encs x).size = ps.size)
    (I : List α → World → Prop) (Ix : Code → List α → World → Prop) (hI : OwnFrom w.heap.size I) (hIx : ∀ c, OwnFrom w.heap.size (Ix c)) (h0 : I [] w)
    (hIw : ∀ pre A B r, I pre A → A.grownBy B (some r) → Rw r → I pre B)
    (Ax : List α → α → Act → World → Prop) (hAx : ∀ pre x a', OwnFrom w.heap.size (fun (_ : Unit) W => Ax pre x a' W))
    (hassign : ∀ (l : Nat) (pre : List α) (x : α) (W : World) (K : Act → World → Prop), I pre W → X pre x W → (∀ a' W', KeepsFrom w.heap.size W W' → Kp W W' → I pre W' → Ax pre x a' W' → K a' W') →
      assign.wpIn (F.inRound l) (n - 1 - 1) P (Exit.then K (fun _ _ _ => False)) { tmps := (ps.zip (encs x)).foldl (fun t (p, v) => t.setIfInBounds p v) a.tmps, defers := [] } W)
    (hbody : ∀ (l : Nat) (pre : List α) (x : α) (a' : Act) (W : World), I pre W → Ax pre x a' W → body.wpIn (F.inRound l) (n - 1 - 1) P (ownPostG w.heap.size Kp I Ix (pre ++ [x]) W) a' W)
    (hdone : ∀ (D : Nat) (xs : List α) (W : World), w.heap.size ≤ D → S xs → I xs W → W.heap[D]? = some (.deferred (some [])) → Q .normal { a with defers := { target := .collected D, args := #[] } :: a.defers } W)
    (hstop : ∀ (D : Nat) (c : Code) (pre : List α) (W : World), w.heap.size ≤ D → Sp pre → Ix c pre W → W.heap[D]? = some (.deferred (some [])) → c.wpIn F n P Q { a with defers := { target := .collected D, args := #[] } :: a.defers } W) :
    (Code.rangeFunc g ps assign body).wpIn F n P Q a w := by
  refine wpIn_rangeFunc fun fn hfn => ?_
  rw [hro]
  obtain ⟨R, hR⟩ : ∃ R : LoopState → Option Code → Loop, ∀ st pe, R st pe = { state := st, pending := pe, fn, tmps := a.tmps, params := ps, assign, body, defers := w.heap.size } := ⟨_, fun _ _ => rfl⟩
  obtain ⟨V, hV⟩ : ∃ V, V = (w.alloc (.deferred (some []))).alloc (.loop (R .ready none)) := ⟨_, rfl⟩
  have hen := run_enterLoop_outer (P := P) (w := w) fn a.tmps ps assign body
  rw [← hR, ← hV] at hen
  have hbk : Books w.heap.size R .ready none V := by
    rw [hV]
    refine ⟨?_, (Below.heap_alloc _ _ _ (by simp)).trans (World.alloc_heap_new w _)⟩
    have := World.alloc_heap_new (w.alloc (.deferred (some []))) (.loop (R .ready none))
    rwa [World.size_alloc] at this
  have hbV : Below w0.heap.size w0 V := by
    rw [hV]; exact hb0.trans ((((Below.refl _ w).alloc (Nat.le_refl _) _).alloc (by simp) _).mono hb0.size)
  have hVs : V.heap.size = w.heap.size + 2 := by rw [hV]; simp
  have hIV : I [] V := by rw [hV]; exact hI.alloc _ (hI.alloc _ h0)
  refine ⟨_, _, V, { target := .fn (.func gf) lb, args := #[.func (.yield (w.heap.size + 1)) #[] #[]] }, V, gf, _, V, hen, by simp only [resolve, hg]; simp [go_sem], fun f' hf' => by simp [Target.leads] at hf'; subst hf'; exact hFg, by simp [invoke, go_sem, eg]; rfl, fun _ => h1, ?_⟩
  have turnI : ∀ {W : World} {pre : List α} {st st' : LoopState} {pe pe' : Option Code}, I pre W → Books w.heap.size R st pe W → I pre (W.putObj (w.heap.size + 1) (.loop (R st' pe'))) := fun hi hb => hI.putObj _ hi (by omega) hb.1 rfl
  have turnX : ∀ {W : World} {pre : List α} {c : Code} {st st' : LoopState} {pe pe' : Option Code}, Ix c pre W → Books w.heap.size R st pe W → Ix c pre (W.putObj (w.heap.size + 1) (.loop (R st' pe'))) := fun hi hb => (hIx _).putObj _ hi (by omega) hb.1 rfl
  have turnK : ∀ {W : World} {st st' : LoopState} {pe pe' : Option Code}, Books w.heap.size R st pe W → Kp W (W.putObj (w.heap.size + 1) (.loop (R st' pe'))) := fun hb => hKb _ _ _ _ (by omega) hb.1 rfl rfl
  refine (hseq (w.heap.size + 1) (fun pre W => I pre W ∧ Books w.heap.size R .ready none W) (fun pre W => ∃ c, Ix c pre W ∧ Books w.heap.size R .done (some c) W) V hbV
    (fun pre A B row h hg hr => ⟨by
      cases row with
      | none => exact hI pre A B none h.1 hg (fun r e => by cases e)
      | some r => exact hIw pre A B r h.1 hg (hr r rfl), h.2.growR hg (fun r e => hRb r (hr r e))⟩)
    (fun pre A B ⟨c, h, hb⟩ hg => ⟨c, hIx c pre A B none h hg (fun r e => by cases e), hb.grow hg (fun r e => by cases e)⟩) ?_ ⟨hIV, hbk⟩).mono ?_
  · rintro pre x W ⟨hi, hb⟩ hx
    have hy := run_yield (P := P) (args := encs x) hb.1 (by rw [hR]; exact hps x)
    simp only [hR] at hy
    refine ⟨fn, _, assign, body, hy, roundIn_of_wpIn hfn (hassign _ pre x W _ hi hx fun a' W' hkf hkp hi' hax => ?_)⟩
    have hb' := hb.from hkf
    have hbusy : Books w.heap.size R .busy none (W'.putObj (w.heap.size + 1) (.loop (R .busy none))) := hb'.turn
    have hbg := run_beginRound (P := P) hb'.1 (by rw [hR])
    have e1 : ({ R .ready none with state := .busy } : Loop) = R .busy none := by rw [hR, hR]
    rw [e1] at hbg
    refine ⟨_, hbg, wpIn_mono (hbody _ pre x a' _ (turnI hi' hb') ((hAx pre x a').putObj (s := ()) _ hax (by omega) hb'.1 rfl)) ?_⟩
    have fin : ∀ (jump : Option Code) (W3 : World), Books w.heap.size R .busy none W3 → (Instr.endRound (w.heap.size + 1) jump).run P W3 = .ok (.bool jump.isNone) (W3.putObj (w.heap.size + 1) (.loop (R (if jump.isNone then .ready else .done) jump))) := fun jump W3 h3 => by
      have := run_endRound (P := P) jump h3.1
      rw [this]; congr 3
      rw [hR, hR]
    have stop : ∀ (c : Code) (W3 : World), KeepsFrom w.heap.size (W'.putObj (w.heap.size + 1) (.loop (R .busy none))) W3 → Ix c (pre ++ [x]) W3 → ∃ v w', (Instr.endRound (w.heap.size + 1) (some c)).run P W3 = .ok v w' ∧
        ((Ending.returned v = .returned (.bool true) ∧ (I (pre ++ [x]) w' ∧ Books w.heap.size R .ready none w') ∧ Kp W w') ∨ (Ending.returned v = .returned (.bool false) ∧ ∃ c, Ix c (pre ++ [x]) w' ∧ Books w.heap.size R .done (some c) w')) := fun c W3 hk3 hi3 =>
      ⟨_, _, fin (some c) W3 (hbusy.from hk3), .inr ⟨rfl, c, turnX hi3 (hbusy.from hk3), (hbusy.from hk3).turn⟩⟩
    rintro e a3 W3 hp
    cases e with
    | normal =>
      obtain ⟨hk3, hkp3, hi3⟩ := hp
      exact ⟨_, _, fin none W3 (hbusy.from hk3), .inl ⟨rfl, ⟨turnI hi3 (hbusy.from hk3), (hbusy.from hk3).turn⟩, hKt hkp (hKt (turnK hb') (hKt hkp3 (turnK (hbusy.from hk3))))⟩⟩
    | ret => exact stop _ W3 hp.1 hp.2
    | exit id => exact stop _ W3 hp.1 hp.2
    | goto t => exact stop _ W3 hp.1 hp.2
    | panic ch => exact hp.elim
    | outgrown => exact hp.elim
  · have fin : ∀ (st : LoopState) (pe : Option Code) (W3 : World), st ≠ .busy → Books w.heap.size R st pe W3 → (Instr.endLoop (w.heap.size + 1)).run P W3 = .ok pe (W3.putObj (w.heap.size + 1) (.loop (R .exhausted pe))) := fun st pe W3 hst h3 => by
      have := run_endLoop (P := P) h3.1 (by rw [hR]; exact hst)
      rw [this]
      simp only [hR]
    rintro e W2 ⟨⟨v, rfl⟩, ⟨xs, hS, hi, hb⟩ | ⟨pre, hSp, c, hi, hb⟩⟩
    · exact ⟨none, _, fin _ _ _ (by simp) hb, hdone _ xs _ (Nat.le_refl _) hS (turnI hi hb) (hb.turn (st' := .exhausted) (pe' := none)).2⟩
    · exact ⟨some c, _, fin _ _ _ (by simp) hb, hstop _ c pre _ (Nat.le_refl _) hSp (turnX hi hb) (hb.turn (st' := .exhausted) (pe' := some c)).2⟩
end

theorem wp_rangeR {δ : Type} {P : Program} {g : Operand} {p s : Nat} {assign body : Code} {Q : Exit → Act → World → Prop} {a : Act} {w : World}
    {gf : Nat} {lb : Array Value} (hg : a.eval g = .func (.func gf) #[] lb) (eg : ∀ args w, (callFunc gf args).run P w = .ok (.enter gf args) w)
    {X : List (Value × δ) → Value × δ → World → Prop} {Kp : World → World → Prop} {S Sp : List (Value × δ) → Prop} {Rw : Nat → Prop} {w0 : World} (hseq : SeqR Fence.wide 4 P gf lb (fun x => #[x.1]) X Kp S Sp Rw w0) (hRb : ∀ r, Rw r → r < w.heap.size)
    (hKt : ∀ {A B C : World}, Kp A B → Kp B C → Kp A C) (hKb : ∀ (W : World) (l : Nat) (o o' : Obj), w.heap.size ≤ l → W.heap[l]? = some o → o.isCells = false → o.isWalk = false → Kp W (W.putObj l o')) (hKr : ∀ W, Kp W W) (hb0 : Below w0.heap.size w0 w)
    (I : List (Value × δ) → World → Prop) (Ix : Code → List (Value × δ) → World → Prop) (hI : OwnFrom w.heap.size I) (hIx : ∀ c, OwnFrom w.heap.size (Ix c)) (h0 : I [] w)
    (hIw : ∀ pre A B r, I pre A → A.grownBy B (some r) → Rw r → I pre B)
    (hX : ∀ pre, OwnFrom w.heap.size (X pre))
    (hassign : ∀ (l : Nat) (v : Value) (W : World) (K : Act → World → Prop), K { tmps := (a.tmps.setIfInBounds p v).setIfInBounds s v, defers := [] } W →
      assign.wpIn (Fence.wide.inRound l) 3 P (Exit.then K (fun _ _ _ => False)) { tmps := a.tmps.setIfInBounds p v, defers := [] } W)
    (hbody : ∀ (l : Nat) (pre : List (Value × δ)) (x : Value × δ) (W : World), I pre W → X pre x W → body.wpIn (Fence.wide.inRound l) 3 P (ownPostG w.heap.size Kp I Ix (pre ++ [x]) W) { tmps := (a.tmps.setIfInBounds p x.1).setIfInBounds s x.1, defers := [] } W)
    (hdone : ∀ (D : Nat) (xs : List (Value × δ)) (W : World), w.heap.size ≤ D → S xs → I xs W → W.heap[D]? = some (.deferred (some [])) → Q .normal { a with defers := { target := .collected D, args := #[] } :: a.defers } W)
    (hstop : ∀ (D : Nat) (c : Code) (pre : List (Value × δ)) (W : World), w.heap.size ≤ D → Sp pre → Ix c pre W → W.heap[D]? = some (.deferred (some [])) → c.wp P Q { a with defers := { target := .collected D, args := #[] } :: a.defers } W) :
    (Code.rangeFunc g #[p] assign body).wp P Q a w :=
  (wpIn_wide (n := 5)).1 (wpIn_rangeR rfl (by omega) hg trivial eg hseq hRb hKt hKb hb0 (fun _ => rfl) I Ix hI hIx h0 hIw
    (fun pre x a' W => a' = { tmps := (a.tmps.setIfInBounds p x.1).setIfInBounds s x.1, defers := [] } ∧ X pre x W) (fun pre x a' _ A B row hs hg hr => ⟨hs.1, hX pre x A B row hs.2 hg hr⟩)
    (fun l pre x W K hi hx hK => by
      have e : ((#[p].zip #[x.1]).foldl (fun t (p, v) => t.setIfInBounds p v) a.tmps) = a.tmps.setIfInBounds p x.1 := by simp
      rw [e]; exact hassign l x.1 W K (hK _ _ (KeepsFrom.refl _ _) (hKr W) hi ⟨rfl, hx⟩))
    (fun l pre x a' W hi ⟨e, hx⟩ => by subst e; exact hbody l pre x W hi hx) hdone (fun D c pre W h1 h2 h3 h4 => wpIn_wide.2 (hstop D c pre W h1 h2 h3 h4)))
end

section
set_option linter.unusedSimpArgs false
set_option linter.unusedVariables false
open Go.RowKit

attribute [local go_sem] Oper.semAt_some
def strAt (W : World) (B : Nat) : Nat := match W.cell? ⟨B, 0, none⟩ with
  | some (.string s) => s.size
  | _ => 0
/-- the text that is left lies in its block. -/
def Left (W : World) (B : Nat) (l : List UInt8) : Prop := Blk W B 9 [strV l]
theorem indexByte_in (s : ByteArray) (c : Int) (w : World) : Calls Tryz.prog 84 #[.string s, .int .u8 c] w fun e w' => e = .returned (.int .i64 (Lib.indexByte s.data.toList c.toNat.toUInt8)) ∧ w' = w := Tryz.strings_IndexByte s c w
theorem set_grown_drew {W : World} {B : Nat} {T : TypeId} {vs : List Value} (h : Blk W B T vs) (x : Value) : W.grownBy (W.setCell ⟨B, 0, none⟩ x).drew (some B) :=
  ⟨rfl, rfl, rfl, by simp [World.drew], fun k _ hk => Below.heap_setCell _ _ _ _ (fun e => hk (by simp [e]))⟩
theorem set_grown {W : World} {B : Nat} {T : TypeId} {vs : List Value} (h : Blk W B T vs) (x : Value) : W.grownBy (W.setCell ⟨B, 0, none⟩ x) (some B) :=
  ⟨rfl, rfl, rfl, by simp, fun k _ hk => Below.heap_setCell _ _ _ _ (fun e => hk (by simp [e]))⟩
set_option maxRecDepth 100000 in
set_option maxHeartbeats 4000000 in
theorem lines1_in (n : Nat) (hn : 1 ≤ n) (l Bs : Nat) (L : List UInt8) (hl : L.length ≤ 1000000) (J Jx : List (Value × List UInt8) → World → Prop)
    (hJ : ∀ pre A B, J pre A → A.grownBy B (some Bs) → J pre B)
    (hY : ∀ pre x W, J pre W → (x.1 = strV x.2 ∧ ∃ post, pre.map Prod.snd ++ x.2 :: post = linesL L) → YieldAt Fence.wide (n - 1) Tryz.prog l #[x.1] W fun e W' =>
      (e = .returned (.bool true) ∧ J (pre ++ [x]) W' ∧ W'.heap[Bs]? = W.heap[Bs]?) ∨ (e = .returned (.bool false) ∧ Jx (pre ++ [x]) W'))
    (W : World) (hBs : Left W Bs L) (h00 : J [] W) :
    CallsIn Fence.wide n Tryz.prog 83 #[.func (.yield l) #[] #[], .pointer (some ⟨Bs, 0, none⟩)] W fun e W' => (∃ v, e = .returned v) ∧
      ((∃ xs, xs.map Prod.snd = linesL L ∧ J xs W') ∨ (∃ pre, (∃ post, pre.map Prod.snd ++ post = linesL L) ∧ Jx pre W')) := by
  refine callsIn_of_wp Tryz.func83 rfl trivial ?_ rfl
  simp only [Tryz.ntmps83, List.size_toArray, List.length_cons, List.length_nil, Nat.reduceAdd, Nat.reduceSub, Array.replicate_succ, Array.replicate_zero, List.push_toArray, List.append_toArray, List.nil_append, List.cons_append]
  have hwf : ∀ f, Fence.wide.fn f := fun _ => trivial
  gi_wp2
  gi_loopw [3] (fun r wr => ∃ (pre : List (Value × List UInt8)) (rest : List UInt8), pre.map Prod.snd ++ linesL rest = linesL L ∧ rest.length ≤ 1000000 ∧ J pre wr ∧ Left wr Bs rest)
    (fun _ wr => strAt wr Bs)
  case atStart => exact ⟨[], L, rfl, hl, h00, hBs⟩
  case round =>
    clear hBs h00
    obtain ⟨pre, rest, hpre, hrl, hj, hb⟩ := hrel
    have c0 : wr.cell? ⟨Bs, 0, none⟩ = some (.string ⟨rest.toArray⟩) := hb.cell (j := 0) rfl
    have HP := Lib.hid hpre
    clear hpre
    have hsz : (⟨rest.toArray⟩ : ByteArray).size = rest.length := mk_size rest
    by_cases hlt : rest = []
    · subst hlt
      have HP2 := Lib.hid (show pre.map Prod.snd = linesL L by rw [← HP.out, linesL_nil, List.append_nil])
      clear hY
      gi_wp2
      go_end0
      exact ⟨⟨_, rfl⟩, .inl ⟨pre, HP2.out, hj⟩⟩
    · have hlt' : 0 < rest.length := List.length_pos_iff.2 hlt
      have hlt2 : (0 : Int) < (rest.length : Int) := by omega
      have HIB := Lib.hid ((callsIn_wide (n := n - 1)).2 (indexByte_in ⟨rest.toArray⟩ 10 wr))
      have hfz := hb.frozen 0
      by_cases hi : Lib.indexByte rest 10 = -1
      · have HLN := Lib.hid (linesL_none (index_none hi) hlt)
        have hi2 : Lib.indexByte (⟨rest.toArray⟩ : ByteArray).data.toList (10 : Int).toNat.toUInt8 = -1 := hi
        rw [hi2] at HIB
        clear hi hi2
        have HLE := Lib.hid (show (linesL ([] : List UInt8)) = [] from linesL_nil)
        have hb2 : Left (wr.setCell ⟨Bs, 0, none⟩ (.string ⟨#[]⟩)) Bs [] := Blk.set hb 0 (.string ⟨#[]⟩)
        have hj2 : J pre (wr.setCell ⟨Bs, 0, none⟩ (.string ⟨#[]⟩)) := hJ _ _ _ hj (set_grown hb _)
        obtain ⟨W2, hW2⟩ : ∃ v, v = wr.setCell ⟨Bs, 0, none⟩ (.string ⟨#[]⟩) := ⟨_, rfl⟩
        rw [← hW2] at hb2 hj2
        obtain ⟨fn, tmps, assign, body, hy, hR⟩ := hY pre (strV rest, rest) W2 hj2 ⟨rfl, [], by rw [← HP.out, HLN.out]⟩
        have HR := Lib.hid hR
        have HY := Lib.hid hy
        have HW2 := Lib.hid hW2
        clear hY hR hy hj hW2
        have hy : Sem.run Tryz.prog (Instr.yield l #[.string ⟨rest.toArray⟩]) W2 = .ok (.round l fn tmps assign body) W2 := HY.out
        rw [HW2.out] at hy
        gi_wp2_with (first | (gi_at_call 84; refine HIB.out.mono ?_; rintro e w1 ⟨rfl, rfl⟩))
        rw [← HW2.out]
        refine HR.out.mono ?_
        rintro e W3 (⟨rfl, hj3, hk3⟩ | ⟨rfl, hjx⟩)
        · have hb3 : Left W3 Bs [] := hk3.trans hb2
          gi_wp2
          go_roundw
          case rel => exact ⟨_, [], by rw [List.map_append, HLE.out, List.append_nil, ← HP.out, HLN.out]; rfl, by simp, hj3, hb3⟩
          case measure =>
            have e1 := hb3.cell (j := 0) (v := .string ⟨#[]⟩) rfl
            simp only [strAt, e1, c0, hsz]
            exact hlt'
        · gi_wp2
          refine bodyPost_ret (results_none rfl _ _ _) rfl ?_
          exact ⟨⟨_, rfl⟩, .inr ⟨_, ⟨[], by rw [List.map_append, List.append_nil, ← HP.out, HLN.out]; rfl⟩, hjx⟩⟩
      · have hge := Lib.indexByte_ge rest 10
        obtain ⟨o, ho⟩ : ∃ o : Nat, Lib.indexByte rest 10 = o := ⟨(Lib.indexByte rest 10).toNat, by omega⟩
        obtain ⟨hnm, hsp⟩ := index_hit ho
        have hol : o < rest.length := by
          have h1 := (Lib.indexByte_some ho).1
          exact (List.getElem?_eq_some_iff.1 h1).1
        have hi2 : Lib.indexByte (⟨rest.toArray⟩ : ByteArray).data.toList (10 : Int).toNat.toUInt8 = (o : Int) := ho
        rw [hi2] at HIB
        have hln := linesL_hit (r := rest.drop (o + 1)) hnm
        rw [← hsp] at hln
        have HLN := Lib.hid hln
        have HX1 := Lib.hid (show (⟨rest.toArray⟩ : ByteArray).extract 0 (o + 1) = ⟨(rest.take o ++ [10]).toArray⟩ from baEq (by
          rw [Lib.extract_from_zero]
          show rest.take (o + 1) = rest.take o ++ [10]
          rw [List.take_add_one, (Lib.indexByte_some ho).1]; rfl))
        have HX2 := Lib.hid (show (⟨rest.toArray⟩ : ByteArray).extract (o + 1) rest.length = ⟨(rest.drop (o + 1)).toArray⟩ from baEq (by
          have := Lib.extract_to_end (⟨rest.toArray⟩ : ByteArray) (o + 1)
          rw [hsz] at this
          exact this))
        clear hi2 hln hnm hsp ho hge hi
        have hb2 : Left (wr.setCell ⟨Bs, 0, none⟩ (strV (rest.drop (o + 1)))).drew Bs (rest.drop (o + 1)) := Blk.set hb 0 _
        have hj2 : J pre (wr.setCell ⟨Bs, 0, none⟩ (strV (rest.drop (o + 1)))).drew := hJ _ _ _ hj (set_grown_drew hb _)
        obtain ⟨W2, hW2⟩ : ∃ v, v = (wr.setCell ⟨Bs, 0, none⟩ (strV (rest.drop (o + 1)))).drew := ⟨_, rfl⟩
        rw [← hW2] at hb2 hj2
        obtain ⟨fn, tmps, assign, body, hy, hR⟩ := hY pre (strV (rest.take o ++ [10]), rest.take o ++ [10]) W2 hj2 ⟨rfl, linesL (rest.drop (o + 1)), by rw [← HP.out, HLN.out]⟩
        have HR := Lib.hid hR
        have HY := Lib.hid hy
        have HW2 := Lib.hid hW2
        clear hY hR hy hj hW2
        have v1 : IntKind.i64.wrap ((o : Int) + 1) = (o : Int) + 1 := IntWalk.i64_in _ (by omega)
        have d1 : (o : Int) + 1 ≤ (rest.length : Int) := by omega
        have d2 : (0 : Int) ≤ (o : Int) + 1 := by omega
        gi_wp2_with (first | (gi_at_call 84; refine HIB.out.mono ?_; rintro e w1 ⟨rfl, rfl⟩))
        gi_region
        rw [HX1.out, HX2.out]
        rw [← HW2.out]
        have hy : Sem.run Tryz.prog (Instr.yield l #[.string ⟨(rest.take o ++ [10]).toArray⟩]) W2 = .ok (.round l fn tmps assign body) W2 := HY.out
        gi_wp2
        refine HR.out.mono ?_
        rintro e W3 (⟨rfl, hj3, hk3⟩ | ⟨rfl, hjx⟩)
        · have hb3 : Left W3 Bs (rest.drop (o + 1)) := hk3.trans hb2
          gi_wp2
          go_roundw
          case rel => exact ⟨_, rest.drop (o + 1), by rw [List.map_append, List.append_assoc, ← HP.out, HLN.out]; rfl, by rw [List.length_drop]; omega, hj3, hb3⟩
          case measure =>
            have e1 := hb3.cell (j := 0) (v := strV (rest.drop (o + 1))) rfl
            simp only [strAt, e1, c0, hsz, mk_size, List.length_drop]
            omega
        · gi_wp2
          refine bodyPost_ret (results_none rfl _ _ _) rfl ?_
          exact ⟨⟨_, rfl⟩, .inr ⟨_, ⟨linesL (rest.drop (o + 1)), by rw [List.map_append, List.append_assoc, ← HP.out, HLN.out]; rfl⟩, hjx⟩⟩
end

section
set_option linter.unusedSimpArgs false
set_option linter.unusedVariables false
open Go.RowKit

/-- what a map of one entry answers. -/
theorem lookup_one {P : Program} {w : World} {t kt et : TypeId} (hm : P.underlying t = some (.map kt et)) (hk : P.underlying kt = some .string) {r born clock : Nat} {s0 : ByteArray} {val z : Value}
    (hb : w.heap[r]? = some (.map #[{ key := .string s0, val := val, born := born }] clock)) (hz : (zeroValue et).run P w = .ok z w) (k : ByteArray) :
    (Instr.lookup t (.map (some r)) (.string k) true).run P w = .ok (if k = s0 then .tuple #[val, .bool true] else .tuple #[z, .bool false]) w := by
  have hc : (Instr.checkKey false 10000 kt (.string k)).run P w = .ok () w := MapKept.run_checkKey (k := .string k) hk (by simp [MapKept.IsKey]) false 9999
  by_cases h : k = s0
  · subst h
    have hf : Instr.findNow .string (.string k) [{ key := .string k, val := val, born := born }] 0 = some (some (0, val)) := by simp [Instr.findNow, Instr.sameNow, beq_data]
    simp [Instr.lookup, run_underlying hm, MapKept.run_getObj_map hb, hc, MapKept.run_findKey hk hf, Result.andThen]
  · have hf : Instr.findNow .string (.string k) [{ key := .string s0, val := val, born := born }] 0 = some none := by simp [Instr.findNow, Instr.sameNow, beq_data, h]
    simp [Instr.lookup, run_underlying hm, MapKept.run_getObj_map hb, hc, MapKept.run_findKey hk hf, Result.andThen, hz, h]
end

section
set_option linter.unusedSimpArgs false
set_option linter.unusedVariables false
open Go.RowKit

theorem ownsRow_neB {W : World} {base : Nat} {e : TypeId} {size : Nat} {v : Value} {k : Nat} {xs : List Value} (h : W.ownsRow base e size v k xs) {j : Nat} {T : TypeId} {vs : List Value} (hj : Blk W j T vs) (hT : T ≠ e) : v.ownBlock ≠ some j := by
  intro hb
  rcases h.2 with ⟨rfl, _⟩ | ⟨g, cap, cur, rfl, _, hg, _⟩
  · simp [Value.ownBlock] at hb
  · obtain rfl : g = j := by simpa [Value.ownBlock] using hb
    have := hg.symm.trans hj
    simp at this
    exact hT this.2.symm
theorem ownsRow_sl {w : World} {base e size n : Nat} {v : Value} {xs : List Value} (h : w.ownsRow base e size v n xs) : ∃ a cap, v = .slice a n cap := by
  rcases h.2 with ⟨rfl, rfl⟩ | ⟨g, cap, cur, rfl, _⟩
  · exact ⟨_, _, rfl⟩
  · exact ⟨_, _, rfl⟩
theorem ownsRow_setO {w : World} {base e size n B j : Nat} {v x : Value} {xs : List Value} (h : w.ownsRow base e size v n xs) (hB : B < base) : (w.setCell ⟨B, j, none⟩ x).ownsRow base e size v n xs := by
  obtain ⟨h1, h2⟩ := h
  refine ⟨h1, ?_⟩
  rcases h2 with h2 | ⟨g, cap, cur, hv, hg, hh, r⟩
  · exact Or.inl h2
  · exact Or.inr ⟨g, cap, cur, hv, hg, (Below.heap_setCell _ _ _ _ (by simp; omega)).trans hh, r⟩
theorem ownsRow_cells {W : World} {base : Nat} {e : TypeId} {size : Nat} {v : Value} {k : Nat} {xs : List Value} (h : W.ownsRow base e size v k xs) {j : Nat} {o : Obj} (hj : v.ownBlock = some j) (ho : W.heap[j]? = some o) : o.isCells = true := by
  rcases h.2 with ⟨rfl, _⟩ | ⟨g, cap, cur, rfl, _, hg, _⟩
  · simp [Value.ownBlock] at hj
  · obtain rfl : g = j := by simpa [Value.ownBlock] using hj
    have := hg.symm.trans ho
    cases this
    rfl
theorem below_gr {H : Nat} {A B : World} {row : Option Nat} (hg : A.grownBy B row) (hr : ∀ r, row = some r → H ≤ r) (hs : H ≤ A.heap.size) : Below H A B :=
  ⟨hg.1, hg.2, hg.3, hg.size, fun k hk => hg.block k (by omega) (fun e => by have := hr k e.symm; omega)⟩
end

section
set_option linter.unusedSimpArgs false
set_option linter.unusedVariables false
open Go.RowKit

def MaxL (W : World) : Prop := ∃ m, W.cell? ⟨2, 0, none⟩ = some (.int .i64 m)
theorem MaxL.carry {W W' : World} (h : MaxL W) (hb : Below W.heap.size W W') : MaxL W' := by
  obtain ⟨m, hm⟩ := h
  exact ⟨m, cellb hm hb⟩
theorem cut_any (l : List UInt8) (W : World) (hl : l.length ≤ 1000000) :
    Calls Tryz.prog 41 #[strV l, .string ⟨#[10]⟩] W fun e w' => e = .returned (.tuple #[strV (bodyL l), .bool (endsL l)]) ∧ w' = W := by
  have h := Tryz.strings_CutSuffix ⟨l.toArray⟩ ⟨#[10]⟩ W (by rw [mk_size]; omega)
  rw [show Lib.trimSuffix (⟨l.toArray⟩ : ByteArray).data.toList (⟨#[10]⟩ : ByteArray).data.toList = bodyL l from trim_one l, show Lib.hasSuffix (⟨l.toArray⟩ : ByteArray).data.toList (⟨#[10]⟩ : ByteArray).data.toList = endsL l from suffix_one l] at h
  exact h
theorem pieces_one (l : List UInt8) : (Lib.splitB ⟨#[32]⟩ 0 (Lib.countB ⟨l.toArray⟩ ⟨#[32]⟩) ⟨l.toArray⟩).map Value.string = (splitC 32 l).map strV := by
  have h := Lib.splitB_data ⟨#[32]⟩ 0 (Lib.countB ⟨l.toArray⟩ ⟨#[32]⟩) ⟨l.toArray⟩
  have h2 : Lib.splitK [32] 0 (Lib.countB ⟨l.toArray⟩ ⟨#[32]⟩) l = splitC 32 l := split_one 32 l
  rw [show Lib.splitK (⟨#[32]⟩ : ByteArray).data.toList 0 (Lib.countB ⟨l.toArray⟩ ⟨#[32]⟩) (⟨l.toArray⟩ : ByteArray).data.toList = splitC 32 l from h2] at h
  rw [← h, List.map_map]
  apply List.map_congr_left
  intro b _
  show Value.string b = strV b.data.toList
  exact congrArg Value.string (baEq rfl)
theorem splitW_any (l : List UInt8) (W : World) (hl : l.length ≤ 1000000) (hM : MaxL W) :
    Calls Tryz.prog 42 #[strV l, .string ⟨#[32]⟩] W fun e W' => e = .returned (.slice (some ⟨W.heap.size, 0, none⟩) (splitC 32 l).length (splitC 32 l).length) ∧ Blk W' W.heap.size 9 ((splitC 32 l).map strV) ∧ Below W.heap.size W W' := by
  obtain ⟨m, hm⟩ := hM
  have h := Tryz.strings_Split ⟨l.toArray⟩ ⟨#[32]⟩ m W (by rw [mk_size]; omega) hm (by decide)
  have hp := pieces_one l
  have hc : Lib.countB ⟨l.toArray⟩ ⟨#[32]⟩ + 1 = (splitC 32 l).length := by
    rw [splitC_length]
    show Lib.count l [32] + 1 = _
    rw [Lib.count_one]
  rw [hp, hc] at h
  refine h.mono ?_
  rintro e W' ⟨rfl, rfl⟩
  exact ⟨rfl, Blk.new _ _ _, below_new _ _⟩
theorem Vals.of_blk {W : World} {B : Nat} {T : TypeId} {us : List Value} (h : Blk W B T us) : Vals W (.slice (some ⟨B, 0, none⟩) us.length us.length) us :=
  ⟨some ⟨B, 0, none⟩, us.length, rfl, Nat.le_refl _, fun _ => ⟨B, 0, rfl, fun j u hj => by rw [Nat.zero_add]; exact h.cell hj⟩⟩
theorem blk_own {W W' : World} {row : Option Nat} {k : Nat} {T : TypeId} {vs : List Value} (hb : Blk W k T vs) (hg : W.grownBy W' row) (hr : ∀ r, row = some r → r ≠ k) : Blk W' k T vs :=
  (hg.block k (Array.getElem?_eq_some_iff.1 hb).1 (fun e => hr k e.symm rfl)).trans hb
theorem own_own {W W' : World} {row : Option Nat} {base e size n : Nat} {v : Value} {xs : List Value} (ho : W.ownsRow base e size v n xs) (hg : W.grownBy W' row) (hr : ∀ r g, row = some r → v.ownBlock = some g → r ≠ g) : W'.ownsRow base e size v n xs := by
  obtain ⟨h1, h2⟩ := ho
  refine ⟨h1, ?_⟩
  rcases h2 with h2 | ⟨g, cap, cur, hv, hg', hh, r⟩
  · exact Or.inl h2
  · exact Or.inr ⟨g, cap, cur, hv, hg', (hg.block g (Array.getElem?_eq_some_iff.1 hh).1 (fun e => hr g g e.symm (by rw [hv]; rfl) rfl)).trans hh, r⟩
theorem ne_of_blk {W : World} {k r : Nat} {T : TypeId} {vs : List Value} (hb : Blk W k T vs) (hr : ∃ o : Obj, W.heap[r]? = some o ∧ o.isCells = false) : r ≠ k := by
  rintro rfl
  obtain ⟨o, ho, hc⟩ := hr
  have := hb.symm.trans ho
  cases this
  cases hc
theorem below_grown {H : Nat} {w A B : World} {row : Option Nat} (h : Below H w A) (hg : A.grownBy B row) (hr : ∀ r, row = some r → H ≤ r) (hs : H ≤ w.heap.size) : Below H w B :=
  h.trans ⟨hg.1, hg.2, hg.3, hg.size, fun k hk => hg.block k (by have := h.size; omega) (fun e => by have := hr k e.symm; omega)⟩
theorem lines_any (s : ByteArray) (w : World) :
    Calls Tryz.prog 40 #[.string s] w fun e w' => e = .returned (.func (.func 83) #[] #[.pointer (some ⟨w.heap.size, 0, none⟩)]) ∧ w.alloc (.cells #[.string s] 9) = w' := by
  go_enter Tryz.func40, Tryz.ntmps40
  go_wp2
  go_ret
  exact ⟨rfl, rfl⟩
theorem lines_seq (n : Nat) (hn : 1 ≤ n) (Bs : Nat) (L : List UInt8) (hl : L.length ≤ 1000000) (w : World) (hBs : Left w Bs L) :
    SeqR Fence.wide n Tryz.prog 83 #[.pointer (some ⟨Bs, 0, none⟩)] (fun x : Value × List UInt8 => #[x.1]) (fun pre x _ => x.1 = strV x.2 ∧ ∃ post, pre.map Prod.snd ++ x.2 :: post = linesL L) (fun A B => B.heap[Bs]? = A.heap[Bs]?)
      (fun xs => xs.map Prod.snd = linesL L) (fun pre => ∃ post, pre.map Prod.snd ++ post = linesL L) (fun r => r = Bs) w :=
  fun l J Jx W hW hJ _ hY h00 => (lines1_in n hn l Bs L hl J Jx (fun pre A B h hg => hJ pre A B (some Bs) h hg (fun r e => by cases e; rfl)) hY W (hBs.carry hW) h00)
end


end Go.Proofs.YtfdehcphmmhjaaaGreatDoor

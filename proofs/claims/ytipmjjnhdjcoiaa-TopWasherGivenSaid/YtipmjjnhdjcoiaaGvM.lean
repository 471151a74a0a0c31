/- Package flow: Merged. -/
import Derived.Test.YtipmjjnhdjcoiaaGvO
namespace Go.Proofs.Ytipmjjnhdjcoiaa
set_option linter.unusedSimpArgs false
set_option linter.unusedVariables false
open Go.RowKit Go.Maps Go.Sort Go.ChangeShapes

theorem Try.undMapB : Try.prog.underlying 68 = some (.map 3 4) := by kernel_rfl
theorem ranges_iter {H : Type} {P : Program} {w : World} {k : TypeId} {R : Value → Option (DataW H × List MemPlace)} {b r n cnt : Nat} {D : DataW H} {left : Lit → Bool} (h : w.ranges P k R b r n D left cnt) : ∃ o : Obj, w.heap[r]? = some o ∧ o.isCells = false := by
  obtain ⟨es, clock, since, seen, c0, _, _, _, _, hr, _⟩ := h
  exact ⟨_, hr, rfl⟩
theorem tk_mem {l : List P2} {t : Int} {y : DataW Unit} (h : ∀ zd, (tkD l).atKey (.int .i64 t) zd = y) : t ∈ ticksL l := by
  by_cases hm : t ∈ ticksL l
  · exact hm
  · have hn : has (tkD l) (.int .i64 t) = false := by rw [has_tkD]; exact decide_eq_false hm
    have h1 := h (.lit (.int .i64 0))
    have h2 := h (.lit (.bool true))
    rw [atKey_of_not_has hn] at h1 h2
    rw [← h1] at h2
    cases h2
/-- the blocks of a map are no cells. -/
theorem map_nocells {w : World} {b n : Nat} {D : DataW Unit} {P : Program} {k : TypeId} {R : Value → Option (DataW Unit × List MemPlace)} (h : w.ownsMap P k R b n D) : ∃ o : Obj, w.heap[b]? = some o ∧ o.isCells = false := by
  obtain ⟨es, clock, hb, _⟩ := h
  exact ⟨_, hb, rfl⟩
/-- in orders that are joined. -/
theorem mem_rng {a b : List P2} (ha : OdOk a) (hb : OdOk b) {x : P2} (h : x ∈ a ++ b) : 0 ≤ x.1 ∧ x.1 ≤ 100000 := by
  rcases List.mem_append.1 h with h | h
  · exact (ha.mem h).1
  · exact (hb.mem h).1
set_option maxRecDepth 100000 in
set_option maxHeartbeats 8000000 in
theorem Merged_any (v1 v2 : Value) (a b : List P2) (w : World) (h1 : Prs w v1 a) (h2 : Prs w v2 b) (ha : OdOk a) (hb : OdOk b) (hla : a.length ≤ 6) (hlb : b.length ≤ 6) :
    Calls Try.prog 9 #[v1, v2] w fun r w' => (∃ u e, r = .returned (.tuple #[u, .int .i64 e]) ∧ ((lrgB a b = true ∧ e = 4) ∨ (lrgB a b = false ∧ e = 0 ∧ Prs w' u (mrgL a b)))) ∧ Below w.heap.size w w' := by
  have T1 := Lib.hid (fun W (h : Prs W v1 a) => CheckOrdersF_ok v1 a W h ha)
  have T2 := Lib.hid (fun W (h : Prs W v2 b) => CheckOrdersF_ok v2 b W h hb)
  have A1 := Lib.hid (fun t W (h : Prs W v1 a) => asked_any v1 a t W (by omega) h)
  have A2 := Lib.hid (fun t W (h : Prs W v2 b) => asked_any v2 b t W (by omega) h)
  have HV1 := Lib.hid h1
  have HV2 := Lib.hid h2
  have HRA := Lib.hid (fun t => askL_rng (l := a) (a := -1000) (b := 1000) (by omega) (fun x hx => (ha.mem hx).2) t)
  have HRB := Lib.hid (fun t => askL_rng (l := b) (a := -1000) (b := 1000) (by omega) (fun x hx => (hb.mem hx).2) t)
  have HMR := Lib.hid (fun x (h : x ∈ a ++ b) => mem_rng ha hb h)
  have hml := mrgL_len a b
  have HML := Lib.hid (show (mrgL a b).length ≤ 12 by omega)
  have hmm := @run_makeMap Try.prog
  obtain ⟨s1, c1, rfl, -⟩ := h1.slice
  obtain ⟨s2, c2, rfl, -⟩ := h2.slice
  obtain ⟨n1, hn1⟩ : ∃ n, n = a.length := ⟨_, rfl⟩
  obtain ⟨n2, hn2⟩ : ∃ n, n = b.length := ⟨_, rfl⟩
  rw [← hn1] at HV1 T1 A1 hla ⊢
  rw [← hn2] at HV2 T2 A2 hlb ⊢
  have HN := Lib.hid (show (a ++ b).length = n1 + n2 by rw [List.length_append, hn1, hn2])
  clear h1 h2 ha hb hml hn1 hn2
  go_enter Try.func9, Try.ntmps9
  go_wp2_with fail
  refine (T1.out w HV1.out).mono ?_
  rintro e w2 ⟨rfl, hb2⟩
  go_wp2_with fail
  refine (T2.out w2 (HV2.out.carry hb2)).mono ?_
  rintro e w3 ⟨rfl, hb3⟩
  have hB := bthen hb2 hb3
  clear hb2 hb3 T1 T2
  go_wp2_with fail
  have hz2 := zero2F (.slice (some ⟨w3.heap.size, 0, none⟩) 2 2) (w3.alloc (.cells #[.int .i64 0, .int .i64 0] 36)) (Ints.lit w3 _ [0, 0] 2 rfl)
  have hB := bthen hB (below_new w3 (.cells #[.int .i64 0, .int .i64 0] 36))
  obtain ⟨W5, hW5⟩ : ∃ W, W = w3.alloc (.cells #[.int .i64 0, .int .i64 0] 36) := ⟨_, rfl⟩
  rw [← hW5] at hz2 hB ⊢
  refine hz2.mono ?_
  rintro e w4 ⟨rfl, rfl⟩
  clear hz2 hW5
  go_upto_region 5 with fail
  have hown := World.ownsMap_made W5 Try.prog 3 (plainElem (H := Unit) Try.prog 4)
  have hMw := hB.size
  have hB := bthen hB (below_new W5 (.map #[] 0))
  have hlt5 := hown.lt
  obtain ⟨MB, hMB⟩ : ∃ m, m = W5.heap.size := ⟨_, rfl⟩
  obtain ⟨W6, hW6⟩ : ∃ W, W = W5.alloc (.map #[] 0) := ⟨_, rfl⟩
  rw [← hMB] at hMw
  rw [← hMB, ← hW6] at hown hlt5
  rw [← hW6] at hB
  rw [← hMB, ← hW6]
  clear hW6 hMB
  have iL := Blk.new W6 31 [.slice s1 n1 c1, .slice s2 n2 c2]
  have kn := below_new W6 (.cells #[.slice s1 n1 c1, .slice s2 n2 c2] 31)
  have tx := Concat2_any W6.heap.size s1 s2 n1 c1 n2 c2 a b (W6.alloc (.cells #[.slice s1 n1 c1, .slice s2 n2 c2] 31)) (iL.cell (j := 0) rfl) (iL.cell (j := 1) rfl) ((HV1.out.carry hB).carry kn) ((HV2.out.carry hB).carry kn) (by omega)
  have TX := Lib.hid tx
  have HKN := Lib.hid kn
  clear tx iL kn
  go_wp2_with fail
  refine TX.out.mono ?_
  rintro e w7 ⟨⟨u, rfl, hu⟩, hb7⟩
  have hb67 := bthen HKN.out hb7
  have hB7 := bthen hB hb67
  have hown7 := hown.kept (grownD hb67) (by simp)
  obtain ⟨FL, hFL⟩ : ∃ l, l = a ++ b := ⟨_, rfl⟩
  have HFL := Lib.hid hFL
  rw [← hFL] at hu HN HMR
  clear TX HKN hown hb7 hB hFL
  obtain ⟨ua, uc, rfl⟩ := own_slice hu
  obtain ⟨NF, hNF⟩ : ∃ n, n = FL.length := ⟨_, rfl⟩
  rw [← hNF] at hu HN ⊢
  have hn12 : NF ≤ 12 := by have := HN.out; omega
  have HNF := Lib.hid hNF
  have hM7 : MB < w7.heap.size := Nat.lt_of_lt_of_le hlt5 hb67.size
  obtain ⟨RB, hRB⟩ : ∃ r, r = (W6.alloc (.cells #[.slice s1 n1 c1, .slice s2 n2 c2] 31)).heap.size := ⟨_, rfl⟩
  rw [← hRB] at hu
  have hMR : MB < RB := by rw [hRB]; simp; omega
  clear hNF hRB hb67
  go_wp2_with fail
  go_loopw [29] (fun i wr => ∃ k : Nat, k ≤ NF ∧ i = .int .i64 k ∧ wr.ownsMap Try.prog 3 (plainElem (H := Unit) Try.prog 4) MB k (tkD (FL.take k)) ∧ wr.ownsRow RB 34 2 (.slice ua NF uc) NF (FL.flatMap pV) ∧ Below w.heap.size w wr) (fun i _ => NF - (intOf i).toNat)
  case atStart => exact ⟨0, by omega, rfl, hown7, hu, hB7⟩
  case round =>
    clear hown7 hu hB7
    obtain ⟨k, hk, rfl, hown, hu, hbel⟩ := hrel
    by_cases hlt : k < NF
    · have hdk : (k : Int) < (NF : Int) := by omega
      obtain ⟨x, hx⟩ : ∃ x, FL[k]? = some x := ⟨_, List.getElem?_eq_getElem (by rw [← HNF.out]; exact hlt)⟩
      obtain ⟨b9, off, cp', he, hcs⟩ := (Rw.of_own pV_len hu HNF.out).head (by rw [← HNF.out]; omega)
      simp only [Value.slice.injEq] at he
      obtain ⟨rfl, -, rfl⟩ := he
      obtain ⟨d0, d1⟩ := rw2 (hcs k x hx) (show pV x = [.int .i64 x.1, .int .i64 x.2] from rfl)
      have hts : tkD (FL.take (k + 1)) = (tkD (FL.take k)).put (.int .i64 x.1) (.lit (.bool true)) := by
        rw [List.take_add_one, hx]; exact tkD_snoc _ _
      have HTS := Lib.hid hts
      have hxr := HMR.out x (List.mem_of_getElem? hx)
      have HK := Lib.hid (show keyOf Try.prog 3 (.int .i64 x.1) = some (.int .i64 x.1) from keyOf_int_mk Try.underlying3 (WalkArith.wf_i64 (by omega)))
      have HVL := Lib.hid (show plainElem (H := Unit) Try.prog 4 (.bool true) = some (.lit (.bool true), []) from plainElem_bool (by kernel_rfl) true)
      clear hcs hx hts hxr
      go_upto_region 8 with fail
      obtain ⟨W1, hW1⟩ : ∃ v, v = World.alloc wr (Obj.cells #[.int .i64 x.1, .int .i64 x.2] 34) := ⟨_, rfl⟩
      have kW1 : Below wr.heap.size wr W1 := by rw [hW1]; exact below_new _ _
      have iW1 : Blk W1 (wr.heap.size) 34 [.int .i64 x.1, .int .i64 x.2] := by rw [hW1]; exact Blk.new _ _ _
      have sW1 : W1.heap.size = wr.heap.size + 1 := by rw [hW1]; simp
      rw [← hW1]
      clear hW1
      have e0 := iW1.cell (j := 0) (v := .int .i64 x.1) rfl
      have hown := hown.kept (grownD kW1) (by simp)
      have hu := own_below hu kW1
      have hbel := bthen hbel kW1
      clear iW1 kW1 sW1 d0 d1
      have hmb := hown.lt
      go_wp2_with (at_mapUpdate; refine wpList_mapUpdate_own _ rfl _ _ _ 68 rfl 3 4 Try.keyInt Try.undMapB _ MB k _ rfl hown (by unfold maxLen; omega) _ _ _ rfl rfl HK.out _ [] HVL.out ?_; intro w9 hown9 hgrow9)
      have hu9 := own_keptN hu hgrow9 (map_nocells hown)
      have hbel9 := hbel.grown hgrow9 hbel.size (fun j hj => by cases hj; omega)
      rw [← HTS.out] at hown9
      clear hown hbel hgrow9 e0 hu
      go_roundw
      case rel => exact ⟨k + 1, by omega, by go_num, hown9, hu9, hbel9⟩
      case measure => simp [intOf]; omega
    · obtain rfl : k = NF := by omega
      have hdk : ¬ (k : Int) < (k : Int) := by omega
      rw [List.take_of_length_le (by rw [HNF.out]; exact Nat.le_refl _)] at hown
      clear hu
      obtain ⟨WB, hWB⟩ : ∃ W, W = wr := ⟨_, rfl⟩
      subst hWB
      have hsize := hown.size_le
      have hMB := hown.lt
      have HD := Lib.hid (show FL = a ++ b from HFL.out)
      have HW1 := Lib.hid hbel
      clear hbel
      go_wp2_with (first | (at_range; refine wpList_range_own _ rfl _ 68 rfl 3 4 Try.keyInt Try.undMapB _ MB k (tkD FL) rfl hown ?_; intro w0 hrg0 hg0 hs0) | go_in)
      (try go_frame)
      go_loopw [10] (fun u wx => ∃ (left : Lit → Bool) (cnt : Nat) (L : List P2), wx.ranges Try.prog 3 (plainElem (H := Unit) Try.prog 4) MB WB.heap.size k (tkD FL) left cnt ∧ MgI a b left L ∧ wx.ownsRow WB.heap.size 34 2 u L.length (L.flatMap pV) ∧ Below WB.heap.size WB wx ∧ L.length + cnt ≤ k) (fun _ wx => wx.rangeLeft MB WB.heap.size)
      case atStart => exact ⟨_, _, [], hrg0, by rw [HD.out]; exact MgI.start a b, World.ownsRow_nil _ _ _ _, below_none hg0, by simpa using hsize⟩
      case round =>
        clear hrg0 hg0 hs0 hown hsize
        obtain ⟨left, cnt, L, hrg, hvt, hout, hbel, hcnt⟩ := hrel
        obtain ⟨oa, oc, rfl⟩ := own_slice hout
        have HVT := Lib.hid hvt
        clear hvt
        go_wp2_with (first | (at_next; refine wpList_next_ranges _ rfl _ rfl 3 Try.keyInt (plainElem (H := Unit) Try.prog 4) (Value.int .i64) id (fun key kl hk => by obtain ⟨x, hx, _⟩ := Maps.keyOf_int_inv Try.underlying3 hk; exact ⟨x, hx⟩) (fun v _ _ => ⟨v, rfl⟩) MB WB.heap.size _ _ _ _ rfl hrg ?_ ?_) | go_in)
        · intro hc0 hl0
          have TS := Lib.hid (sortO_any WB.heap.size (.slice oa L.length oc) L wr (by omega) hout)
          have HL0 := Lib.hid hl0
          clear hl0 hrg hc0
          go_wp2_with fail
          refine TS.out.mono ?_
          rintro e w5 ⟨⟨rfl, l', hp, hsrt, hpr⟩, hb5⟩
          have hl' := HVT.out.done HL0.out hp hsrt
          subst hl'
          have hln := hpr.len
          have TC := Lib.hid (ContainsO_any 26 #[] Try.enterMrg1 (fun x => withinE x.2 (-1000) 1000 != 0) (.slice oa L.length oc) (mrgL a b) w5 (by have := HML.out; omega) hpr (fun x _ w9 _ => Merged1_any x.1 x.2 w9))
          have hlr : (mrgL a b).any (fun x => withinE x.2 (-1000) 1000 != 0) = lrgB a b := rfl
          rw [hlr] at TC
          have HP := Lib.hid hpr
          have hL9 : L.length ≤ 12 := by rw [hln]; exact HML.out
          obtain ⟨N9, hN9⟩ : ∃ n, n = L.length := ⟨_, rfl⟩
          rw [← hN9] at TC HP hL9 ⊢
          have hbel5 := hbel.trans hb5
          clear hp hsrt hpr hout hln hlr hN9 TS hbel hb5 hcnt
          obtain ⟨LB, hLB⟩ : ∃ l, l = lrgB a b := ⟨_, rfl⟩
          rw [← hLB] at TC
          have HLB := Lib.hid hLB
          have d9 : decide ((32 : Int) < (N9 : Int)) = false := decide_eq_false (by omega)
          have tw : ∀ W, Calls Try.prog 28 #[.bool (decide ((32 : Int) < (N9 : Int))), .int .i64 5] W fun r w' => r = .returned (.int .i64 0) ∧ W = w' := by
            rw [d9]; exact when0F 5
          have TW := Lib.hid tw
          clear hLB d9 tw
          go_wp2_with fail
          refine TC.out.mono ?_
          rintro e w6 ⟨rfl, hb6⟩
          have HP6 := Lib.hid (HP.out.carry hb6)
          have hB6 := Lib.hid (bthen HW1.out (hbel5.trans (hb6.mono hbel5.size)))
          clear TC HP hb6 hbel5
          go_wp2_with fail
          refine (TW.out _).mono ?_
          rintro e w9 ⟨rfl, rfl⟩
          clear TW
          cases LB with
          | false =>
            go_wp2_with fail
            refine (when0F 4 _).mono ?_
            rintro e w9 ⟨rfl, rfl⟩
            go_wp2_with fail
            refine (zero2F (.slice (some ⟨w6.heap.size, 0, none⟩) 2 2) (w6.alloc (.cells #[.int .i64 0, .int .i64 0] 36)) (Ints.lit w6 _ [0, 0] 2 rfl)).mono ?_
            rintro e w9 ⟨rfl, rfl⟩
            have kn := below_new w6 (.cells #[.int .i64 0, .int .i64 0] 36)
            go_wp2
            go_ret2
            exact ⟨⟨_, _, rfl, .inr ⟨HLB.out.symm, by trivial, HP6.out.carry kn⟩⟩, bthen hB6.out kn⟩
          | true =>
            go_wp2_with fail
            refine (whenF_any true 4 _).mono ?_
            rintro e w9 ⟨rfl, rfl⟩
            go_wp2_with fail
            refine (firstF_any (.slice (some ⟨w6.heap.size, 0, none⟩) 2 2) [0, 4] (w6.alloc (.cells #[.int .i64 0, .int .i64 4] 36)) (by simp [maxLen]) (Ints.lit w6 _ [0, 4] 2 rfl)).mono ?_
            rintro e w9 ⟨rfl, rfl⟩
            have e4 : firstE [0, 4] = 4 := by decide
            rw [e4]
            have kn := below_new w6 (.cells #[.int .i64 0, .int .i64 4] 36)
            go_wp2
            go_ret2
            exact ⟨⟨_, _, rfl, .inl ⟨HLB.out.symm, by trivial⟩⟩, bthen hB6.out kn⟩
        · intro x c kl yd yp w2 cnt2 hkey hlk hv2 hat hrg2 hlt3 hg2 hs2 hen
          obtain ⟨x', ex, rfl, hwfx⟩ := Maps.keyOf_int_inv Try.underlying3 hkey
          cases ex
          have htk : x ∈ ticksL (a ++ b) := by rw [← HFL.out]; exact tk_mem hat
          have HTA := Lib.hid (HVT.out.take hlk htk)
          have hit := ranges_iter hrg
          have hbel2 : Below WB.heap.size WB w2 := below_grown hbel hg2 (fun r e => by cases e; exact Nat.le_refl _) (Nat.le_refl _)
          have hout2 := own_keptN hout hg2 hit
          have hmeas : cnt2 < wr.rangeLeft MB WB.heap.size := by rw [hrg.left_eq]; exact hlt3
          have HMEAS := Lib.hid hmeas
          have hra := HRA.out x
          have hrb := HRB.out x
          have hB2 := bthen HW1.out hbel2
          have TA1 := Lib.hid (A1.out x w2 (HV1.out.carry hB2))
          have TA2 := Lib.hid (A2.out x)
          obtain ⟨QA, hQA⟩ : ∃ q, q = askL a x := ⟨_, rfl⟩
          obtain ⟨QB, hQB⟩ : ∃ q, q = askL b x := ⟨_, rfl⟩
          rw [← hQA] at hra TA1 HTA
          rw [← hQB] at hrb TA2 HTA
          have q1 : IntKind.i64.wrap (QA + QB) = QA + QB := IntWalk.i64_in _ (by omega)
          have hc2 : L.length + (cnt2 + 1) ≤ k := by omega
          clear hlk hkey hv2 hat hit hout hbel hmeas hg2 hs2 hrg hwfx htk hlt3 hra hrb hQA hQB hcnt
          go_wp2_with fail
          refine TA1.out.mono ?_
          rintro e w3 ⟨rfl, hb3⟩
          have hB3 := bthen hB2 hb3
          go_wp2_with fail
          refine (TA2.out w3 (HV2.out.carry hB3)).mono ?_
          rintro e w4 ⟨rfl, hb4⟩
          have hb24 := bthen hb3 hb4
          have hout3 := own_below hout2 hb24
          have hbel3 : Below WB.heap.size WB w4 := hbel2.trans (hb24.mono hbel2.size)
          have kn := below_new w4 (.cells #[.int .i64 x, .int .i64 (QA + QB)] 34)
          have hln : ∀ j u, (pV (x, QA + QB))[j]? = some u → (w4.alloc (.cells #[.int .i64 x, .int .i64 (QA + QB)] 34)).cell? ((⟨w4.heap.size, 0, none⟩ : Addr).add j) = some u := fun j u hj => by
            rw [addr_add, Nat.zero_add]
            exact Blk.cell (Blk.new w4 34 (pV (x, QA + QB))) hj
          have hout4 := own_below hout3 kn
          have hbel4 := hbel3.trans (kn.mono hbel3.size)
          have hs4 := hbel4.size
          have hrg4 := (hrg2.kept (grownD hb24) (by simp) (by simp)).kept (grownD kn) (by simp) (by simp)
          obtain ⟨i0, hi, hz0, hz1, hz2⟩ := info_parts Try.infZflowOrder
          clear hrg2 hout2 hout3 hbel2 hbel3 hb3 hb4 hb24 hB2 hB3 TA1 TA2
          go_wp2_with (at_builtin; refine wpList_append_own_at _ rfl (.tmp 43) (.tmp 53) 31 rfl WB.heap.size 34 i0 (.agg #[.int .i64 0, .int .i64 0]) 2 16 Try.undZflowOrder hi hz0 hz1 hz2 rfl (by decide) (.slice oa L.length oc) L.length _ rfl hout4 ⟨w4.heap.size, 0, none⟩ 1 1 (pV (x, QA + QB)) rfl rfl hln (by simp [pV, Value.oneCell']) (by unfold maxLen; omega) (by omega) hs4 ?_; intro v9 w9 hown9 hgrow9 hnil9 hloc9)
          have hrg5 := hrg4.kept hgrow9 (fun e' => by have := (World.ownsRow.lt hout4 _ e'.symm).1; omega) (own_ne_of hout4 (ranges_iter hrg4))
          have hbel5 := hbel4.grown hgrow9 hs4 (fun k' hk' => (World.ownsRow.lt hout4 k' hk').1)
          have hown5 : w9.ownsRow WB.heap.size 34 2 v9 (L ++ [(x, QA + QB)]).length ((L ++ [(x, QA + QB)]).flatMap pV) := by
            rw [List.length_append, List.flatMap_append, List.length_singleton, List.flatMap_cons, List.flatMap_nil, List.append_nil]
            exact hown9
          clear hown9 hrg4 hout4 hbel4 hs4 hgrow9 hln kn hi hz0 hz1 hz2
          (try go_wp2)
          go_roundw
          case rel => exact ⟨_, cnt2, L ++ [(x, QA + QB)], hrg5, HTA.out, hown5, hbel5, by rw [List.length_append, List.length_singleton]; omega⟩
          case measure => rw [hrg5.left_eq]; exact HMEAS.out
end Go.Proofs.Ytipmjjnhdjcoiaa

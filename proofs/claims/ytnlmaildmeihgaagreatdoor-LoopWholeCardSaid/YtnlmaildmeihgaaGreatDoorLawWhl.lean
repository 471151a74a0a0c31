/- The law LoopWhole. -/
import Derived.Test.YtnlmaildmeihgaaGreatDoorPlainW
import Derived.Test.YtnlmaildmeihgaaGreatDoorAwakeE
import Derived.Maps.AppendAt
namespace Go.Proofs.YtnlmaildmeihgaaGreatDoor
open Go.RowKit

/-- the value v is a slice of bytes with signs that holds l. -/
def Ints8 (w : World) (v : Value) (l : List Int) : Prop :=
  ∃ a cap, v = .slice a l.length cap ∧ l.length ≤ cap ∧ (0 < l.length → ∃ b off, a = some ⟨b, off, none⟩ ∧ ∀ j, j < l.length → w.cell? ⟨b, off + j, none⟩ = some (.int .i8 (l[j]?.getD 0)))
theorem Ints8.head {w : World} {v : Value} {l : List Int} (h : Ints8 w v l) (h0 : 0 < l.length) : ∃ b off cap, v = .slice (some ⟨b, off, none⟩) l.length cap ∧ ∀ j, j < l.length → w.cell? ⟨b, off + j, none⟩ = some (.int .i8 (l[j]?.getD 0)) := by
  obtain ⟨a, cap, rfl, _, hc⟩ := h
  obtain ⟨b, off, rfl, hd⟩ := hc h0
  exact ⟨b, off, cap, rfl, hd⟩

/-- an append to another block keeps an owned row. -/
theorem own_other {w w' : World} {row : Option Nat} {o : Obj} {base e size n : Nat} {v : Value} {xs : List Value} (h : w.ownsRow base e size v n xs) (hg : (w.alloc o).grownBy w' row) (hne : ∀ b, v.ownBlock = some b → row ≠ some b) : w'.ownsRow base e size v n xs := by
  obtain ⟨h1, h2⟩ := World.ownsRow.alloc h o
  refine ⟨h1, ?_⟩
  rcases h2 with h2 | ⟨g, cap, cur, rfl, hg', hh, r⟩
  · exact .inl h2
  · exact .inr ⟨g, cap, cur, rfl, hg', (hg.block g (Array.getElem?_eq_some_iff.1 hh).1 (fun e => hne g rfl e.symm)).trans hh, r⟩
theorem four_at {a b c d y : Int} {i : Nat} (h : [a, b, c, d][i]? = some y) : [Value.int .i16 a, Value.int .i16 b, Value.int .i16 c, Value.int .i16 d][i]? = some (Value.int .i16 y) := by
  have : ([a, b, c, d].map (Value.int .i16))[i]? = some (.int .i16 y) := by rw [List.getElem?_map, h]; rfl
  exact this
theorem apart_of {w W : World} {base e size n : Nat} {v u u' : Value} {xs : List Value} (hv : w.ownsRow base e size v n xs) (hne : ∀ b, v.ownBlock = some b → u.ownBlock ≠ some b) (hu : u'.ownBlock = u.ownBlock ∨ u'.ownBlock = some W.heap.size) (hw : w.heap.size ≤ W.heap.size) : ∀ b, v.ownBlock = some b → u'.ownBlock ≠ some b := fun b hb he => by
  rcases hu with h | h
  · exact hne b hb (h ▸ he)
  · have := (World.ownsRow.lt hv b hb).2
    rw [h] at he
    cases he
    omega
theorem tmod_le (x : Int) (m : Nat) (hm : 0 < m) : -((m : Int) - 1) ≤ x.tmod m ∧ x.tmod m ≤ (m : Int) - 1 := by
  have h := Int.natAbs_tmod x m
  have h2 : x.natAbs % (m : Int).natAbs < m := by rw [Int.natAbs_natCast]; exact Nat.mod_lt _ hm
  rw [← h] at h2
  omega
def wF (f0 f1 f2 f3 : Int) (k : Nat) : Int := (match k with | 0 => f0 | 1 => f1 | 2 => f2 | _ => f3).tmod 1001
theorem all_take_succ {l : List Int} {k : Nat} {x : Int} (h : l[k]? = some x) (g : Int → Bool) : (l.take (k + 1)).all g = ((l.take k).all g && g x) := by
  rw [List.take_add_one, h]; simp

set_option maxRecDepth 100000 in
set_option maxHeartbeats 8000000 in
theorem whl_law (vl : Value) (l : List Int) (minus : Bool) (f0 f1 f2 f3 : Int) (w : World) (hq : Quarters w) (hpw : Pows w) (hl : Ints8 w vl l) (hlb : ∀ x ∈ l, -128 ≤ x ∧ x ≤ 127)
    (b0 : -32768 ≤ f0 ∧ f0 ≤ 32767) (b1 : -32768 ≤ f1 ∧ f1 ≤ 32767) (b2 : -32768 ≤ f2 ∧ f2 ≤ 32767) (b3 : -32768 ≤ f3 ∧ f3 ≤ 32767) :
    Calls Tryz.prog 9 #[vl, .bool minus, .agg #[.int .i16 f0, .int .i16 f1, .int .i16 f2, .int .i16 f3]] w fun e w' => e = .returned (.bool true) ∧ Below w.heap.size w w' := by
  have HL := Lib.hid hl
  have HLB := Lib.hid hlb
  obtain ⟨xl, cl, rfl, _⟩ := id hl
  clear hl hlb
  obtain ⟨i0, hi, hz0, hz1, hz2⟩ := info_parts Tryz.infoInt
  by_cases h1 : l.length < 1
  · have d1 : (l.length : Int) < 1 := by omega
    go_enter Tryz.func9, Tryz.ntmps9
    go_upto_region 1 with fail
    obtain ⟨W1, hW1⟩ : ∃ v, v = World.alloc w (Obj.cells #[.int .i16 f0, .int .i16 f1, .int .i16 f2, .int .i16 f3] 100) := ⟨_, rfl⟩
    have kW1 : Below w.heap.size w W1 := by rw [hW1]; exact below_new _ _
    have iW1 : Blk W1 (w.heap.size) 100 [.int .i16 f0, .int .i16 f1, .int .i16 f2, .int .i16 f3] := by rw [hW1]; exact Blk.new _ _ _
    have sW1 : W1.heap.size = w.heap.size + 1 := by rw [hW1]; simp
    rw [← hW1]
    clear hW1
    clear sW1 iW1
    go_wp2_with fail
    refine (awake_any W1 (hq.below kW1 hq.size) (hpw.below kW1)).mono ?_
    rintro e w1 ⟨rfl, hb⟩
    go_wp2
    go_ret
    exact ⟨rfl, bthen kW1 hb⟩
  · have d1 : ¬ (l.length : Int) < 1 := by omega
    by_cases h4 : 4 < l.length
    · have d4 : (4 : Int) < (l.length : Int) := by omega
      go_enter Tryz.func9, Tryz.ntmps9
      go_upto_region 1 with fail
      obtain ⟨W1, hW1⟩ : ∃ v, v = World.alloc w (Obj.cells #[.int .i16 f0, .int .i16 f1, .int .i16 f2, .int .i16 f3] 100) := ⟨_, rfl⟩
      have kW1 : Below w.heap.size w W1 := by rw [hW1]; exact below_new _ _
      have iW1 : Blk W1 (w.heap.size) 100 [.int .i16 f0, .int .i16 f1, .int .i16 f2, .int .i16 f3] := by rw [hW1]; exact Blk.new _ _ _
      have sW1 : W1.heap.size = w.heap.size + 1 := by rw [hW1]; simp
      rw [← hW1]
      clear hW1
      clear sW1 iW1
      go_wp2_with fail
      refine (awake_any W1 (hq.below kW1 hq.size) (hpw.below kW1)).mono ?_
      rintro e w1 ⟨rfl, hb⟩
      go_wp2
      go_ret
      exact ⟨rfl, bthen kW1 hb⟩
    · have d4 : ¬ (4 : Int) < (l.length : Int) := by omega
      obtain ⟨ba, oa, ca, hxe, hcs⟩ := HL.out.head (by omega)
      cases hxe
      have HCS := Lib.hid hcs
      clear hcs
      go_enter Tryz.func9, Tryz.ntmps9
      go_upto_region 1 with fail
      obtain ⟨W1, hW1⟩ : ∃ v, v = World.alloc w (Obj.cells #[.int .i16 f0, .int .i16 f1, .int .i16 f2, .int .i16 f3] 100) := ⟨_, rfl⟩
      have kW1 : Below w.heap.size w W1 := by rw [hW1]; exact below_new _ _
      have iW1 : Blk W1 (w.heap.size) 100 [.int .i16 f0, .int .i16 f1, .int .i16 f2, .int .i16 f3] := by rw [hW1]; exact Blk.new _ _ _
      have sW1 : W1.heap.size = w.heap.size + 1 := by rw [hW1]; simp
      rw [← hW1]
      clear hW1
      clear sW1
      have hB := kW1
      have iB := iW1
      clear kW1 iW1
      obtain ⟨wo, rfl⟩ : ∃ v, v = W1 := ⟨_, rfl⟩
      go_wp2_with fail
      clear d1 d4
      go_loopw [7, 8, 9, 29] (fun v7 v8 v9 v29 wr => ∃ i : Nat, i ≤ l.length ∧ v29 = .int .i64 i ∧ v9 = .bool ((l.take i).all fun x => x.tmod 101 == 0) ∧ OwnI 3 wo.heap.size wr v7 ((l.take i).map fun x => x.tmod 101) ∧ OwnI 3 wo.heap.size wr v8 (upto (wF f0 f1 f2 f3) i) ∧ (∀ b, v7.ownBlock = some b → v8.ownBlock ≠ some b) ∧ Below wo.heap.size wo wr) (fun _ _ _ v29 _ => l.length - (intOf v29).toNat)
      case atStart => exact ⟨0, Nat.zero_le _, rfl, rfl, World.ownsRow_nil _ _ _ _, World.ownsRow_nil _ _ _ _, fun b h => (by simp [Value.ownBlock] at h), Below.refl _ _⟩
      case round =>
        obtain ⟨i, hil, rfl, rfl, ho7, ho8, hne, hbr⟩ := hrel
        by_cases hlt : i < l.length
        · obtain ⟨x, hx⟩ : ∃ x, l[i]? = some x := ⟨_, List.getElem?_eq_getElem hlt⟩
          have hxb := HLB.out x (List.mem_of_getElem? hx)
          have cA := cellb (HCS.out i hlt) (bthen hB hbr)
          rw [hx] at cA
          simp only [Option.getD_some] at cA
          have i4 : i < 4 := by omega
          obtain ⟨y, hy⟩ : ∃ y, [f0, f1, f2, f3][i]? = some y := ⟨_, List.getElem?_eq_getElem (by simp; omega)⟩
          have hyw : wF f0 f1 f2 f3 i = y.tmod 1001 := by
            obtain rfl | rfl | rfl | rfl : i = 0 ∨ i = 1 ∨ i = 2 ∨ i = 3 := by omega
            all_goals (simp at hy; subst hy; rfl)
          have hyb : -32768 ≤ y ∧ y ≤ 32767 := by
            obtain rfl | rfl | rfl | rfl : i = 0 ∨ i = 1 ∨ i = 2 ∨ i = 3 := by omega
            all_goals (simp at hy; subst hy; assumption)
          have HCB := Lib.hid (four_at hy)
          have e1 : IntKind.i64.wrap x = x := IntWalk.i64_in _ (by omega)
          have e2 : IntKind.i64.wrap y = y := IntWalk.i64_in _ (by omega)
          have hs7 : (l.take (i + 1)).map (fun x => x.tmod 101) = (l.take i).map (fun x => x.tmod 101) ++ [x.tmod 101] := take_succ_map _ _ _ _ hx
          have hs8 : upto (wF f0 f1 f2 f3) (i + 1) = upto (wF f0 f1 f2 f3) i ++ [y.tmod 1001] := by rw [upto_succ, hyw]
          have hs9 := all_take_succ hx (fun x => x.tmod 101 == 0)
          have hn7 : ((l.take i).map fun x => x.tmod 101).length = i := by simp; omega
          have hn8 : (upto (wF f0 f1 f2 f3) i).length = i := upto_length _ _
          generalize (l.take i).map (fun x => x.tmod 101) = L7 at ho7 hs7 hn7
          generalize upto (wF f0 f1 f2 f3) i = L8 at ho8 hs8 hn8
          generalize (l.take i).all (fun x => x.tmod 101 == 0) = z at hs9 ⊢
          obtain ⟨X, hX⟩ : ∃ X, X = x.tmod 101 := ⟨_, rfl⟩
          obtain ⟨Y, hY⟩ : ∃ Y, Y = y.tmod 1001 := ⟨_, rfl⟩
          have e3 : x.tmod 101 = X := hX.symm
          have e4 : y.tmod 1001 = Y := hY.symm
          rw [e3] at hs7 hs9
          rw [e4] at hs8
          have HS7 := Lib.hid hs7
          have HS8 := Lib.hid hs8
          have HS9 := Lib.hid hs9
          have HN7 := Lib.hid hn7
          have HN8 := Lib.hid hn8
          have hsz := hbr.size
          clear hx hy hyw hyb hs7 hs8 hs9 hn7 hn8 hxb hX hY
          cases z
          all_goals
            go_wp2_with (at_builtin; first
              | (refine wpList_append_own_at _ rfl (.tmp 34) (.tmp 38) 22 rfl wo.heap.size 3 i0 (.int .i64 0) 1 8 Tryz.underlying22 hi hz0 hz1 hz2 rfl (by decide) _ _ _ rfl (ho7.alloc _) ⟨wr.heap.size, 0, none⟩ 1 1 [.int .i64 X] rfl rfl (cell_one_new _ _ _) (by simp [Value.oneCell']) (by unfold maxLen; have := HN7.out; omega) (by have := HN7.out; omega) (by simp; omega) ?_; intro v7' w5 hown5 hgrow5 _ hblk5; have hb5 := below_own hbr ho7 hgrow5; have ho8' := own_other ho8 hgrow5 (fun b h e => hne b e h); have hne5' : ∀ b, v7'.ownBlock = some b → u8.ownBlock ≠ some b := (fun b hb he => apart_of ho8 (fun b h8 h7 => hne b h7 h8) hblk5 (by simp) b he hb); have hs5 := hb5.size; have cB := cellb (iB.cell (j := i) HCB.out) hb5)
              | (go_loud (refine wpList_append_own_at _ rfl (.tmp 40) (.tmp 46) 22 rfl wo.heap.size 3 i0 (.int .i64 0) 1 8 Tryz.underlying22 hi hz0 hz1 hz2 rfl (by decide) _ _ _ rfl (ho8'.alloc _) ⟨w5.heap.size, 0, none⟩ 1 1 [.int .i64 Y] rfl rfl (cell_one_new _ _ _) (by simp [Value.oneCell']) (by unfold maxLen; have := HN8.out; omega) (by have := HN8.out; omega) (by simp; omega) ?_; intro v8' w6 hown6 hgrow6 _ hblk6; have hb6 := below_own hb5 ho8' hgrow6; have ho7' := own_other hown5 hgrow6 (fun b h e => hne5' b h e); have hne6 := apart_of hown5 hne5' hblk6 (by simp); have hu7 : OwnI 3 wo.heap.size w6 v7' (L7 ++ [X]) := (by unfold OwnI; rw [List.length_append, List.map_append]; exact ho7'); obtain ⟨g7, o7, cap7, hv7, hc7⟩ := hu7.ints.head (by simp); have hc7 := hc7 i (by have := HN7.out; simp; omega); rw [List.getElem?_append_right (by have := HN7.out; omega), show i - L7.length = 0 by have := HN7.out; omega] at hc7; simp only [List.getElem?_cons_zero, Option.getD_some] at hc7; rw [show (L7 ++ [X]).length = i + 1 by have := HN7.out; simp; omega] at hv7; subst hv7)))
            have hu8 : OwnI 3 wo.heap.size w6 v8' (L8 ++ [Y]) := by unfold OwnI; rw [List.length_append, List.map_append]; exact hown6
            rw [← HS7.out] at hu7
            rw [← HS8.out] at hu8
            go_roundw
            case rel => exact ⟨i + 1, by omega, by go_num, by rw [HS9.out]; first | rfl | simp, hu7, hu8, hne6, hb6⟩
            case measure => simp [intOf]; omega
        · obtain rfl : i = l.length := by omega
          rw [List.take_length] at ho7
          have hqb : ∀ x ∈ l.map (fun x => x.tmod 101), -100 ≤ x ∧ x ≤ 100 := fun y hy => by
            obtain ⟨x, _, rfl⟩ := List.mem_map.1 hy
            have h1 := tmod_le x 101 (by decide)
            exact ⟨by simpa using h1.1, by simpa using h1.2⟩
          have hqz : (l.map (fun x => x.tmod 101)).all (· == 0) = l.all (fun x => x.tmod 101 == 0) := by rw [List.all_map]; rfl
          have hql : (l.map (fun x => x.tmod 101)).length = l.length := List.length_map _
          have hbl : (upto (wF f0 f1 f2 f3) l.length).length = l.length := upto_length _ _
          have hbb : ∀ x ∈ upto (wF f0 f1 f2 f3) l.length, -1000 ≤ x ∧ x ≤ 1000 := fun y hy => by
            obtain ⟨k, _, rfl⟩ := List.mem_map.1 (show y ∈ (List.range l.length).map (wF f0 f1 f2 f3) from hy)
            unfold wF
            generalize (match k with | 0 => f0 | 1 => f1 | 2 => f2 | _ => f3) = x
            have h1 := tmod_le x 1001 (by decide)
            exact ⟨by simpa using h1.1, by simpa using h1.2⟩
          rw [show ((l.take l.length).all fun x => x.tmod 101 == 0) = l.all (fun x => x.tmod 101 == 0) by rw [List.take_length]]
          generalize l.map (fun x => x.tmod 101) = q at ho7 hqb hqz hql
          generalize upto (wF f0 f1 f2 f3) l.length = bg at ho8 hbl hbb
          generalize l.all (fun x => x.tmod 101 == 0) = z at hqz ⊢
          obtain ⟨sg, hsg⟩ : ∃ sg : Int, sg = if minus then -1 else 1 := ⟨_, rfl⟩
          have hs1 : sg = 1 ∨ sg = -1 := by rw [hsg]; split <;> simp
          have hsz := hbr.size
          have HQL := Lib.hid hql
          have HQZ := Lib.hid hqz
          have HQB := Lib.hid hqb
          have HBL := Lib.hid hbl
          have HBB := Lib.hid hbb
          have HSG := Lib.hid hsg
          have hl1 : 1 ≤ l.length := by omega
          have hl4 : l.length ≤ 4 := by omega
          clear hql hqz hqb hbl hbb hsg hil h1 h4 hlt
          go_upto_if 57 with fail
          go_cut [7] from 58 to 63 (fun v7 wn => OwnI 3 wo.heap.size wn v7 (q ++ [sg]) ∧ Ints wn u8 bg ∧ Below wo.heap.size wo wn)
          case first =>
            cases minus
            · obtain rfl : sg = 1 := HSG.out
              go_wp2_with (at_builtin; refine wpList_append_own _ rfl _ _ 22 rfl wo.heap.size 3 i0 (.int .i64 0) 1 8 Tryz.underlying22 hi hz0 hz1 hz2 rfl (by decide) _ _ _ rfl (ho7.alloc _) ⟨wr.heap.size, 0, none⟩ 1 1 [.int .i64 1] rfl rfl (cell_one_new _ _ _) (by simp [Value.oneCell']) (by unfold maxLen; have := HQL.out; omega) (by have := HQL.out; omega) (by simp; omega) ?_; intro v7' w5 hown5 hgrow5 _)
              go_meet
              exact ⟨by unfold OwnI; rw [List.length_append, List.map_append]; exact hown5, OwnI.ints (own_other ho8 hgrow5 (fun b h e => hne b e h)), below_own hbr ho7 hgrow5⟩
            · obtain rfl : sg = -1 := HSG.out
              go_wp2_with (at_builtin; refine wpList_append_own _ rfl _ _ 22 rfl wo.heap.size 3 i0 (.int .i64 0) 1 8 Tryz.underlying22 hi hz0 hz1 hz2 rfl (by decide) _ _ _ rfl (ho7.alloc _) ⟨wr.heap.size, 0, none⟩ 1 1 [.int .i64 (-1)] rfl rfl (cell_one_new _ _ _) (by simp [Value.oneCell']) (by unfold maxLen; have := HQL.out; omega) (by have := HQL.out; omega) (by simp; omega) ?_; intro v7' w5 hown5 hgrow5 _)
              go_meet
              exact ⟨by unfold OwnI; rw [List.length_append, List.map_append]; exact hown5, OwnI.ints (own_other ho8 hgrow5 (fun b h e => hne b e h)), below_own hbr ho7 hgrow5⟩
          case rest =>
            obtain ⟨ho9, hb8, hl⟩ := hcut
            clear ho7 ho8 hne hbr hsz
            replace hB := bthen hB hl
            obtain ⟨w2, rfl⟩ : ∃ v, v = wc := ⟨_, rfl⟩
            have hp := ho9.ints
            have hqsg : (q ++ [sg]).length = l.length + 1 := by have := HQL.out; simp; omega
            have HPL := Lib.hid hqsg
            have hpoly := unit_poly q sg hs1 HQB.out (by have := HQL.out; omega)
            have hst := stable_unit q sg hs1 (fun x hx => by have := HQB.out x hx; omega)
            rw [HQZ.out] at hst
            have hsr : stableR (q ++ [sg]) = z := by rw [stableR, if_neg (by rw [hpoly]; simp), hst]
            have hsp := stepped_unit q bg sg hs1 (by have := HQL.out; omega) (by have := HQL.out; omega) (by rw [HBL.out, HQL.out])
            have HSP := Lib.hid hsp
            have ts := fun (u : Value) (W : World) (h : Ints W u (q ++ [sg])) => Stable_any u _ W h (by have := HPL.out; omega)
            rw [hsr, hpoly] at ts
            have TS := Lib.hid ts
            have HP := Lib.hid hp
            clear ho9 hl hp hqsg hpoly hst hsr hsp ts
            go_wp2_with fail
            refine (polyL_any _ (q ++ [sg]) w2 HP.out (by have := HPL.out; omega)).mono ?_
            rintro e w3 ⟨⟨u3, rfl, hu3⟩, hl⟩
            replace hB := bthen hB hl
            replace hb8 := hb8.carry hl
            have HP2 := Lib.hid (HP.out.carry hl)
            clear hl
            go_wp2_with fail
            refine (TS.out u3 w3 hu3).mono ?_
            rintro e w4 ⟨rfl, hl⟩
            replace hB := bthen hB hl
            replace hb8 := hb8.carry hl
            have HP3 := Lib.hid (HP2.out.carry hl)
            clear hl hu3
            have z1 : (z != z) = false := by simp
            cases z
            · go_wp2_with fail
              refine (awake_any w4 (hq.below hB hq.size) (hpw.below hB)).mono ?_
              rintro e w5 ⟨rfl, hl⟩
              go_wp2
              go_ret
              exact ⟨rfl, bthen hB hl⟩
            · have hz0 : ∀ i, i < q.length → q[i]?.getD 0 = 0 := fun i hi => by
                have := HQZ.out
                rw [List.all_eq_true] at this
                rw [List.getElem?_eq_getElem hi]
                simpa using this _ (List.getElem_mem hi)
              obtain ⟨s1, s2, s3⟩ := HSP.out hz0 HBB.out
              rw [HQL.out] at s2 s3
              have tp := fun (u u' : Value) (W : World) (h : Ints W u (q ++ [sg])) (h' : Ints W u' bg) => Stepped_any u u' _ bg 6 W h h' (by have := HPL.out; omega) (by have := HBL.out; omega)
              rw [s1] at tp
              generalize steppedR (q ++ [sg]) bg 6 = R at s2 s3 tp
              have TP := Lib.hid tp
              have HR2 := Lib.hid s2
              have HR3 := Lib.hid s3
              clear s1 s2 s3 tp hz0 z1
              go_wp2_with fail
              refine (polyL_any _ (q ++ [sg]) w4 HP3.out (by have := HPL.out; omega)).mono ?_
              rintro e w5 ⟨⟨u5, rfl, hu5⟩, hl⟩
              replace hB := bthen hB hl
              replace hb8 := hb8.carry hl
              clear hl
              go_wp2_with fail
              refine (intsL_any _ bg w5 hb8 (by have := HBL.out; omega)).mono ?_
              rintro e w6 ⟨⟨u6, rfl, hu6⟩, hl⟩
              replace hB := bthen hB hl
              replace hu5 := hu5.carry hl
              clear hl
              go_wp2_with fail
              refine (TP.out u5 u6 w6 hu5 hu6).mono ?_
              rintro e w7 ⟨⟨u7, rfl, hu7⟩, hl⟩
              replace hB := bthen hB hl
              clear hl hu5 hu6 hb8
              obtain ⟨bs, os, cs, rfl, hc⟩ := hu7.head (by have := HR2.out; omega)
              have hcap : R.length ≤ cs := by
                obtain ⟨a', c', he, hc', _⟩ := hu7
                cases he; exact hc'
              rw [HR2.out] at hc hcap ⊢
              have hcz : ∀ j, j < 6 → w7.cell? ⟨bs, os + l.length + j, none⟩ = some (.int .i64 0) := fun j hj => by
                have := hc (l.length + j) (by omega)
                rw [HR3.out (l.length + j) (by omega), ← Nat.add_assoc] at this
                exact this
              have HCZ := Lib.hid hcz
              clear hc hcz hu7
              go_wp2_with fail
              go_loopw [103] (fun v103 wr => ∃ i : Nat, i ≤ 6 ∧ v103 = .int .i64 i ∧ Below w7.heap.size w7 wr) (fun v103 _ => 6 - (intOf v103).toNat)
              case atStart => exact ⟨0, Nat.zero_le _, rfl, Below.refl _ _⟩
              case round =>
                obtain ⟨i, hi, rfl, hbr⟩ := hrel
                by_cases hlt : i < 6
                · have hlt' : (i : Int) < 6 := by omega
                  have c0 := cellb (HCZ.out i hlt) hbr
                  go_wp2_with fail
                  go_roundw
                  case rel => exact ⟨i + 1, by omega, by go_num, hbr⟩
                  case measure => simp [intOf]; omega
                · obtain rfl : i = 6 := by omega
                  replace hB := bthen hB hbr
                  go_wp2_with fail
                  refine (awake_any wr (hq.below hB hq.size) (hpw.below hB)).mono ?_
                  rintro e w8 ⟨rfl, hl⟩
                  go_wp2
                  go_ret
                  exact ⟨rfl, bthen hB hl⟩

end Go.Proofs.YtnlmaildmeihgaaGreatDoor

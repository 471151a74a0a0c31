import Derived.Test.YtnlmaildmeihgaaGreatDoorLoopA
import Derived.Conc.MuLone
import Derived.Deep.RegionHeld3
namespace Go.Proofs.YtnlmaildmeihgaaGreatDoor
open Go.RowKit

theorem Tryz.infoErrno : (Tryz.prog.info? 27).map (fun i => (i.zero, i.size, i.bytes)) = some (some (.int .i64 0), 1, 8) := by kernel_rfl

set_option maxHeartbeats 400000 in
theorem mappedE_any (K : Nat) (cap : Array Value) (henter : ∀ args w, Sem.run Tryz.prog (callFunc K args) w = .ok (.enter K args) w) (g : Int → Int) (v : Value) (l : List Int) (w : World) (hl : l.length * 8 ≤ 140737488351232) (hv : Ints w v l)
    (hf : ∀ x ∈ l, ∀ w1, Below w.heap.size w w1 → Calls Tryz.prog K (#[.int .i64 x] ++ cap) w1 fun r w2 => r = .returned (.int .i64 (g x)) ∧ w1 = w2) :
    Calls Tryz.prog 118 #[v, .func (.func K) #[] cap] w fun r w' => (∃ u, r = .returned u ∧ Ints w' u (l.map g)) ∧ Below w.heap.size w w' := by
  obtain ⟨a, cp, rfl, hc, hv⟩ := hv
  rcases Nat.eq_zero_or_pos l.length with h0 | h0
  · obtain rfl : l = [] := List.length_eq_zero_iff.1 h0
    go_enter Tryz.func118, Tryz.ntmps118
    go_wp2
    go_loop [5, 10] (fun v i => v = .slice none 0 0 ∧ i = .int .i64 0) (fun _ _ => 0)
    case atStart => exact ⟨rfl, rfl⟩
    case round =>
      obtain ⟨rfl, rfl⟩ := hrel
      go_wp2
      go_ret
      exact ⟨⟨_, rfl, Ints.nil _⟩, Below.refl _ _⟩
  · obtain ⟨b, off, rfl, hcs⟩ := hv h0
    clear hv
    obtain ⟨i0, hi, hz0, hz1, hz2⟩ := info_parts Tryz.infoErrno
    go_enter Tryz.func118, Tryz.ntmps118
    go_wp2
    go_loopw [5, 10] (fun v i wr => ∃ k : Nat, k ≤ l.length ∧ i = .int .i64 k ∧ wr.ownsRow w.heap.size 27 1 v k ((l.take k).map fun x => Value.int .i64 (g x)) ∧ Below w.heap.size w wr) (fun _ i _ => l.length - (intOf i).toNat)
    case atStart => exact ⟨0, by omega, rfl, World.ownsRow_nil _ _ _ _, Below.refl _ _⟩
    case round =>
      obtain ⟨k, hk, rfl, hown, hbel⟩ := hrel
      by_cases hlt : k < l.length
      · have hcell := hcs k hlt
        have hcell2 : wr.cell? ⟨b, off + k, none⟩ = some (.int .i64 (l[k]?.getD 0)) := (hbel.cell (p := ⟨b, off + k, none⟩) (lt_of_cellSome hcell)).trans hcell
        clear hcs hcell
        generalize hx : l[k]?.getD 0 = x at hcell2
        have HX := Lib.hid hx
        clear hx
        go_wp2_with fail
        refine (hf x (by rw [← HX.out]; simp [hlt]) wr hbel).mono ?_
        rintro e w2 ⟨rfl, rfl⟩
        go_wp2_with (at_builtin; refine wpList_append_own _ rfl _ _ 174 rfl w.heap.size 27 i0 (.int .i64 0) 1 8 Tryz.underlying174 hi hz0 hz1 hz2 rfl (by decide) _ _ _ rfl (hown.alloc _) ⟨wr.heap.size, 0, none⟩ 1 1 [.int .i64 (g x)] rfl rfl (cell_one_new _ _ _) (by simp [Value.oneCell']) (by unfold maxLen; omega) (by omega) (by have := hbel.size; simp; omega) ?_; intro v' w1 hown' hgrow _)
        have hbel' := below_own hbel hown hgrow
        have hown2 : w1.ownsRow w.heap.size 27 1 v' (k + 1) ((l.take (k + 1)).map fun x => Value.int .i64 (g x)) := by
          rw [take_succ_map _ _ _ x (getElem?_of_getD hlt HX.out)]; exact hown'
        clear hown hbel hown' hgrow
        go_wp2
        go_roundw
        case rel => exact ⟨k + 1, by omega, by go_num, hown2, hbel'⟩
        case measure => simp [intOf]; omega
      · obtain rfl : k = l.length := by omega
        have hout : Ints wr u5 (l.map g) := Ints.of_own (n := l.length) (by rw [List.take_length] at hown; rw [List.map_map]; exact hown) (by simp)
        clear hown
        go_wp2
        go_ret
        exact ⟨⟨_, rfl, hout⟩, hbel⟩

theorem Tryz.enterCheckCoefficient (args : Array Value) (w : World) : Sem.run Tryz.prog (callFunc 123 args) w = .ok (.enter 123 args) w :=
  MuLone.run_callFunc_enter Tryz.func123 (by kernel_rfl) rfl args w

def coefE (x : Int) : Int := withinE x (-100) 100

def checkPolyE (l : List Int) : Int :=
  if l.length = 0 then 12 else if 5 < l.length then 5 else firstE [firstE (l.map coefE), whenE (l[l.length - 1]?.getD 0 == 0) 6]

set_option maxHeartbeats 400000 in
theorem CheckPoly_any (v : Value) (l : List Int) (w : World) (hl : l.length * 8 ≤ 140737488351232) (hv : Ints w v l) :
    Calls Tryz.prog 72 #[v] w fun r w' => r = .returned (.int .i64 (checkPolyE l)) ∧ Below w.heap.size w w' := by
  have hv0 := hv
  obtain ⟨a, cp, rfl, hc, hv⟩ := hv
  by_cases h0 : l.length = 0
  · clear hv hv0
    go_enter Tryz.func72, Tryz.ntmps72
    go_wp2_with fail
    refine (when_any _ _ _).mono ?_
    rintro e w' ⟨rfl, rfl⟩
    go_wp2_with fail
    refine (when_any _ _ _).mono ?_
    rintro e w' ⟨rfl, rfl⟩
    go_wp2_with fail
    refine (first2 _ _ _ _).mono ?_
    rintro e w' ⟨rfl, rfl⟩
    go_wp2
    go_ret
    exact ⟨ret_int (by simp [checkPolyE, h0, whenE, firstE]), (Below.refl _ _).alloc (Nat.le_refl _) _⟩
  · have b0 : ((l.length : Int) == 0) = false := by rw [beq_eq_false_iff_ne]; omega
    by_cases h5 : 5 < l.length
    · clear hv hv0
      have b5 : decide ((5 : Int) < (l.length : Int)) = true := by simp; omega
      go_enter Tryz.func72, Tryz.ntmps72
      go_wp2_with fail
      refine (when_any _ _ _).mono ?_
      rintro e w' ⟨rfl, rfl⟩
      go_wp2_with fail
      refine (when_any _ _ _).mono ?_
      rintro e w' ⟨rfl, rfl⟩
      go_wp2_with fail
      refine (first2 _ _ _ _).mono ?_
      rintro e w' ⟨rfl, rfl⟩
      go_wp2
      go_ret
      exact ⟨ret_int (by simp [checkPolyE, h0, h5, whenE, firstE]), (Below.refl _ _).alloc (Nat.le_refl _) _⟩
    · obtain ⟨b, off, rfl, hcs⟩ := hv (by omega)
      have b5 : decide ((5 : Int) < (l.length : Int)) = false := by simp; omega
      have hcell := hcs (l.length - 1) (by omega)
      clear hcs hv
      generalize hx : l[l.length - 1]?.getD 0 = x at hcell
      have HX := Lib.hid hx
      clear hx
      go_enter Tryz.func72, Tryz.ntmps72
      go_wp2_with fail
      refine (when_any _ _ _).mono ?_
      rintro e w' ⟨rfl, rfl⟩
      go_wp2_with fail
      refine (when_any _ _ _).mono ?_
      rintro e w' ⟨rfl, rfl⟩
      go_wp2_with fail
      refine (first2 _ _ _ _).mono ?_
      rintro e w' ⟨rfl, rfl⟩
      go_wp2_with fail
      have hbw : b < w.heap.size := lt_of_cellSome hcell
      have hv1 := hv0.alloc (.cells #[Value.int IntKind.i64 (whenE false 12), Value.int IntKind.i64 (whenE false 5)] 27)
      have hb1 : Below w.heap.size w (w.alloc (.cells #[Value.int IntKind.i64 (whenE false 12), Value.int IntKind.i64 (whenE false 5)] 27)) := (Below.refl _ _).alloc (Nat.le_refl _) _
      have hcell1 := (hb1.cell (p := ⟨b, off + (l.length - 1), none⟩) hbw).trans hcell
      obtain ⟨W, hW⟩ : ∃ W, W = w.alloc (.cells #[Value.int IntKind.i64 (whenE false 12), Value.int IntKind.i64 (whenE false 5)] 27) := ⟨_, rfl⟩
      rw [← hW] at hv1 hb1 hcell1 ⊢
      clear hW
      have e1 : IntKind.i64.wrap ((l.length : Int) - 1) = (l.length : Int) - 1 := IntWalk.i64_in _ (by omega)
      have e2 : (0 : Int) ≤ (l.length : Int) - 1 := by omega
      have e3 : ((l.length : Int) - 1).toNat = l.length - 1 := by omega
      have e4 : (l.length : Int) - 1 < (l.length : Int) := by omega
      have e5 : (1 : Int) ≤ (l.length : Int) := by omega
      have e6 : 1 ≤ l.length := by omega
      have e7 : 0 < l.length := by omega
      have hmap : Calls Tryz.prog 118 #[.slice (some ⟨b, off, none⟩) l.length cp, .func (.func 123) #[] #[]] W.drew (fun r w' => (∃ u, r = .returned u ∧ Ints w' u (l.map coefE)) ∧ Below W.heap.size W w') := mappedE_any 123 #[] Tryz.enterCheckCoefficient coefE _ l _ hl hv1.drew (fun x _ w1 _ => checkCoefficient_any x w1) |>.mono fun _ _ h => ⟨h.1, (Below.refl _ _).drew.trans h.2⟩
      go_region_held3 (fun w' => w'.cell? ⟨b, off + (l.length - 1), none⟩ = some (.int .i64 x)) (go_keep)
        (first | (go_at_call 118; (with_reducible refine hmap.mono ?_); rintro e w2 ⟨⟨u, rfl, hu⟩, hb2⟩; have hcell2 := (hb2.cell (p := ⟨b, off + (l.length - 1), none⟩) (lt_of_cellSome hcell1)).trans hcell1) | (go_at_call 107; (with_reducible refine (when_any _ _ _).mono ?_); rintro e w' ⟨rfl, rfl⟩) | (go_at_call 90; (with_reducible refine (first_any _ _ _ ?_ hu).mono ?_); (simp; unfold maxLen; omega); rintro e w' ⟨rfl, rfl⟩) | (go_at_call 90; (with_reducible refine (first2 _ _ _ _).mono ?_); rintro e w' ⟨rfl, rfl⟩))
      go_wp2
      go_ret
      exact ⟨ret_int (by rw [checkPolyE, if_neg h0, if_neg h5, HX.out]), (hb1.trans (hb2.mono hb1.size)).alloc (Nat.le_trans hb1.size hb2.size) _⟩

end Go.Proofs.YtnlmaildmeihgaaGreatDoor
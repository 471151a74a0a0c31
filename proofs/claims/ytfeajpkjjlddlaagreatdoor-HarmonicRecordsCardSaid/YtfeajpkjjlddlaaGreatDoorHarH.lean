/- The package harmonic: patterns, limits, spectra. -/
import Derived.Test.YtfeajpkjjlddlaaGreatDoorHarG
namespace Go.Proofs.YtfeajpkjjlddlaaGreatDoor
set_option linter.unusedSimpArgs false
set_option linter.unusedVariables false
open Go.RowKit

theorem loadRow {T : TypeId} {l : List Int} {w : World} {B : Nat} {n : Nat} {e : TypeId} (hu : Tryz.prog.underlying T = some (.array n e)) (hi : (Tryz.prog.info? T).map (·.size) = some l.length) (h : BlkI w B T l) : Sem.run Tryz.prog (Instr.loadAt T (.pointer (some ⟨B, 0, none⟩))) w = .ok (.agg (ia l)) w := by
  have := run_loadVar_row (P := Tryz.prog) w B T T (ia l) (0, 0) _ h hu rfl (by rw [hi, ia_size])
  simp only [Instr.loadAt, Instr.sureAddr, Sem.run_bind, Sem.run_pure, Result.andThen_ok, this]
theorem Tryz.undA7 : Tryz.prog.underlying 63 = some (.array 7 3) := by kernel_rfl
theorem Tryz.infoA7 : (Tryz.prog.info? 63).map (·.size) = some 7 := by kernel_rfl
theorem load7 {l : List Int} (hl : l.length = 7) {w : World} {B : Nat} (h : BlkI w B 63 l) : Sem.run Tryz.prog (Instr.loadAt 63 (.pointer (some ⟨B, 0, none⟩))) w = .ok (.agg (ia l)) w := loadRow Tryz.undA7 (by rw [Tryz.infoA7, hl]) h

def patE (l : List Int) : Int := allE l 100
set_option maxHeartbeats 1000000 in
theorem checkPattern_any (l : List Int) (w : World) (hl : l.length = 12) :
    Calls Tryz.prog 42 #[.agg (ia l)] w fun e w' => e = .returned (.int .i64 (patE l)) ∧ Below w.heap.size w w' := by
  go_enter Tryz.func42, Tryz.ntmps42
  go_upto_region 1 with fail
  obtain ⟨W1, hW1⟩ : ∃ W, W = w.alloc (.cells (ia l) 30) := ⟨_, rfl⟩
  have kW1 : Below w.heap.size w W1 := by rw [hW1]; exact below_new _ _
  have iW1 : BlkI W1 w.heap.size 30 l := by rw [hW1]; exact BlkI.new _ _ _
  rw [← hW1]
  clear hW1
  go_wp2_with fail
  refine (checkAll_any _ l 100 W1 (iW1.ints hl.symm) (by omega) (by omega)).mono ?_
  rintro e w' ⟨rfl, hl⟩
  go_wp2_with fail
  go_ret
  exact ⟨rfl, bthen kW1 hl⟩

theorem Tryz.enterCheckLimits1 (args : Array Value) (w : World) : Sem.run Tryz.prog (callFunc 111 args) w = .ok (.enter 111 args) w :=
  MuLone.run_callFunc_enter Tryz.func111 (by kernel_rfl) rfl args w
set_option maxHeartbeats 400000 in
theorem checkLimits1_any (n : Int) (w : World) :
    Calls Tryz.prog 111 #[.int .i64 n] w fun r w' => r = .returned (.int .i64 (withinE n 0 256)) ∧ w = w' := by
  go_enter Tryz.func111, Tryz.ntmps111
  go_wp2_with fail
  refine (withinH_any _ _ _ _).mono ?_
  rintro e w' ⟨rfl, rfl⟩
  go_wp2_with fail
  go_ret
  exact ⟨rfl, rfl⟩
def limE (l : List Int) : Int := firstE (l.map fun n => withinE n 0 256)
set_option maxHeartbeats 1000000 in
theorem checkLimits_any (l : List Int) (w : World) (hl : l.length = 7) :
    Calls Tryz.prog 65 #[.agg (ia l)] w fun e w' => e = .returned (.int .i64 (limE l)) ∧ Below w.heap.size w w' := by
  go_enter Tryz.func65, Tryz.ntmps65
  go_upto_region 1 with fail
  obtain ⟨W1, hW1⟩ : ∃ W, W = w.alloc (.cells (ia l) 63) := ⟨_, rfl⟩
  have kW1 : Below w.heap.size w W1 := by rw [hW1]; exact below_new _ _
  have iW1 : BlkI W1 w.heap.size 63 l := by rw [hW1]; exact BlkI.new _ _ _
  rw [← hW1]
  clear hW1
  go_wp2_with fail
  refine (mappedEH_any 111 #[] Tryz.enterCheckLimits1 (fun n => withinE n 0 256) _ l W1 (by omega) (iW1.ints hl.symm) (fun x _ w2 hb => checkLimits1_any x w2)).mono ?_
  rintro e w2 ⟨⟨u, rfl, hu⟩, hl2⟩
  go_wp2_with fail
  refine (firstH_any u _ w2 (by simp [maxLen]; omega) hu).mono ?_
  rintro e w' ⟨rfl, rfl⟩
  go_wp2_with fail
  go_ret
  exact ⟨rfl, bthen kW1 hl2⟩

/-- the numbers from lo on, n of them, for which g holds. -/
def chosenL (g : Int → Bool) (lo : Int) (n : Nat) : List Int := (upto (fun k => lo + (k : Int)) n).filter g
theorem chosenL_succ (g : Int → Bool) (lo : Int) (n : Nat) : chosenL g lo (n + 1) = if g (lo + n) then chosenL g lo n ++ [lo + (n : Int)] else chosenL g lo n := by
  unfold chosenL
  rw [upto_succ, List.filter_append]
  by_cases h : g (lo + (n : Int)) = true
  · simp [h]
  · simp [h]
theorem chosenL_le (g : Int → Bool) (lo : Int) (n : Nat) : (chosenL g lo n).length ≤ n := by
  unfold chosenL
  exact Nat.le_trans (List.length_filter_le _ _) (by rw [upto_length]; exact Nat.le_refl _)

set_option maxHeartbeats 1000000 in
theorem chosen_any (K : Nat) (cap : Array Value) (henter : ∀ args w, Sem.run Tryz.prog (callFunc K args) w = .ok (.enter K args) w) (g : Int → Bool) (lo hi : Int) (n : Nat) (w : World) (hlo : 0 ≤ lo ∧ lo ≤ 1000) (hhi : hi + 1 = lo + n) (hn : n ≤ 1000)
    (hf : ∀ x, lo ≤ x → x ≤ hi → ∀ w1, Below w.heap.size w w1 → Calls Tryz.prog K (#[.int .i64 x] ++ cap) w1 fun r w2 => r = .returned (.bool (g x)) ∧ Below w1.heap.size w1 w2) :
    Calls Tryz.prog 63 #[.int .i64 lo, .int .i64 hi, .func (.func K) #[] cap] w fun r w' => (∃ u, r = .returned u ∧ Ints w' u (chosenL g lo n)) ∧ Below w.heap.size w w' := by
  obtain ⟨i0, hi0, hz0, hz1, hz2⟩ := info_parts Tryz.infoInt
  go_enter Tryz.func63, Tryz.ntmps63
  go_wp2_with fail
  go_loopw [7, 8] (fun v i wr => ∃ k : Nat, k ≤ n ∧ i = .int .i64 (lo + k) ∧ wr.ownsRow w.heap.size 3 1 v (chosenL g lo k).length ((chosenL g lo k).map (Value.int .i64)) ∧ Below w.heap.size w wr) (fun _ i _ => (hi + 1 - intOf i).toNat)
  case atStart => exact ⟨0, by omega, by simp, World.ownsRow_nil _ _ _ _, Below.refl _ _⟩
  case round =>
    obtain ⟨k, hk, rfl, hown, hbel⟩ := hrel
    by_cases hlt : k < n
    · have hd : lo + (k : Int) ≤ hi := by omega
      have hL := chosenL_le g lo k
      have hS := chosenL_succ g lo k
      obtain ⟨L, hLe⟩ : ∃ L, L = chosenL g lo k := ⟨_, rfl⟩
      rw [← hLe] at hown hL hS
      have HS := Lib.hid hS
      clear hS hLe
      have TG := Lib.hid (hf (lo + k) (by omega) hd wr hbel)
      obtain ⟨b, hb⟩ : ∃ b, b = g (lo + (k : Int)) := ⟨_, rfl⟩
      rw [← hb] at TG HS
      clear hb
      have hk1 : (k : Int) ≤ 1000 := by omega
      go_wp2_with fail
      refine TG.out.mono ?_
      rintro e w2 ⟨rfl, hb2⟩
      replace hown := own_below hown hb2
      replace hbel := bthen hbel hb2
      clear hb2 TG
      cases b
      · go_wp2_with fail
        go_roundw
        case rel => exact ⟨k + 1, by omega, by go_num, by rw [HS.out]; exact hown, hbel⟩
        case measure => simp [intOf]; omega
      · go_wp2_with (at_builtin; refine wpList_append_own _ rfl _ _ 59 rfl w.heap.size 3 i0 (.int .i64 0) 1 8 Tryz.underlying59 hi0 hz0 hz1 hz2 rfl (by decide) _ _ _ rfl (hown.alloc _) ⟨w2.heap.size, 0, none⟩ 1 1 [.int .i64 (lo + k)] rfl rfl (cell_one_new _ _ _) (by simp [Value.oneCell']) (by unfold maxLen; omega) (by omega) (by have := hbel.size; simp; omega) ?_; intro v' w3 hown' hgrow _)
        have hbel' := below_own hbel hown hgrow
        clear hown hbel hgrow
        go_wp2
        go_roundw
        case rel => exact ⟨k + 1, by omega, by go_num, by rw [HS.out]; simp only [if_true, List.length_append, List.length_singleton, List.map_append, List.map_cons, List.map_nil]; exact hown', hbel'⟩
        case measure => simp [intOf]; omega
    · obtain rfl : k = n := by omega
      have hd : ¬ lo + (k : Int) ≤ hi := by omega
      have hout : Ints wr u7 (chosenL g lo k) := Ints.of_own hown rfl
      clear hown
      go_wp2
      go_ret
      exact ⟨⟨_, rfl, hout⟩, hbel⟩
end Go.Proofs.YtfeajpkjjlddlaaGreatDoor

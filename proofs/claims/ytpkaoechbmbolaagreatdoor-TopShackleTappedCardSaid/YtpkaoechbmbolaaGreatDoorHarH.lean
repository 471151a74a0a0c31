/- The package harmonic: patterns, limits, spectra. -/
import Derived.Test.YtpkaoechbmbolaaGreatDoorHarG
namespace Go.Proofs.YtpkaoechbmbolaaGreatDoor
set_option linter.unusedSimpArgs false
set_option linter.unusedVariables false
open Go.RowKit

theorem loadRow {T : TypeId} {l : List Int} {w : World} {B : Nat} {n : Nat} {e : TypeId} (hu : Tryz.prog.underlying T = some (.array n e)) (hi : (Tryz.prog.info? T).map (·.size) = some l.length) (h : BlkI w B T l) : Sem.run Tryz.prog (Instr.loadAt T (.pointer (some ⟨B, 0, none⟩))) w = .ok (.agg (ia l)) w := by
  have := run_loadVar_row (P := Tryz.prog) w B T T (ia l) (0, 0) _ h hu rfl (by rw [hi, ia_size])
  simp only [Instr.loadAt, Instr.sureAddr, Sem.run_bind, Sem.run_pure, Result.andThen_ok, this]
def patE (l : List Int) : Int := allE l 100
set_option maxHeartbeats 1000000 in
theorem checkPattern_any (l : List Int) (w : World) (hl : l.length = 12) :
    Calls Tryz.prog 50 #[.agg (ia l)] w fun e w' => e = .returned (.int .i64 (patE l)) ∧ Below w.heap.size w w' := by
  go_enter Tryz.func50, Tryz.ntmps50
  go_upto_region 1 with fail
  obtain ⟨W1, hW1⟩ : ∃ W, W = w.alloc (.cells (ia l) 72) := ⟨_, rfl⟩
  have kW1 : Below w.heap.size w W1 := by rw [hW1]; exact below_new _ _
  have iW1 : BlkI W1 w.heap.size 72 l := by rw [hW1]; exact BlkI.new _ _ _
  rw [← hW1]
  clear hW1
  go_wp2_with fail
  refine (checkAll_any _ l 100 W1 (iW1.ints hl.symm) (by omega) (by omega)).mono ?_
  rintro e w' ⟨rfl, hl⟩
  go_wp2_with fail
  go_ret
  exact ⟨rfl, bthen kW1 hl⟩

def limE (l : List Int) : Int := firstE (l.map fun n => withinE n 0 256)
/-- the numbers from lo on, n of them, for which g holds. -/
def chosenL (g : Int → Bool) (lo : Int) (n : Nat) : List Int := (upto (fun k => lo + (k : Int)) n).filter g
theorem chosenL_succ (g : Int → Bool) (lo : Int) (n : Nat) : chosenL g lo (n + 1) = if g (lo + n) then chosenL g lo n ++ [lo + (n : Int)] else chosenL g lo n := by
  unfold chosenL
  rw [upto_succ, List.filter_append]
  by_cases h : g (lo + (n : Int)) = true
  · simp [h]
  · simp [h]
theorem chosenL_le (g : Int → Bool) (lo : Int) (n : Nat) : (chosenL g lo n).length ≤ n := by
  unfold chosenL
  exact Nat.le_trans (List.length_filter_le _ _) (by rw [upto_length]; exact Nat.le_refl _)

end Go.Proofs.YtpkaoechbmbolaaGreatDoor

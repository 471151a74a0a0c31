/- The reference: HasInt. -/
import Derived.Test.YtjcmohfpenfepaaGreatDoorVeE
namespace Go.Proofs.YtjcmohfpenfepaaGreatDoor
set_option linter.unusedSimpArgs false
set_option linter.unusedVariables false
open Go.RowKit
def hasI (l : List Int) (n : Int) : Bool := l.contains n
theorem HasInt_any (v : Value) (l : List Int) (n : Int) (w : World) (hl : l.length ≤ 1000000000) (hv : Ints w v l) :
 Calls Tryz.prog 16 #[v, .int .i64 n] w fun r w' => r = .returned (.bool (hasI l n)) ∧ w = w' := by
 obtain ⟨a, cap, rfl, hc, hv⟩ := hv
 rcases Nat.eq_zero_or_pos l.length with h0 | h0
 ·obtain rfl : l = [] := List.length_eq_zero_iff.1 h0
  go_enter Tryz.func16, Tryz.ntmps16
  go_wp2
  go_loop [5] (fun i => i = .int .i64 0) (fun _ => 0)
  case atStart => rfl
  case round =>
   obtain rfl := hrel
   go_wp2
   go_ret
   exact ⟨rfl, rfl⟩
 ·obtain ⟨b, off, rfl, hcs⟩ := hv h0
  clear hv
  go_enter Tryz.func16, Tryz.ntmps16
  go_wp2
  go_loop [5] (fun i => ∃ k : Nat, k ≤ l.length ∧ i = .int .i64 k ∧ hasI (l.take k) n = false) (fun i => l.length - (intOf i).toNat)
  case atStart => exact ⟨0, by omega, rfl, rfl⟩
  case round =>
   obtain ⟨k, hk, rfl, hf⟩ := hrel
   by_cases hlt : k < l.length
   ·have hcell := hcs k hlt
    obtain ⟨x, hx⟩ : ∃ x, l[k]? = some x := ⟨_, List.getElem?_eq_getElem hlt⟩
    rw [hx] at hcell
    simp only [Option.getD_some] at hcell
    have HX := Lib.hid hx
    have HF := Lib.hid hf
    clear hcs hx hf
    by_cases hz : x = n
    ·have HR := Lib.hid (show hasI l n = true by rw [hasI, List.contains_iff_mem, ← hz]; exact List.mem_of_getElem? HX.out)
     subst hz
     go_wp2
     go_ret
     exact ⟨by rw [HR.out]; rfl, rfl⟩
    ·have HR := Lib.hid (show hasI (l.take (k + 1)) n = false by
      have := HF.out
      unfold hasI at this ⊢
      rw [List.take_add_one, HX.out]
      simp at this ⊢
      exact ⟨this, fun h => hz h.symm⟩)
     go_wp2
     go_round
     case rel => exact ⟨k + 1, by omega, by go_num, HR.out⟩
     case measure => simp [intOf]; omega
   ·obtain rfl : k = l.length := by omega
    rw [List.take_length] at hf
    have HR := Lib.hid hf
    clear hf
    go_wp2
    go_ret
    exact ⟨by rw [HR.out]; rfl, rfl⟩
end Go.Proofs.YtjcmohfpenfepaaGreatDoor

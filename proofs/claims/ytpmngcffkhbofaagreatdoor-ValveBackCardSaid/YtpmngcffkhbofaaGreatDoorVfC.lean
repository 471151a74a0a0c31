/- The law's conversions of telegrams. (printed by gen/valEB.py) -/
import Derived.Test.YtpmngcffkhbofaaGreatDoorVeE
namespace Go.Proofs.YtpmngcffkhbofaaGreatDoor
section
set_option linter.unusedSimpArgs false
set_option linter.unusedVariables false
open Go.RowKit
end
section
set_option linter.unusedSimpArgs false
set_option linter.unusedVariables false
open Go.RowKit
end
section
set_option linter.unusedSimpArgs false
set_option linter.unusedVariables false
open Go.RowKit
theorem and4095 (x : Int) : bits .and .i64 x 4095 = x % 4096 := by
 show IntKind.i64.wrap ((BitVec.ofInt 64 x &&& BitVec.ofInt 64 4095).toNat : Nat) = _
 have e2 : BitVec.ofInt 64 4095 = BitVec.ofNat 64 4095 := rfl
 rw [e2, BitVec.toNat_and, BitVec.toNat_ofNat, BitVec.toNat_ofInt]
 rw [show (4095 % 2 ^ 64 : Nat) = 2 ^ 12 - 1 by decide, Nat.and_two_pow_sub_one_eq_mod]
 have h : ((x % ((2 ^ 64 : Nat) : Int)).toNat % 2 ^ 12 : Nat) = (x % 4096).toNat := by omega
 rw [h, IntWalk.i64_in _ (by omega)]; omega
end
end Go.Proofs.YtpmngcffkhbofaaGreatDoor

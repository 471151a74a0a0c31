/- The package harmonic: Print. -/
import Derived.Test.YtpkaoechbmbolaaGreatDoorHpI
namespace Go.Proofs.YtpkaoechbmbolaaGreatDoor
set_option linter.unusedSimpArgs false
set_option linter.unusedVariables false
open Go.RowKit

theorem take_eq_succ {α : Type} {a b : List α} {k : Nat} {x : α} (h : a.take k = b.take k) (ha : a[k]? = some x) (hb : b[k]? = some x) : a.take (k + 1) = b.take (k + 1) := by
  rw [List.take_add_one, List.take_add_one, h, ha, hb]
theorem ne_of_get {α : Type} {a b : List α} {k : Nat} {x y : α} (ha : a[k]? = some x) (hb : b[k]? = some y) (h : x ≠ y) : a ≠ b := by
  rintro rfl; rw [ha] at hb; exact h (Option.some.inj hb)

theorem word_size (n : Int) (h : 0 ≤ n ∧ n ≤ 2000) : (word n).size ≤ 21 := by
  have h := Lib.itoa_length_le n (by omega) (by omega)
  show (Lib.itoa n).toArray.size ≤ 21
  simpa using h
theorem lineB_size (x : Int × Int) (h : brE x = 0) : (lineB x).size ≤ 60 := by
  obtain ⟨h1, h2⟩ := brE_zero h
  have a := word_size x.1 (by omega)
  have b := word_size x.2 (by omega)
  unfold lineB
  simp only [ByteArray.size_append]
  have := size7; have := size1a; have := size1b
  omega
end Go.Proofs.YtpkaoechbmbolaaGreatDoor

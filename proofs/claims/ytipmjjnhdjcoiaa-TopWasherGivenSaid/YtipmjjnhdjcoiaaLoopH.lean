import Derived.Test.YtipmjjnhdjcoiaaLoopD
namespace Go.Proofs.Ytipmjjnhdjcoiaa
open Go.RowKit

theorem degree_i {v : Value} {l : List Int} {w0 : World} (h : Ints w0 v l) (hn : l.length ≤ 1000000) (w : World) :
    Calls Try.prog 49 #[v] w fun r w' => r = .returned (.int .i64 ((l.length : Int) - 1)) ∧ w = w' := by
  obtain ⟨a, cp, rfl, _⟩ := h
  exact degree_any a _ cp w hn

end Go.Proofs.Ytipmjjnhdjcoiaa

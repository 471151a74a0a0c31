/- the head of a list that a slice holds; a slice laid new. -/
import Derived.Test.YtnlmaildmeihgaaGreatDoorLoopM
namespace Go.Proofs.YtnlmaildmeihgaaGreatDoor
open Go.RowKit

theorem Ints.head {w : World} {v : Value} {l : List Int} (h : Ints w v l) (h0 : 0 < l.length) : ∃ b off cap, v = .slice (some ⟨b, off, none⟩) l.length cap ∧ ∀ j, j < l.length → w.cell? ⟨b, off + j, none⟩ = some (.int .i64 (l[j]?.getD 0)) := by
  obtain ⟨a, cap, rfl, _, hc⟩ := h
  obtain ⟨b, off, rfl, hd⟩ := hc h0
  exact ⟨b, off, cap, rfl, hd⟩

theorem Ints.new (w : World) (T : TypeId) (l : List Int) (n b : Nat) (C : Array Value) (hb : b = w.heap.size) (hC : C = (l.map (Value.int .i64)).toArray) (hn : n = l.length) : Ints (w.alloc (.cells C T)) (.slice (some ⟨b, 0, none⟩) n n) l := by
  subst hb hC
  exact Ints.lit w T l n hn

end Go.Proofs.YtnlmaildmeihgaaGreatDoor

import Derived.Test.YtnlmaildmeihgaaGreatDoorLoopB
namespace Go.Proofs.YtnlmaildmeihgaaGreatDoor
open Go.RowKit

def tInner (q : List Int) (i : Nat) (a : Int) (out : List Int) : Nat → List Int
  | 0 => out
  | k + 1 => (tInner q i a out k).set (i + k) (wrap64 ((tInner q i a out k)[i + k]?.getD 0 + wrap64 (a * q[k]?.getD 0)))
def tOuter (p q : List Int) (out : List Int) : Nat → List Int
  | 0 => out
  | i + 1 => tInner q i (p[i]?.getD 0) (tOuter p q out i) q.length
def timesW (p q : List Int) : List Int := tOuter p q (List.replicate (p.length + q.length - 1) 0) p.length

theorem tInner_length (q : List Int) (i : Nat) (a : Int) (out : List Int) (k : Nat) : (tInner q i a out k).length = out.length := by
  induction k with
  | zero => rfl
  | succ k ih => simp [tInner, ih]
theorem tOuter_length (p q out : List Int) (k : Nat) : (tOuter p q out k).length = out.length := by
  induction k with
  | zero => rfl
  | succ k ih => simp [tOuter, tInner_length, ih]
theorem timesW_length (p q : List Int) : (timesW p q).length = p.length + q.length - 1 := by simp [timesW, tOuter_length]

theorem Tryz.infoInt : (Tryz.prog.info? 3).map (fun i => (i.zero, i.size, i.bytes)) = some (some (.int .i64 0), 1, 8) := by kernel_rfl

set_option maxHeartbeats 1000000 in
theorem times_any (vp vq : Value) (p q : List Int) (w : World) (hp : Ints w vp p) (hq : Ints w vq q) (hp1 : 1 ≤ p.length) (hq1 : 1 ≤ q.length) (hp2 : p.length ≤ 1000000) (hq2 : q.length ≤ 1000000) :
    Calls Tryz.prog 120 #[vp, vq] w fun r w' => r = .returned (.slice (some ⟨w.heap.size, 0, none⟩) (p.length + q.length - 1) (p.length + q.length - 1)) ∧ w.alloc (.cells (ia (timesW p q)) 3) = w' := by
  obtain ⟨ap, cp, rfl, hcp, hp⟩ := hp
  obtain ⟨aq, cq, rfl, hcq, hq⟩ := hq
  obtain ⟨bp, op, rfl, hpc⟩ := hp hp1
  obtain ⟨bq, oq, rfl, hqc⟩ := hq hq1
  clear hp hq
  have hmk := run_make_row' (P := Tryz.prog) 26 3 (.int .i64 0) 8 Tryz.underlying26 Tryz.infoInt rfl .i64 .i64 (p.length + q.length - 1) (by omega) (by omega)
  rw [ia_made] at hmk
  rw [show ((p.length + q.length - 1 : Nat) : Int) = (p.length : Int) + (q.length : Int) - 1 from by omega] at hmk
  go_enter Tryz.func120, Tryz.ntmps120
  go_wp2
  clear hmk
  have hz : (List.replicate (p.length + q.length - 1) (0 : Int)).length = p.length + q.length - 1 := by simp
  generalize hZ : List.replicate (p.length + q.length - 1) (0 : Int) = Z at hz
  have HZ := Lib.hid hZ
  clear hZ
  go_loopw [19] (fun i wr => ∃ k : Nat, k ≤ p.length ∧ i = .int .i64 k ∧ wr = w.alloc (.cells (ia (tOuter p q Z k)) 3)) (fun i _ => p.length - (intOf i).toNat)
  case atStart => exact ⟨0, by omega, rfl, rfl⟩
  case round =>
    obtain ⟨i, hi, rfl, rfl⟩ := hrel
    by_cases hlt : i < p.length
    · have hcell := cell_past (hpc i hlt) (.cells (ia (tOuter p q Z i)) 3)
      have hlen := tOuter_length p q Z i
      generalize ho : tOuter p q Z i = out at hcell hlen
      have HO := Lib.hid ho
      clear ho
      generalize ha : p[i]?.getD 0 = a at hcell
      have HA := Lib.hid ha
      clear ha
      go_wp2
      go_loopw [26] (fun j wr => ∃ k : Nat, k ≤ q.length ∧ j = .int .i64 k ∧ wr = w.alloc (.cells (ia (tInner q i a out k)) 3)) (fun j _ => q.length - (intOf j).toNat)
      case atStart => exact ⟨0, by omega, rfl, rfl⟩
      case round =>
        obtain ⟨k, hk, rfl, rfl⟩ := hrel
        by_cases hlk : k < q.length
        · have hcell2 := cell_past (hqc k hlk) (.cells (ia (tInner q i a out k)) 3)
          have hlen2 := tInner_length q i a out k
          have hnext : ∀ x, x = wrap64 ((tInner q i a out k)[i + k]?.getD 0 + wrap64 (a * q[k]?.getD 0)) → (ia (tInner q i a out k)).setIfInBounds (i + k) (.int .i64 x) = ia (tInner q i a out (k + 1)) := fun x hx => by rw [ia_set, tInner, hx]
          have HN := Lib.hid hnext
          clear hnext
          generalize tInner q i a out k = o2 at hcell2 hlen2 HN
          generalize q[k]?.getD 0 = b at hcell2 HN
          have hoc := ia_cell w 3 o2 (i + k) (by omega)
          have hof := ia_frozen w 3 o2 (i + k)
          generalize o2[i + k]?.getD 0 = c at hoc HN
          clear hcell
          go_wp2
          go_roundw
          case rel => exact ⟨k + 1, by omega, by go_num, by rw [HN.out _ rfl]⟩
          case measure => simp [intOf]; omega
        · obtain rfl : k = q.length := by omega
          have hN : tInner q i a out q.length = tOuter p q Z (i + 1) := by rw [tOuter, HO.out, HA.out]
          have HN := Lib.hid hN
          clear hN hcell
          go_wp2
          go_roundw
          case rel => exact ⟨i + 1, by omega, by go_num, by rw [HN.out]⟩
          case measure => simp [intOf]; omega
    · obtain rfl : i = p.length := by omega
      go_wp2
      go_ret
      exact ⟨rfl, by rw [timesW, HZ.out]⟩

end Go.Proofs.YtnlmaildmeihgaaGreatDoor

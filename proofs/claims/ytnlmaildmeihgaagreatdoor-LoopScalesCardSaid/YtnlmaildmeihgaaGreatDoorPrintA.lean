/- Print: numbers as words. -/
import Derived.Test.YtnlmaildmeihgaaGreatDoorRingE
import Derived.Test.YtnlmaildmeihgaaGreatDoorShelf
import Derived.Lib.LaidTab
namespace Go.Proofs.YtnlmaildmeihgaaGreatDoor
open Go.RowKit

theorem below_grow_drew (w : World) (k : Nat) (os : Array Obj) : Below w.heap.size w (Go.Sort.grow (w.drewN k) os) :=
  ⟨rfl, rfl, rfl, by simp [Go.Sort.grow], fun i hi => by
    show ((w.drewN k).heap ++ os)[i]? = _
    rw [Array.getElem?_append_left (by show i < w.heap.size; omega)]
    rfl⟩

/-- the library's table of the powers of ten, as its initialiser lays it. -/
def Pows (w : World) : Prop := Lib.TabIs Tryz.prog w "internal/strconv.uint64pow10" .u64 Lib.pow10Tab
theorem Pows.below {w w' : World} (h : Pows w) (hb : Below w.heap.size w w') : Pows w' := by
  have hg : Tryz.prog.globalNamed "internal/strconv.uint64pow10" = some 1 := by kernel_rfl
  unfold Pows Lib.TabIs World.var? at h ⊢
  rw [hg] at h ⊢
  simp only [Option.bind_some] at h ⊢
  have hlt : 1 < w.heap.size := by
    rcases Nat.lt_or_ge 1 w.heap.size with h' | h'
    · exact h'
    · simp [h'] at h
  rw [hb.block _ hlt]
  exact h

/-- an integer's decimal numeral. -/
def word (n : Int) : ByteArray := ⟨(Lib.itoa n).toArray⟩
theorem Itoa_any (n : Int) (h0 : -9223372036854775808 ≤ n) (h1 : n ≤ 9223372036854775807) (w : World) (hp : Pows w) :
    Calls Tryz.prog 131 #[.int .i64 n] w fun e w' => e = .returned (.string (word n)) ∧ Below w.heap.size w w' :=
  (Tryz.strconv_Itoa n h0 h1 w hp).mono fun e w' h => by
    obtain ⟨h1, k, os, rfl⟩ := h
    exact ⟨h1, below_grow_drew w k os⟩

theorem Tryz.infoString : (Tryz.prog.info? 9).map (fun i => (i.zero, i.size, i.bytes)) = some (some (.string ⟨#[]⟩), 1, 16) := by kernel_rfl

/-- each number's numeral. -/
def wordsV (l : List Int) : List Value := l.map fun x => .string (word x)
theorem wordsV_length (l : List Int) : (wordsV l).length = l.length := by simp [wordsV]

set_option maxHeartbeats 400000 in
theorem words_any (v : Value) (l : List Int) (w : World) (hl : l.length ≤ 1000000) (hv : Ints w v l) (hp : Pows w) (hk : ∀ x ∈ l, -9223372036854775808 ≤ x ∧ x ≤ 9223372036854775807) :
    Calls Tryz.prog 130 #[v, .func (.func 131) #[] #[]] w fun r w' => (∃ u, r = .returned u ∧ Vals w' u (wordsV l)) ∧ Below w.heap.size w w' := by
  obtain ⟨a, cp, rfl, hc, hv⟩ := hv
  rcases Nat.eq_zero_or_pos l.length with h0 | h0
  · obtain rfl : l = [] := List.length_eq_zero_iff.1 h0
    go_enter Tryz.func130, Tryz.ntmps130
    go_wp2
    go_loop [5, 10] (fun v i => v = .slice none 0 0 ∧ i = .int .i64 0) (fun _ _ => 0)
    case atStart => exact ⟨rfl, rfl⟩
    case round =>
      obtain ⟨rfl, rfl⟩ := hrel
      go_wp2
      go_ret
      exact ⟨⟨_, rfl, Vals.nil _⟩, Below.refl _ _⟩
  · obtain ⟨b, off, rfl, hcs⟩ := hv h0
    clear hv
    obtain ⟨i0, hi, hz0, hz1, hz2⟩ := info_parts Tryz.infoString
    go_enter Tryz.func130, Tryz.ntmps130
    go_wp2
    go_loopw [5, 10] (fun v i wr => ∃ k : Nat, k ≤ l.length ∧ i = .int .i64 k ∧ wr.ownsRow w.heap.size 9 1 v k ((l.take k).map fun x => Value.string (word x)) ∧ Below w.heap.size w wr) (fun _ i _ => l.length - (intOf i).toNat)
    case atStart => exact ⟨0, by omega, rfl, World.ownsRow_nil _ _ _ _, Below.refl _ _⟩
    case round =>
      obtain ⟨k, hkl, rfl, hown, hbel⟩ := hrel
      by_cases hlt : k < l.length
      · have hcell := hcs k hlt
        have hcell2 : wr.cell? ⟨b, off + k, none⟩ = some (.int .i64 (l[k]?.getD 0)) := (hbel.cell (p := ⟨b, off + k, none⟩) (lt_of_cellSome hcell)).trans hcell
        clear hcs hcell
        generalize hx : l[k]?.getD 0 = x at hcell2
        have hm := hk x (by rw [← hx]; simp [hlt])
        have HX := Lib.hid hx
        have HI := Lib.hid (Itoa_any x hm.1 hm.2 wr (hp.below hbel))
        clear hx hm
        clear hk
        go_wp2_with fail
        refine HI.out.mono ?_
        rintro e w2 ⟨rfl, hb2⟩
        have hown2 := own_below hown hb2
        have hbel2 := bthen hbel hb2
        have hs2 := hbel2.size
        clear hown
        go_wp2_with (at_builtin; refine wpList_append_own _ rfl _ _ 144 rfl w.heap.size 9 i0 (.string ⟨#[]⟩) 1 16 Tryz.underlying144 hi hz0 hz1 hz2 rfl (by decide) _ _ _ rfl (hown2.alloc _) ⟨w2.heap.size, 0, none⟩ 1 1 [.string (word x)] rfl rfl (cell_one_new _ _ _) (by simp [Value.oneCell']) (by unfold maxLen; omega) (by omega) (by simp; omega) ?_; intro v' w1 hown' hgrow _)
        have hbel' := below_own hbel2 hown2 hgrow
        have hown3 : w1.ownsRow w.heap.size 9 1 v' (k + 1) ((l.take (k + 1)).map fun x => Value.string (word x)) := by
          rw [take_succ_map _ _ _ x (getElem?_of_getD hlt HX.out)]; exact hown'
        clear hown2 hbel hbel2 hown' hgrow
        go_wp2
        go_roundw
        case rel => exact ⟨k + 1, by omega, by go_num, hown3, hbel'⟩
        case measure => simp [intOf]; omega
      · obtain rfl : k = l.length := by omega
        have hout : Vals wr u5 (wordsV l) := by
          have h := Vals.of_own (us := wordsV l) (v := u5) (w := wr) (base := w.heap.size) (e := 9) (by rw [wordsV_length]; rw [List.take_length] at hown; exact hown)
          exact h
        clear hown
        go_wp2
        go_ret
        exact ⟨⟨_, rfl, hout⟩, hbel⟩

end Go.Proofs.YtnlmaildmeihgaaGreatDoor

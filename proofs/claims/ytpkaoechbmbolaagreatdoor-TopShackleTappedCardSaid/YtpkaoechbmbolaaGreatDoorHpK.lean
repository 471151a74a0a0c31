/- The package harmonic: the taps are sorted. -/
import Derived.Test.YtpkaoechbmbolaaGreatDoorHpJ
import Derived.Test.YtpkaoechbmbolaaGreatDoorSort
namespace Go.Proofs.YtpkaoechbmbolaaGreatDoor
set_option linter.unusedSimpArgs false
set_option linter.unusedVariables false
open Go.RowKit Go.Sort

/-- the order of the taps: by the absolute value, then by itself. -/
theorem ltT (x y : Int) : ltOf cmpT x y = decide (absT x < absT y ∨ (absT x = absT y ∧ x < y)) := by
  unfold ltOf cmpT cmpI
  by_cases h1 : absT x < absT y
  · simp [h1, firstE]
  · by_cases h2 : absT y < absT x
    · have : ¬ absT x = absT y := by omega
      simp [h1, h2, this, firstE]
    · have e : absT x = absT y := by omega
      by_cases h3 : x < y
      · simp [h1, h2, h3, e, firstE]
      · by_cases h4 : y < x
        · simp [h1, h2, h3, h4, e, firstE]
        · simp [h1, h2, h3, h4, e, firstE]
theorem swoT : SWO (ltOf cmpT) where
  irrefl x := by rw [ltT]; simp
  trans x y z h1 h2 := by
    rw [ltT] at *
    simp only [decide_eq_true_eq] at *
    omega
  ntrans x y z h1 h2 := by
    rw [ltT] at *
    simp only [decide_eq_false_iff_not] at *
    omega
theorem totT (x y : Int) (h1 : ltOf cmpT x y = false) (h2 : ltOf cmpT y x = false) : x = y := by
  rw [ltT] at *
  simp only [decide_eq_false_iff_not] at *
  omega
/-- the taps as laid, and sorted. -/
def tapsL : List Int := upto (fun k => (k : Int) - 8) 17
def tapsS : List Int := [0, -1, 1, -2, 2, -3, 3, -4, 4, -5, 5, -6, 6, -7, 7, -8, 8]
theorem tapsL_eq : tapsL = [-8, -7, -6, -5, -4, -3, -2, -1, 0, 1, 2, 3, 4, 5, 6, 7, 8] := by decide
theorem taps_sorted : tapsL.mergeSort (fun x y => !(ltOf cmpT) y x) = tapsS := by
  refine List.Perm.eq_of_pairwise (le := fun x y => (!(ltOf cmpT) y x) = true) ?_ ?_ ?_ ?_
  · intro a b _ _ h1 h2
    exact totT a b (by simpa using h2) (by simpa using h1)
  · refine List.pairwise_mergeSort ?_ ?_ _
    · intro a b c h1 h2
      simp only [Bool.not_eq_true', ltT, decide_eq_false_iff_not] at *
      omega
    · intro a b
      simp only [Bool.or_eq_true, Bool.not_eq_true', ltT, decide_eq_false_iff_not]
      omega
  · simp only [ltT]
    decide +kernel
  · refine (List.mergeSort_perm _ _).trans ?_
    rw [tapsL_eq]
    decide
theorem Tryz.enterCompare (args : Array Value) (w : World) : Sem.run Tryz.prog (callFunc 29 args) w = .ok (.enter 29 args) w :=
  MuLone.run_callFunc_enter Tryz.func29 (by kernel_rfl) rfl args w
theorem compare_lays (blk off size : Nat) (w : World) : CmpLays1 Tryz.prog 29 #[] (Value.int .i64) cmpT blk off size w := fun m os dk hs x y => by
  refine (compare_any x y _).mono ?_
  rintro e w' ⟨rfl, rfl⟩
  exact ⟨rfl, 0, _, alloc_eq_grow _ _⟩
theorem below_mapBlock {B blk : Nat} {w0 w : World} (h : Below B w0 w) (hb : B ≤ blk) (f : Array Value → Array Value) : Below B w0 (mapBlock w blk f) :=
  h.trans ⟨rfl, rfl, rfl, by simp [mapBlock], fun k hk => by simp [mapBlock, Array.getElem?_modify]; omega⟩
theorem below_grow {B : Nat} {w0 w : World} (h : Below B w0 w) (hb : B ≤ w.heap.size) (os : Array Obj) : Below B w0 (Go.Sort.grow w os) :=
  h.trans ⟨rfl, rfl, rfl, by simp [Go.Sort.grow], fun k hk => by
    show (w.heap ++ os)[k]? = w.heap[k]?
    rw [Array.getElem?_append_left (by omega)]⟩
theorem below_sortW {B blk off n : Nat} {w0 w : World} (h : Below B w0 w) (hb : B ≤ blk) (hlt : blk < w.heap.size) (d : Array Int) (os : Array Obj) : Below B w0 (sortWorld (Value.int .i64) w blk off n d os) := by
  have h1 : Below B w0 (Sort.ahead w n) := h.trans ⟨rfl, rfl, rfl, Nat.le_refl _, fun _ _ => rfl⟩
  have h2 := below_mapBlock h1 hb (putCells (Value.int .i64) off d)
  refine below_grow h2 ?_ os
  have e : (mapBlock (Sort.ahead w n) blk (putCells (Value.int .i64) off d)).heap.size = w.heap.size := by simp [mapBlock, Sort.ahead]
  omega
set_option maxHeartbeats 1000000 in
/-- the taps are sorted. -/
theorem sortTaps_any (base : Nat) (v : Value) (w : World) (hown : w.ownsRow base 87 1 v 17 (tapsL.map (Value.int .i64))) (hbase : base ≤ w.heap.size) :
    Calls Tryz.prog 28 #[v, .func (.func 29) #[] #[]] w fun e w' => e = .returned (.tuple #[]) ∧ Ints w' v tapsS ∧ Below base w w' := by
  obtain ⟨h1, h2⟩ := hown
  rcases h2 with ⟨_, h2⟩ | ⟨g, cap, cur, rfl, hg, hh, hnc, hcap, hcs, htk⟩
  · omega
  have hblk : g < w.heap.size := (Array.getElem?_eq_some_iff.1 hh).1
  have hH : Holds (Value.int .i64) w g 0 tapsL.toArray := fun j hj => by
    have hj' : j < 17 := hj
    have e := congrArg (fun x : List Value => x[j]?) htk
    simp only [List.getElem?_take] at e
    rw [if_pos (by omega), List.getElem?_map] at e
    have hlt : j < tapsL.length := hj
    rw [List.getElem?_eq_getElem hlt] at e
    have hc : cur[j]? = some (.int .i64 tapsL[j]) := by rw [← Array.getElem?_toList, e]; rfl
    refine ⟨?_, ?_⟩
    · rw [Nat.zero_add]
      have : tapsL.toArray[j]! = tapsL[j] := by rw [getElem!_pos _ j hj]; simp
      rw [this]
      simp [World.cell?, hh, hc]
    · simp [World.frozen?, hh]
  have hcon := Any.slices_SortFunc_total Tryz.sortL (Value.int .i64) (fun _ => rfl) cmpT swoT 29 #[] g 0 cap tapsL.toArray w Tryz.enterCompare (compare_lays g 0 tapsL.toArray.size w) hH hblk (by decide) totT
  have hm : (tapsL.toArray.toList.mergeSort fun x y => !(ltOf cmpT) y x) = tapsS := taps_sorted
  rw [hm] at hcon
  refine Calls.mono (f := 28) hcon ?_
  rintro e w' ⟨rfl, n, os, rfl⟩
  refine ⟨rfl, ?_, below_sortW (Below.refl _ _) hg hblk _ _⟩
  refine ⟨_, cap, rfl, hnc, fun _ => ⟨g, 0, rfl, fun j hj => ?_⟩⟩
  have hj' : j < tapsS.toArray.size := hj
  have hr := cell?_putRow (Value.int .i64) (Sort.ahead w n) g 0 tapsL.toArray tapsS.toArray hH rfl j hj'
  have e2 : tapsS.toArray[j]! = tapsS[j]?.getD 0 := by rw [getElem!_pos _ j hj']; simp [show j < tapsS.length from hj]
  rw [e2] at hr
  have hlt2 : g < (putRow (Value.int .i64) (Sort.ahead w n) g 0 tapsS.toArray).heap.size := by simp [putRow, mapBlock, Sort.ahead]; exact hblk
  have hb : Below (putRow (Value.int .i64) (Sort.ahead w n) g 0 tapsS.toArray).heap.size (putRow (Value.int .i64) (Sort.ahead w n) g 0 tapsS.toArray) (sortWorld (Value.int .i64) w g 0 n tapsS.toArray os) := below_grow (Below.refl _ _) (Nat.le_refl _) os
  exact cellb hr hb
end Go.Proofs.YtpkaoechbmbolaaGreatDoor

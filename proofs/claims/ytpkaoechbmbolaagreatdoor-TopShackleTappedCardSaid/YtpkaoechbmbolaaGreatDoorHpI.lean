/- The package harmonic: a filter's text; a tapped filter meets a polygon. -/
import Derived.Test.YtpkaoechbmbolaaGreatDoorHpG
import Derived.Lib.LaidTab
import Derived.Lib.ItoaLen
namespace Go.Proofs.YtpkaoechbmbolaaGreatDoor
set_option linter.unusedSimpArgs false
set_option linter.unusedVariables false
open Go.RowKit

/-- the slice v has the cells us. -/
def Vals (w : World) (v : Value) (us : List Value) : Prop :=
  ∃ a cap, v = .slice a us.length cap ∧ us.length ≤ cap ∧ (0 < us.length → ∃ b off, a = some ⟨b, off, none⟩ ∧ ∀ j u, us[j]? = some u → w.cell? ⟨b, off + j, none⟩ = some u)

theorem Vals.carry {w w' : World} {v : Value} {us : List Value} (h : Vals w v us) (hb : Below w.heap.size w w') : Vals w' v us := by
  obtain ⟨a, cap, hv, hc, h⟩ := h
  refine ⟨a, cap, hv, hc, fun hl => ?_⟩
  obtain ⟨b, off, ha, h⟩ := h hl
  exact ⟨b, off, ha, fun j u hj => (hb.cell (p := ⟨b, off + j, none⟩) (lt_of_cellSome (h j u hj))).trans (h j u hj)⟩
theorem Vals.head {w : World} {v : Value} {us : List Value} (h : Vals w v us) (h0 : 0 < us.length) : ∃ b off cap, v = .slice (some ⟨b, off, none⟩) us.length cap ∧ ∀ j u, us[j]? = some u → w.cell? ⟨b, off + j, none⟩ = some u := by
  obtain ⟨a, cap, rfl, _, hc⟩ := h
  obtain ⟨b, off, rfl, hd⟩ := hc h0
  exact ⟨b, off, cap, rfl, hd⟩
theorem Vals.nil (w : World) : Vals w (.slice none 0 0) [] := ⟨none, 0, rfl, by simp, fun h => by simp at h⟩
theorem Vals.of_own {w : World} {base e : Nat} {v : Value} {us : List Value} (h : w.ownsRow base e 1 v us.length us) : Vals w v us := by
  obtain ⟨h1, h2⟩ := h
  rcases h2 with ⟨rfl, h2⟩ | ⟨g, cap, cur, rfl, hg, hh, hnc, hcap, hcs, htk⟩
  · exact ⟨none, 0, by rw [h2], by omega, fun h => by omega⟩
  · refine ⟨some ⟨g, 0, none⟩, cap, rfl, hnc, fun hl => ⟨g, 0, rfl, fun j u hj => ?_⟩⟩
    rw [Nat.mul_one] at htk
    rw [← htk, List.getElem?_take] at hj
    split at hj
    · rw [Array.getElem?_toList] at hj
      simp [World.cell?, hh, hj]
    · cases hj

theorem below_grow_drew (w : World) (k : Nat) (os : Array Obj) : Below w.heap.size w (Go.Sort.grow (w.drewN k) os) :=
  ⟨rfl, rfl, rfl, by simp [Go.Sort.grow], fun i hi => by
    show ((w.drewN k).heap ++ os)[i]? = _
    rw [Array.getElem?_append_left (by show i < w.heap.size; omega)]
    rfl⟩

/-- an integer's decimal numeral. -/
def word (n : Int) : ByteArray := ⟨(Lib.itoa n).toArray⟩
theorem Tryz.infoString : (Tryz.prog.info? 9).map (fun i => (i.zero, i.size, i.bytes)) = some (some (.string ⟨#[]⟩), 1, 16) := by kernel_rfl


theorem Tryz.enterAvoid1 (args : Array Value) (w : World) : Sem.run Tryz.prog (callFunc 33 args) w = .ok (.enter 33 args) w :=
  MuLone.run_callFunc_enter Tryz.func33 (by kernel_rfl) rfl args w
set_option maxRecDepth 100000 in
set_option maxHeartbeats 1000000 in
theorem avoid1_any (h : Int) (v u : Value) (ls l : List (Int × Int)) (B D : Nat) (w : World) (hv : Pairs w v ls) (hl : ls.length ≤ 1000000) (hu : Pairs w u l) (hlu : l.length ≤ 1000000) (hS : tunedB ls h = false → SusOk ls h)
    (hb : w.cell? ⟨B, 0, none⟩ = some v) (hd : w.cell? ⟨D, 0, none⟩ = some u) :
    Calls Tryz.prog 33 #[.int .i64 h, .pointer (some ⟨B, 0, none⟩), .pointer (some ⟨D, 0, none⟩)] w fun e w' => e = .returned (.bool (meetB ls l h)) ∧ Below w.heap.size w w' := by
  have TS := Lib.hid (meets_any v u ls l h w hv hl hu hlu hS)
  generalize meetB ls l h = m at TS ⊢
  obtain ⟨a, cp, rfl, _, _⟩ := id hv
  obtain ⟨a2, cp2, rfl, _, _⟩ := id hu
  clear hv hu hS
  go_enter Tryz.func33, Tryz.ntmps33
  go_wp2_with fail
  refine TS.out.mono ?_
  rintro e w2 ⟨rfl, hl⟩
  go_wp2
  go_ret
  exact ⟨rfl, hl⟩

theorem catS (T : TypeId) (x y : ByteArray) (W : World) (h : x.size + y.size ≤ 1000) : Sem.run Tryz.prog (binOp .add T (.string x) (.string y)) W = .ok (.string (x ++ y)) W := by
  have h2 : ¬ (9223372036854775807 < x.size + y.size) := by omega
  go_simp
theorem exec_add {P : Program} {ρ : Operand → Value} {o : Oper} {t t2 : TypeId} {x y : Operand} {v : Value} {w : World} (hop : o.op = Op.binOp .add t x y t2) (h : Sem.run P (binOp .add t (ρ x) (ρ y)) w = .ok v w) : (execOp ρ o).run P w = .ok (.value v) w := by
  unfold execOp
  simp [hop, h, eqGuard, Result.andThen]
theorem size7 : (⟨#[98, 114, 97, 110, 99, 104, 32]⟩ : ByteArray).size = 7 := rfl
theorem size1a : (⟨#[32]⟩ : ByteArray).size = 1 := rfl
theorem size1b : (⟨#[10]⟩ : ByteArray).size = 1 := rfl
/-- a branch's line. -/
def lineB (x : Int × Int) : ByteArray := (⟨#[98, 114, 97, 110, 99, 104, 32]⟩ ++ word x.1) ++ ⟨#[32]⟩ ++ word x.2 ++ ⟨#[10]⟩
end Go.Proofs.YtpkaoechbmbolaaGreatDoor

/- An array of integers that came in: the numbers of the kind. -/
import Derived.Test.YtipmjjnhdjcoiaaLib
import Derived.ProofKit
import Derived.OpenShut
import Derived.ChangeOld
namespace Go.Proofs.Ytipmjjnhdjcoiaa
open Go.ChangeShapes Go.WideShapes Go.ChangeAt Go.RowKit

theorem mapM_some {α β : Type} (g : α → Option β) (l : List α) (ys : List β) (h : l.mapM g = some ys) : ys.length = l.length ∧ ∀ (i : Nat) (x : α) (y : β), l[i]? = some x → ys[i]? = some y → g x = some y := by
  induction l generalizing ys with
  | nil => simp at h; subst h; exact ⟨rfl, fun i x y hx => by simp at hx⟩
  | cons a l ih =>
    rw [List.mapM_cons] at h
    simp only [bind, Option.bind_eq_some_iff, pure, Option.some.injEq] at h
    obtain ⟨b, hb, zs, hz, rfl⟩ := h
    obtain ⟨h1, h2⟩ := ih zs hz
    refine ⟨by simp [h1], fun i x y hx hy => ?_⟩
    cases i with
    | zero => simp at hx hy; subst hx hy; exact hb
    | succ i => exact h2 i x y (by simpa using hx) (by simpa using hy)

theorem open_arr {P : Program} {H : Type} {enc : TypeId × Value → H} {W : World} {b0 : Nat} {T E : TypeId} {k : IntKind} {n : Nat} {v : Value} {d : DataW H} {p : List MemPlace}
    (hT : P.underlying T = some (.array n E)) (hE : P.underlying E = some (.int k)) (hcT : P.cellsOf T = n) (hcE : P.cellsOf E = 1)
    (hval : Value.okWide P W .any b0 T v) (hd : DataW.Trod enc P W 0 (fun _ => true) true T v d p) :
    ∃ l : List Int, l.length = n ∧ v = .agg (l.map (Value.int k)).toArray ∧ p = [] ∧ ∀ x ∈ l, (Lit.int k x).wf = true := by
  simp only [Value.okWide, hT] at hval
  obtain ⟨cs, rfl, hc, _⟩ := hval
  rw [hcT] at hc
  obtain ⟨fuel, hf⟩ := hd
  cases fuel with
  | zero => simp [DataW.trod] at hf
  | succ m =>
    rw [DataW.trod_step] at hf
    unfold DataW.trodStep at hf
    simp only [hT, Value.cells] at hf
    rw [if_pos (by rw [hcT]; simpa using hc), hcE] at hf
    obtain ⟨ys, hy, e1⟩ := Option.map_eq_some_iff.1 hf
    obtain ⟨hyl, hyg⟩ := mapM_some _ _ _ hy
    rw [List.length_range] at hyl
    have key : ∀ i, i < n → ∃ a, cs.toList[i]? = some (.int k a) ∧ (∀ y, ys[i]? = some y → y.2 = []) ∧ (Lit.int k a).wf = true := fun i hi => by
      have h1 := hyg i i (ys[i]'(by omega)) (by simp [hi]) (List.getElem?_eq_getElem _)
      obtain ⟨a, ea, e2, wa⟩ := DataW.trod_int hE h1
      refine ⟨a, ?_, fun y hy => ?_, wa⟩
      · have h2 : (List.take 1 (List.drop (i * 1) cs.toList))[0]? = some (.int k a) := by rw [ea]; rfl
        rw [List.getElem?_take, if_pos (by omega), List.getElem?_drop, Nat.mul_one, Nat.add_zero] at h2
        exact h2
      · rw [List.getElem?_eq_getElem (by omega)] at hy
        cases hy
        rw [e2]
    have hall : ∀ x ∈ cs.toList, ∃ a, x = .int k a ∧ (Lit.int k a).wf = true := fun x hx => by
      obtain ⟨i, hi⟩ := List.mem_iff_getElem?.1 hx
      have hin : i < n := by have := (List.getElem?_eq_some_iff.1 hi).1; simp at this; omega
      obtain ⟨a, ha, _, wa⟩ := key i hin
      rw [hi] at ha; cases ha
      exact ⟨a, rfl, wa⟩
    let f : Value → Int := fun v => match v with | .int _ a => a | _ => 0
    refine ⟨cs.toList.map f, by simp [hc], ?_, ?_, ?_⟩
    · congr 1
      apply Array.toList_inj.1
      rw [List.map_map]
      simp only
      conv => lhs; rw [← List.map_id cs.toList]
      apply List.map_congr_left
      intro x hx
      obtain ⟨a, rfl, _⟩ := hall x hx
      rfl
    · simp only [Prod.mk.injEq] at e1
      rw [← e1.2, List.flatMap_eq_nil_iff]
      intro y hy
      obtain ⟨i, hi⟩ := List.mem_iff_getElem?.1 hy
      have hin : i < n := by have := (List.getElem?_eq_some_iff.1 hi).1; omega
      obtain ⟨a, _, h2, _⟩ := key i hin
      exact h2 y hi
    · intro x hx
      obtain ⟨v, hv, rfl⟩ := List.mem_map.1 hx
      obtain ⟨a, rfl, wa⟩ := hall v hv
      exact wa

theorem open_arr2 {P : Program} {H : Type} {enc : TypeId × Value → H} {W : World} {b0 : Nat} {T E : TypeId} {k : IntKind} {v : Value} {d : DataW H} {p : List MemPlace}
    (hT : P.underlying T = some (.array 2 E)) (hE : P.underlying E = some (.int k)) (hcT : P.cellsOf T = 2) (hcE : P.cellsOf E = 1)
    (hval : Value.okWide P W .any b0 T v) (hd : DataW.Trod enc P W 0 (fun _ => true) true T v d p) :
    ∃ a b : Int, v = .agg #[.int k a, .int k b] ∧ p = [] ∧ (Lit.int k a).wf = true ∧ (Lit.int k b).wf = true := by
  obtain ⟨l, hl, hv, hp, hw⟩ := open_arr hT hE hcT hcE hval hd
  match l, hl with
  | [a, b], _ => exact ⟨a, b, hv, hp, hw a (by simp), hw b (by simp)⟩
theorem open_arr3 {P : Program} {H : Type} {enc : TypeId × Value → H} {W : World} {b0 : Nat} {T E : TypeId} {k : IntKind} {v : Value} {d : DataW H} {p : List MemPlace}
    (hT : P.underlying T = some (.array 3 E)) (hE : P.underlying E = some (.int k)) (hcT : P.cellsOf T = 3) (hcE : P.cellsOf E = 1)
    (hval : Value.okWide P W .any b0 T v) (hd : DataW.Trod enc P W 0 (fun _ => true) true T v d p) :
    ∃ a b c : Int, v = .agg #[.int k a, .int k b, .int k c] ∧ p = [] ∧ (Lit.int k a).wf = true ∧ (Lit.int k b).wf = true ∧ (Lit.int k c).wf = true := by
  obtain ⟨l, hl, hv, hp, hw⟩ := open_arr hT hE hcT hcE hval hd
  match l, hl with
  | [a, b, c], _ => exact ⟨a, b, c, hv, hp, hw a (by simp), hw b (by simp), hw c (by simp)⟩

end Go.Proofs.Ytipmjjnhdjcoiaa

/- The law's clones, and where a block that came stands. -/
import Derived.Test.YtjmdnolmaofbiaaDoorThmR
namespace Go.Proofs.YtjmdnolmaofbiaaDoor
set_option linter.unusedSimpArgs false
set_option linter.unusedVariables false
open Go.RowKit

theorem came_at (p : Nat → Bool) : ∀ (N i : Nat), i < N → p i = true → (cameN p N)[(cameN p i).length]? = some i
  | 0, i, h, _ => by omega
  | N + 1, i, h, hp => by
    rw [came_succ]
    by_cases e : i = N
    · subst e
      rw [if_pos hp, List.getElem?_append_right (Nat.le_refl _)]; simp
    · have ih := came_at p N i (by omega) hp
      split
      · rw [List.getElem?_append_left (List.getElem?_eq_some_iff.1 ih).1]; exact ih
      · exact ih
theorem came_idx (p : Nat → Bool) {N k i : Nat} (h : (cameN p N)[k]? = some i) : k = (cameN p i).length := by
  obtain ⟨hk, hi⟩ := List.getElem?_eq_some_iff.1 h
  have hm := came_mem.1 (List.mem_of_getElem? h)
  have h2 := came_at p N i hm.1 hm.2
  obtain ⟨hk2, hi2⟩ := List.getElem?_eq_some_iff.1 h2
  have hs := List.pairwise_iff_getElem.1 (came_sorted p N)
  rcases Nat.lt_trichotomy k (cameN p i).length with hlt | heq | hgt
  · have := hs k _ hk hk2 hlt
    rw [hi, hi2] at this
    omega
  · exact heq
  · have := hs _ k hk2 hk hgt
    rw [hi, hi2] at this
    omega
theorem came_next (p : Nat → Bool) {N k i : Nat} (h : (cameN p N)[k]? = some i) (h1 : i + 1 < N) (h2 : p (i + 1) = true) : (cameN p N)[k + 1]? = some (i + 1) := by
  have hk := came_idx p h
  have hm := came_mem.1 (List.mem_of_getElem? h)
  have h3 := came_at p N (i + 1) h1 h2
  rw [came_succ, if_pos hm.2, List.length_append] at h3
  rw [hk]; exact h3
theorem Byt.src {w : World} {v : Value} {s : List Int} (h : Byt w v s) {tx e : TypeId} (hk : Tryd.prog.underlying tx = some (.slice e)) (h0 : 0 < s.length) : Src Tryd.prog 1 tx v s.length (s.map (Value.int .u8)) w := by
  obtain ⟨a, cap, rfl, _, hc⟩ := h
  obtain ⟨b, off, rfl, hcs⟩ := hc h0
  refine Src.ofSlice w hk _ _ _ _ (by rw [List.length_map, Nat.mul_one]) (fun j u hj => ?_) (fun u hu => ?_)
  · rw [addr_add]
    have hj2 := (List.getElem?_eq_some_iff.1 hj).1
    rw [List.length_map] at hj2
    rw [hcs j hj2, ← hj, List.getElem?_map, List.getElem?_eq_getElem hj2]; rfl
  · rw [List.mem_map] at hu
    obtain ⟨x, _, rfl⟩ := hu
    rfl
theorem Tryd.infoU9 : (Tryd.prog.info? 5).map (fun i => (i.zero, i.size, i.bytes)) = some (some (.int .u8 0), 1, 1) := by kernel_rfl
theorem wpList_cloneB {ops : Array Oper} {rest : List Oper} {o : Oper} {a : Act} {w : World} {Q : Exit → Act → World → Prop} (hgd : o.guard = none) (s x : Operand)
    (ho : o.op = .call { callee := .builtin .append, args := #[s, x], argTypes := #[28, 28] }) (g og : Nat) (hs : a.eval s = .slice (some ⟨g, og, none⟩) 0 0) (v : Value) (l : List Int) (hx : a.eval x = v) (hv : Byt w v l) (hl : l.length ≤ 100000)
    (h : ∀ u w', Byt w' u l → Below w.heap.size w w' → wpList Tryd.prog ops Q rest (a.put o.dst u) w') : wpList Tryd.prog ops Q (o :: rest) a w := by
  obtain ⟨i0, hi, hz0, hz1, hz2⟩ := info_parts Tryd.infoU9
  rcases Nat.eq_zero_or_pos l.length with h0 | h0
  · obtain ⟨ad, c, rfl, _, _⟩ := hv
    rw [h0] at hx
    refine wpList_append_empty hgd s x _ _ _ _ ho i0 _ Tryd.underlying28 Tryd.underlying28 hi hz0 g og hs ad c hx (h _ w ⟨_, 0, by rw [h0], by omega, fun h => by omega⟩ (Below.refl _ _))
  · exact wpList_append_freshO hgd s x _ _ _ ho i0 _ 1 1 Tryd.underlying28 hi hz0 hz1 hz2 rfl g og hs v l.length _ hx (hv.src Tryd.underlying28 h0) h0 (by unfold maxLen; omega) (by omega) (fun u w' ho hb => h u w' (Byt.of_own ho) hb)
theorem wpList_cloneT {ops : Array Oper} {rest : List Oper} {o : Oper} {a : Act} {w : World} {Q : Exit → Act → World → Prop} (hgd : o.guard = none) (s x : Operand)
    (ho : o.op = .call { callee := .builtin .append, args := #[s, x], argTypes := #[47, 47] }) (g : Nat) (hs : a.eval s = .slice (some ⟨g, 0, none⟩) 0 0) (v : Value) (l : List Tg) (hx : a.eval x = v) (hv : Tgs w v l) (hl : l.length ≤ 1000)
    (h : ∀ ad c w', Tgs w' (.slice (some ad) l.length c) l → Below w.heap.size w w' → wpList Tryd.prog ops Q rest (a.put o.dst (.slice (some ad) l.length c)) w') : wpList Tryd.prog ops Q (o :: rest) a w := by
  obtain ⟨i0, hi, hz0, hz1, hz2⟩ := info_parts Tryd.infoTg3
  rcases Nat.eq_zero_or_pos l.length with h0 | h0
  · obtain ⟨ad, c, rfl, _, _⟩ := hv
    rw [h0] at hx h
    refine wpList_append_empty hgd s x _ _ _ _ ho i0 _ Tryd.underlying47 Tryd.underlying47 hi hz0 g 0 hs ad c hx (h _ _ w ⟨_, 0, by rw [h0], by omega, fun h => by omega⟩ (Below.refl _ _))
  · refine wpList_append_freshO hgd s x _ _ _ ho i0 _ 6 48 Tryd.underlying47 hi hz0 hz1 hz2 rfl g 0 hs v l.length _ hx (hv.src Tryd.underlying47 h0) h0 (by unfold maxLen; omega) (by omega) (fun u w' ho hb => ?_)
    have hT := Tgs.of_own (base := w.heap.size) ho
    obtain ⟨b, off, c, rfl, _⟩ := hT.head h0
    exact h _ _ w' hT hb
/-- rows of six that were sent. -/
theorem e3V_at : ∀ (l : List E3) (j : Nat) (x : E3) (i : Nat), l[j]? = some x → i < 6 → (l.flatMap e3V)[j * 6 + i]? = (e3V x)[i]?
  | [], j, x, i, h, _ => by simp at h
  | y :: l, 0, x, i, h, hi => by
    simp at h
    subst h
    rw [List.flatMap_cons, List.getElem?_append_left (by simp [e3V]; omega)]
    simp
  | y :: l, j + 1, x, i, h, hi => by
    rw [List.flatMap_cons, List.getElem?_append_right (by simp [e3V]; omega)]
    have h2 : (e3V y).length = 6 := rfl
    rw [h2, show (j + 1) * 6 + i - 6 = j * 6 + i by omega]
    exact e3V_at l j x i (by simpa using h) hi
/-- a slice of rows of six. -/
def RowsE (w : World) (v : Value) (l : List E3) : Prop :=
  ∃ a cap, v = .slice a l.length cap ∧ (0 < l.length → ∃ b off, a = some ⟨b, off, none⟩ ∧ ∀ (j : Nat) (x : E3), l[j]? = some x → w.cell? ⟨b, off + j * 6, none⟩ = some (.int .i64 x.1) ∧ w.cell? ⟨b, off + j * 6 + 1, none⟩ = some (.int .i64 x.2.1) ∧ w.cell? ⟨b, off + j * 6 + 2, none⟩ = some (.int .i64 x.2.2.1) ∧ w.cell? ⟨b, off + j * 6 + 3, none⟩ = some (.int .i64 x.2.2.2.1) ∧ w.cell? ⟨b, off + j * 6 + 4, none⟩ = some (.int .i64 x.2.2.2.2.1) ∧ w.cell? ⟨b, off + j * 6 + 5, none⟩ = some (.int .i64 x.2.2.2.2.2))
theorem RowsE.carry {w w' : World} {v : Value} {l : List E3} (h : RowsE w v l) (hb : Below w.heap.size w w') : RowsE w' v l := by
  obtain ⟨a, cap, hv, h⟩ := h
  refine ⟨a, cap, hv, fun hl => ?_⟩
  obtain ⟨b, off, ha, h⟩ := h hl
  refine ⟨b, off, ha, fun j x hj => ?_⟩
  obtain ⟨c0, c1, c2, c3, c4, c5⟩ := h j x hj
  exact ⟨cellb c0 hb, cellb c1 hb, cellb c2 hb, cellb c3 hb, cellb c4 hb, cellb c5 hb⟩
theorem RowsE.of_own {w : World} {base : Nat} {v : Value} {l : List E3} (h : OwE w base v l) : RowsE w v l := by
  unfold OwE at h
  rcases h.2 with ⟨h0, hn⟩ | ⟨g, cap, cur, hv, _, hg, hc, _, hs, ht⟩
  · have : l = [] := List.length_eq_zero_iff.1 hn
    subst this
    exact ⟨none, 0, h0, fun h => by simp at h⟩
  · refine ⟨some ⟨g, 0, none⟩, cap, hv, fun _ => ⟨g, 0, rfl, fun j x hj => ?_⟩⟩
    have hjl := (List.getElem?_eq_some_iff.1 hj).1
    have key : ∀ i u, i < 6 → (e3V x)[i]? = some u → w.cell? ⟨g, j * 6 + i, none⟩ = some u := fun i u hi hu => by
      have h1 : (cur.toList.take (l.length * 6))[j * 6 + i]? = (l.flatMap e3V)[j * 6 + i]? := by rw [ht]
      rw [List.getElem?_take_of_lt (by omega), e3V_at l j x i hj hi, hu] at h1
      have h2 : cur[j * 6 + i]? = some u := by rw [← Array.getElem?_toList]; exact h1
      simp [World.cell?, hg, h2]
    rw [Nat.zero_add]
    exact ⟨key 0 _ (by omega) rfl, key 1 _ (by omega) rfl, key 2 _ (by omega) rfl, key 3 _ (by omega) rfl, key 4 _ (by omega) rfl, key 5 _ (by omega) rfl⟩
/-- the counters of the telegrams that came. -/
theorem tele_cnts (s : Nat → E3) (c0 : Int) (l : List Nat) : (l.map (teleF s c0)).map (fun t => t.2.1) = l.map fun (i : Nat) => (2 * c0 + (i : Int)) % 65536 := by
  rw [List.map_map]
  apply List.map_congr_left
  intro i _
  exact teleF_cnt s c0 i
theorem tele_even (s : Nat → E3) (c0 : Int) (i : Nat) (h : i % 2 = 0) : ∃ a b, teleF s c0 i = (a, b, (s (i / 2)).1, (s (i / 2)).2.1, (s (i / 2)).2.2.1, (s (i / 2)).2.2.2.1) ∧ ∃ c d, teleF s c0 (i + 1) = (c, d, (s (i / 2)).2.2.2.2.1, (s (i / 2)).2.2.2.2.2, 0, 0) := by
  refine ⟨5, (2 * (c0 + ((i / 2 : Nat) : Int))) % 65536, ?_, 5, (2 * (c0 + ((i / 2 : Nat) : Int)) + 1) % 65536, ?_⟩
  · rw [teleF, if_pos h]; rfl
  · rw [teleF, if_neg (by omega), show (i + 1) / 2 = i / 2 by omega]; rfl
/-- what is lost of the first k wrong ones. -/
theorem lostN_snoc (came l : List Nat) (b : Nat) : lostN came (l ++ [b]) = lostN came l ++ (if midB came b = true then [b] else []) := by
  unfold lostN
  rw [List.filter_append]
  congr 1
  rw [List.filter_cons]
  rfl
theorem lostN_le (came l : List Nat) : (lostN came l).length ≤ l.length := List.length_filter_le _ _
/-- what is lost of a stream of telegrams. -/
theorem lostLaw {s : Nat → E3} (hs : ∀ k, SmlE 100 (s k)) (fs : Int) (bd : Nat → Bool) (N : Nat) (hN : N ≤ 16) (l : List Tg) (hl : l = (cameN (fun i => !bd i) N).map (teleF s fs)) (LL : List Int) (hLL : LL = (lostN (cameN (fun i => !bd i) N) ((List.range N).filter bd)).map fun (i : Nat) => (2 * fs + (i : Int)) % 65536) (NC : Nat) (hNC : l.length = NC) (ad : Addr) (c : Nat) (W : World) (hv : Tgs W (.slice (some ad) NC c) l) :
    Calls Tryd.prog 11 #[.slice (some ad) NC c, .int .i64 5] W fun e w' => (∃ u, e = .returned (.tuple #[u, .int .i64 0]) ∧ Ints w' u LL) ∧ Below W.heap.size W w' := by
  have hg : gapsL (l.map fun t => t.2.1) = LL := by
    rw [hl, tele_cnts, hLL]
    exact lost_gaps bd N hN (2 * fs)
  have hlen : l.length ≤ 16 := by
    rw [hl, List.length_map]
    have := came_bad_len bd N
    omega
  have hLl : LL.length ≤ 16 := by
    rw [hLL, List.length_map]
    refine Nat.le_trans (lostN_le _ _) (Nat.le_trans (List.length_filter_le _ _) ?_)
    rw [List.length_range]; exact hN
  have hok : ∀ t ∈ l, TgOk t := fun t ht => by
    rw [hl] at ht
    obtain ⟨j, _, rfl⟩ := List.mem_map.1 ht
    exact teleF_ok hs _ _
  have h5 : ∀ t ∈ l, t.1 = 5 := fun t ht => by
    rw [hl] at ht
    obtain ⟨j, _, rfl⟩ := List.mem_map.1 ht
    exact teleF_src _ _ _
  subst hNC
  have hg2 : (gapsL (l.map fun t => t.2.1)).length ≤ 256 := by rw [hg]; omega
  clear hl hLL
  refine (Lost_any ad c l 5 W (by omega) hv hok h5 (by omega) hg2).mono ?_
  rintro e w' ⟨⟨u, he, hi⟩, hb⟩
  rw [hg] at hi
  exact ⟨⟨u, he, hi⟩, hb⟩
end Go.Proofs.YtjmdnolmaofbiaaDoor

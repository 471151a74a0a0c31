/- Logs: what the reference computes (plain facts). -/
import Derived.Test.YtgpdalgfbfboaaaGreatDoorVeE
import Derived.Test.YtgpdalgfbfboaaaGreatDoorVcI
namespace Go.Proofs.YtgpdalgfbfboaaaGreatDoor
section
set_option linter.unusedSimpArgs false
set_option linter.unusedVariables false
open Go.RowKit
theorem votL_sorted {t : List P2} (h : t.Pairwise (fun x y => x.1 < y.1)) (x : Int) : votL x t = (atR t x).toList := by
 induction t with
 | nil => rfl
 | cons p t ih =>
   rw [List.pairwise_cons] at h
   have e1 : votL x (p :: t) = votL x [p] ++ votL x t := by rw [← votL_append]; rfl
   rw [e1, ih h.2]
   by_cases hp : p.1 = x
   ·have e2 : (t.find? fun y => y.1 == x) = none := by
     rw [List.find?_eq_none]; intro y hy; have := h.1 y hy; simp; omega
    have e3 : votL x [p] = [p.2] := by simp [votL, hp]
    have hp' : (p.1 == x) = true := by simpa using hp
    rw [e3]; unfold atR; rw [e2, List.find?_cons, hp']; rfl
   ·have e3 : votL x [p] = [] := by simp [votL, hp]
    have hp' : (p.1 == x) = false := by simpa using hp
    rw [e3]; unfold atR; rw [List.find?_cons, hp']; rfl
theorem votL_at {t : List P2} (h : TrOk t) (x : Int) : votL x t = if atB t x = true then [atD t x] else [] := by
 rw [votL_sorted h.sorted]
 unfold atB atD
 cases atR t x <;> rfl
theorem mem_votL {F : List P2} {t x : Int} (h : x ∈ votL t F) : ∃ p ∈ F, p.1 = t ∧ p.2 = x := by
 unfold votL at h
 obtain ⟨p, hp, rfl⟩ := List.mem_map.1 h
 rw [List.mem_filter] at hp
 exact ⟨p, hp.1, by simpa using hp.2, rfl⟩
theorem flatL_mem {ls : List Lg} {k : Nat} {p : P2} (h : p ∈ flatL ls k) : ∃ t ∈ ls, p ∈ t.2 := by
 obtain ⟨t, ht, hp⟩ := List.mem_flatMap.1 h
 exact ⟨t, List.mem_of_mem_take ht, hp⟩
theorem flatL_rg {ls : List Lg} (h : LgOk ls) {k : Nat} {p : P2} (hp : p ∈ flatL ls k) : (0 ≤ p.1 ∧ p.1 ≤ 100000) ∧ 0 ≤ p.2 ∧ p.2 ≤ 4095 := by
 obtain ⟨t, ht, hm⟩ := flatL_mem hp
 obtain ⟨j, hj⟩ := List.getElem?_of_mem ht
 exact ((h.rng j t hj).2).mem hm
/-- the vote so far: for the ticks before t. -/
def votT (n : Nat) (F : List P2) (t : Int) : List P2 := (voteL n F).filter (fun x => decide (x.1 < t))
theorem votT_end {n : Nat} {F : List P2} {t : Int} (hF : ∀ p ∈ F, p.1 < t) : votT n F t = voteL n F := by
 unfold votT
 rw [List.filter_eq_self]
 intro x hx
 obtain ⟨h1, -, -⟩ := (mem_voteL n F x).1 hx
 obtain ⟨p, hp, he⟩ := (mem_ticksL F x.1).1 h1
 have := hF p hp
 simp; omega
/-- the error of one log in its place. -/
theorem logsG_zero {ls : List Lg} {k : Nat} {t : Lg} : logsG ls k t = (if logE t.1 t.2 = 0 then (if ((ls.take k).any fun o => o.1 == t.1) = true then 9 else 0) else logE t.1 t.2) := by
 unfold logsG
 by_cases h : logE t.1 t.2 = 0
 ·rw [h, if_pos rfl]
  cases (ls.take k).any fun o => o.1 == t.1 <;> rfl
 ·rw [if_neg h]
  unfold firstE
  rw [if_neg (by simpa using h)]
end
section
set_option linter.unusedSimpArgs false
set_option linter.unusedVariables false
open Go.RowKit
set_option maxRecDepth 100000 in
set_option maxHeartbeats 4000000 in
theorem CheckLogsR_any (v : Value) (rs : List LgV) (ls : List Lg) (w : World) (hl : ls.length ≤ 1000) (hlt : ∀ t ∈ ls, t.2.length ≤ 1000000) (hv : Lgs w v rs ls) :
 Calls Tryz.prog 7 #[v] w fun r w' => r = .returned (.int .i64 (logsE ls)) ∧ Below w.heap.size w w' := by
 have HV := Lib.hid hv
 have HLT := Lib.hid hlt
 have hlen := hv.len
 obtain ⟨a, cp, rfl, -⟩ := hv.rw.slice
 obtain ⟨N, hN⟩ : ∃ N, N = rs.length := ⟨_, rfl⟩
 have hN2 : ls.length = N := by omega
 rw [← hN] at HV ⊢
 have HN := Lib.hid hN
 have HN2 := Lib.hid hN2
 by_cases hbig : 6 < N
 ·have he : logsE ls = 5 := by unfold logsE; rw [if_pos (by omega)]
  have d1 : (6 : Int) < (N : Int) := by omega
  rw [he]
  clear he hN hN2 hbig hv hlt hlen
  go_enter Tryz.func7, Tryz.ntmps7
  go_wp2
  go_ret
  exact ⟨rfl, Below.refl _ _⟩
 ·have he : logsE ls = eachE (logsG ls) ls := by unfold logsE; rw [if_neg (by omega)]
  have d1 : ¬ (6 : Int) < (N : Int) := by omega
  rw [he]
  have HS := Lib.hid (fun (k : Nat) (x : Lg) (hx : ls[k]? = some x) (h : firstE ((ls.mapIdx (logsG ls)).take k) = 0) => eachE_step hx h)
  have HT := Lib.hid (fun (k : Nat) (x : Lg) (hx : ls[k]? = some x) (h : firstE ((ls.mapIdx (logsG ls)).take k) = 0) (hne : logsG ls k x ≠ 0) => eachE_stop hx h hne)
  have HE := Lib.hid (fun (h : firstE ((ls.mapIdx (logsG ls)).take ls.length) = 0) => eachE_end h)
  obtain ⟨E, hE⟩ : ∃ e, e = eachE (logsG ls) ls := ⟨_, rfl⟩
  rw [← hE] at HT HE ⊢
  clear he hN hN2 hbig hv hlt hlen hE
  go_enter Tryz.func7, Tryz.ntmps7
  go_wp2_with fail
  go_loopw [3] (fun i wr => ∃ k : Nat, k ≤ N ∧ i = .int .i64 k ∧ firstE ((ls.mapIdx (logsG ls)).take k) = 0 ∧ Below w.heap.size w wr) (fun i _ => N - (intOf i).toNat)
  case atStart => exact ⟨0, by omega, rfl, rfl, Below.refl _ _⟩
  case round =>
   obtain ⟨k, hk, rfl, hf, hbel⟩ := hrel
   have HF := Lib.hid hf
   clear hf
   by_cases hlt : k < N
   ·have hdk : (k : Int) < (N : Int) := by omega
    obtain ⟨r, hr⟩ : ∃ r, rs[k]? = some r := ⟨_, List.getElem?_eq_getElem (by rw [← HN.out]; exact hlt)⟩
    obtain ⟨t, ht⟩ : ∃ t, ls[k]? = some t := ⟨_, List.getElem?_eq_getElem (by rw [HN2.out]; exact hlt)⟩
    have HVW := HV.out.carry hbel
    obtain ⟨b, off, cp', he, hcs⟩ := HVW.rw.head (by rw [← HN.out]; omega)
    simp only [Value.slice.injEq] at he
    obtain ⟨rfl, -, rfl⟩ := he
    obtain ⟨c0, c1⟩ := rw2 (hcs k r hr) (show lV r = [.int .i64 r.1, .slice r.2.1 r.2.2.1 r.2.2.2] from rfl)
    obtain ⟨hr1, htr⟩ := HVW.ok k r t hr ht
    have hs := HS.out k t ht HF.out
    have hst := HT.out k t ht HF.out
    rw [logsG_zero] at hs hst
    have T0 := Lib.hid (CheckLogR_any r.1 r.2.1 r.2.2.1 r.2.2.2 t.2 wr (HLT.out t (List.mem_of_getElem? ht)) htr)
    rw [hr1] at T0
    have hany : ∀ m, ((ls.take m).any fun o => o.1 == t.1) = ((rs.take m).any fun o => o.1 == t.1) := fun m => (HVW.any m t.1).symm
    rw [hany k] at hs hst
    obtain ⟨rc, ra, rn, rcap⟩ := r
    obtain ⟨tc, tt⟩ := t
    dsimp only at c0 c1 htr hr1 T0 hs hst
    subst hr1
    obtain ⟨e0, he0⟩ : ∃ e, e = logE rc tt := ⟨_, rfl⟩
    rw [← he0] at T0 hs hst
    have HS1 := Lib.hid hs
    have HT1 := Lib.hid hst
    have HCS := Lib.hid hcs
    have D0 := Lib.hid c0
    clear hs hst hany he0 hcs hr ht htr
    go_wp2_with fail
    refine T0.out.mono ?_
    rintro e w2 ⟨rfl, hl⟩
    replace hbel := bthen hbel hl
    clear c0 c1 HVW T0
    by_cases h0 : e0 = 0
    ·subst h0
     have hs0 := HS1.out
     rw [if_pos rfl] at hs0
     have ht0 := HT1.out
     rw [if_pos rfl] at ht0
     have HS3 := Lib.hid hs0
     have HT3 := Lib.hid ht0
     clear hs0 ht0 HS1 HT1
     have HB9 := Lib.hid hbel
     have HL9 := Lib.hid hl
     clear hl hbel
     go_wp2_with fail
     obtain ⟨W5, hW5⟩ : ∃ W5, W5 = w2 := ⟨_, rfl⟩
     subst hW5
     go_loopw [5] (fun i wx => ∃ m : Nat, m ≤ k ∧ i = .int .i64 m ∧ ((rs.take m).any fun o => o.1 == rc) = false ∧ Below W5.heap.size W5 wx) (fun i _ => k - (intOf i).toNat)
     case atStart => exact ⟨0, by omega, rfl, rfl, Below.refl _ _⟩
     case round =>
      obtain ⟨m, hm, rfl, ha, hb5⟩ := hrel
      have HA := Lib.hid ha
      clear ha
      by_cases hmk : m < k
      ·have hdm : (m : Int) < (k : Int) := by omega
       have hdm2 : (m : Int) < (N : Int) := by omega
       have g1 : (0 : Int) ≤ (m : Int) := by omega
       have g2 : (0 : Int) ≤ (k : Int) := by omega
       obtain ⟨x, hx⟩ : ∃ x, rs[m]? = some x := ⟨_, List.getElem?_eq_getElem (by rw [← HN.out]; omega)⟩
       obtain ⟨p0, -⟩ := rw2 (HCS.out m x hx) (show lV x = [.int .i64 x.1, .slice x.2.1 x.2.2.1 x.2.2.2] from rfl)
       have p0 := cellb (cellb p0 HL9.out) hb5
       have d0 := cellb (cellb D0.out HL9.out) hb5
       have hta : ((rs.take (m + 1)).any fun o => o.1 == rc) = (x.1 == rc) := by rw [List.take_add_one, hx, List.any_append, HA.out]; simp
       have hin : x.1 = rc → ((rs.take k).any fun o => o.1 == rc) = true := fun h => by
        rw [List.any_eq_true]
        exact ⟨x, List.mem_of_getElem? (i := m) (by rw [List.getElem?_take]; simp [hmk, hx]), by simp [h]⟩
       obtain ⟨x0, xr⟩ := x
       dsimp only at p0 hta hin
       by_cases hx0 : x0 = rc
       ·have z : (x0 == rc) = true := by rw [beq_iff_eq]; exact hx0
        have hE9 : E = 9 := by
         have h := HT3.out (by rw [if_pos (hin hx0)]; decide)
         rw [if_pos (hin hx0)] at h
         exact h
        have HE9 := Lib.hid hE9
        clear hta hin hx hx0 hE9
        go_upto_region 12 with fail
        refine wp_region_held_drew (S := (fun w' => w'.cell? ⟨b, off + m * 2, none⟩ = some (.int .i64 x0) ∧ w'.cell? ⟨b, off + k * 2, none⟩ = some (.int .i64 rc))) (by kernel_rfl) ?_ (fun hHeld0 => ?_)
        ·(try dsimp only); go_keep
        refine wpAnyH_take (i := 0) (oi := ⟨some 28, .move (.tmp 0), 22, "ref.go:117", #[], none⟩) (v := ?_) rfl (by kernel_rfl) (by kernel_rfl) (by kernel_rfl) (fun _ _ _ h => h) (Or.inl ⟨by rfl, ?_⟩) (by assumption) ?_
        rotate_left
        ·(intro w hSw; (try dsimp only at hSw); go_simp); (try with_reducible rfl)
        try simp only [Act.put, zS]
        refine wpAnyH_take (i := 1) (oi := ⟨some 29, .move (.tmp 5), 3, "ref.go:117", #[], none⟩) (v := ?_) rfl (by kernel_rfl) (by kernel_rfl) (by kernel_rfl) (fun _ _ _ h => h) (Or.inl ⟨by rfl, ?_⟩) (by assumption) ?_
        rotate_left
        ·(intro w hSw; (try dsimp only at hSw); go_simp); (try with_reducible rfl)
        try simp only [Act.put, zS]
        refine wpAnyH_take (i := 2) (oi := ⟨some 30, .indexAddr 22 (.tmp 28) (.tmp 29), 0, "ref.go:117", #[⟨0, .data⟩, ⟨1, .data⟩], none⟩) (v := ?_) rfl (by kernel_rfl) (by kernel_rfl) (by kernel_rfl) (fun _ _ _ h => h) (Or.inl ⟨by rfl, ?_⟩) (by assumption) ?_
        rotate_left
        ·(intro w hSw; (try dsimp only at hSw); go_simp); (try with_reducible rfl)
        try simp only [Act.put, zS]
        refine wpAnyH_take (i := 3) (oi := ⟨some 31, .fieldAddr 34 (.tmp 30) 0, 0, "ref.go:117", #[⟨2, .data⟩], none⟩) (v := ?_) rfl (by kernel_rfl) (by kernel_rfl) (by kernel_rfl) (fun _ _ _ h => h) (Or.inl ⟨by rfl, ?_⟩) (by assumption) ?_
        rotate_left
        ·(intro w hSw; (try dsimp only at hSw); go_simp); (try with_reducible rfl)
        try simp only [Act.put, zS]
        refine wpAnyH_take (i := 4) (oi := ⟨some 32, .load 3 (.tmp 31), 3, "ref.go:117", #[⟨3, .data⟩], none⟩) (v := ?_) rfl (by kernel_rfl) (by kernel_rfl) (by kernel_rfl) (fun _ _ _ h => h) (Or.inl ⟨by rfl, ?_⟩) (by assumption) ?_
        rotate_left
        ·(intro w hSw; (try dsimp only at hSw); go_simp); (try with_reducible rfl)
        try simp only [Act.put, zS]
        refine wpAnyH_take (i := 5) (oi := ⟨some 33, .move (.tmp 0), 22, "ref.go:117", #[], none⟩) (v := ?_) rfl (by kernel_rfl) (by kernel_rfl) (by kernel_rfl) (fun _ _ _ h => h) (Or.inl ⟨by rfl, ?_⟩) (by assumption) ?_
        rotate_left
        ·(intro w hSw; (try dsimp only at hSw); go_simp); (try with_reducible rfl)
        try simp only [Act.put, zS]
        refine wpAnyH_take (i := 6) (oi := ⟨some 34, .move (.tmp 3), 3, "ref.go:117", #[], none⟩) (v := ?_) rfl (by kernel_rfl) (by kernel_rfl) (by kernel_rfl) (fun _ _ _ h => h) (Or.inl ⟨by rfl, ?_⟩) (by assumption) ?_
        rotate_left
        ·(intro w hSw; (try dsimp only at hSw); go_simp); (try with_reducible rfl)
        try simp only [Act.put, zS]
        refine wpAnyH_take (i := 7) (oi := ⟨some 35, .indexAddr 22 (.tmp 33) (.tmp 34), 0, "ref.go:117", #[⟨5, .data⟩, ⟨6, .data⟩], none⟩) (v := ?_) rfl (by kernel_rfl) (by kernel_rfl) (by kernel_rfl) (fun _ _ _ h => h) (Or.inl ⟨by rfl, ?_⟩) (by assumption) ?_
        rotate_left
        ·(intro w hSw; (try dsimp only at hSw); go_simp); (try with_reducible rfl)
        try simp only [Act.put, zS]
        refine wpAnyH_take (i := 8) (oi := ⟨some 36, .fieldAddr 34 (.tmp 35) 0, 0, "ref.go:117", #[⟨7, .data⟩], none⟩) (v := ?_) rfl (by kernel_rfl) (by kernel_rfl) (by kernel_rfl) (fun _ _ _ h => h) (Or.inl ⟨by rfl, ?_⟩) (by assumption) ?_
        rotate_left
        ·(intro w hSw; (try dsimp only at hSw); go_simp); (try with_reducible rfl)
        try simp only [Act.put, zS]
        refine wpAnyH_take (i := 9) (oi := ⟨some 37, .load 3 (.tmp 36), 3, "ref.go:117", #[⟨8, .data⟩], none⟩) (v := ?_) rfl (by kernel_rfl) (by kernel_rfl) (by kernel_rfl) (fun _ _ _ h => h) (Or.inl ⟨by rfl, ?_⟩) (by assumption) ?_
        rotate_left
        ·(intro w hSw; (try dsimp only at hSw); go_simp); (try with_reducible rfl)
        try simp only [Act.put, zS]
        refine wpAnyH_take (i := 10) (oi := ⟨some 38, .binOp .eql 3 (.tmp 32) (.tmp 37) 3, 4, "ref.go:117", #[⟨4, .data⟩, ⟨9, .data⟩], none⟩) (v := ?_) rfl (by kernel_rfl) (by kernel_rfl) (by kernel_rfl) (fun _ _ _ h => h) (Or.inl ⟨by rfl, ?_⟩) (by assumption) ?_
        rotate_left
        ·(intro w hSw; (try dsimp only at hSw); go_simp); (try with_reducible rfl)
        try simp only [Act.put, zS]
        refine wpAnyH_done (by kernel_rfl) ?_ _
        clear hHeld0
        go_wp2
        go_ret
        exact ⟨by rw [HE9.out]; rfl, bthen HB9.out hb5.drew⟩
       ·have z : (x0 == rc) = false := by rw [beq_eq_false_iff_ne]; exact hx0
        rw [z] at hta
        have HTA := Lib.hid hta
        clear hta hin hx hx0
        go_upto_region 12 with fail
        refine wp_region_held_drew (S := (fun w' => w'.cell? ⟨b, off + m * 2, none⟩ = some (.int .i64 x0) ∧ w'.cell? ⟨b, off + k * 2, none⟩ = some (.int .i64 rc))) (by kernel_rfl) ?_ (fun hHeld0 => ?_)
        ·(try dsimp only); go_keep
        refine wpAnyH_take (i := 0) (oi := ⟨some 28, .move (.tmp 0), 22, "ref.go:117", #[], none⟩) (v := ?_) rfl (by kernel_rfl) (by kernel_rfl) (by kernel_rfl) (fun _ _ _ h => h) (Or.inl ⟨by rfl, ?_⟩) (by assumption) ?_
        rotate_left
        ·(intro w hSw; (try dsimp only at hSw); go_simp); (try with_reducible rfl)
        try simp only [Act.put, zS]
        refine wpAnyH_take (i := 1) (oi := ⟨some 29, .move (.tmp 5), 3, "ref.go:117", #[], none⟩) (v := ?_) rfl (by kernel_rfl) (by kernel_rfl) (by kernel_rfl) (fun _ _ _ h => h) (Or.inl ⟨by rfl, ?_⟩) (by assumption) ?_
        rotate_left
        ·(intro w hSw; (try dsimp only at hSw); go_simp); (try with_reducible rfl)
        try simp only [Act.put, zS]
        refine wpAnyH_take (i := 2) (oi := ⟨some 30, .indexAddr 22 (.tmp 28) (.tmp 29), 0, "ref.go:117", #[⟨0, .data⟩, ⟨1, .data⟩], none⟩) (v := ?_) rfl (by kernel_rfl) (by kernel_rfl) (by kernel_rfl) (fun _ _ _ h => h) (Or.inl ⟨by rfl, ?_⟩) (by assumption) ?_
        rotate_left
        ·(intro w hSw; (try dsimp only at hSw); go_simp); (try with_reducible rfl)
        try simp only [Act.put, zS]
        refine wpAnyH_take (i := 3) (oi := ⟨some 31, .fieldAddr 34 (.tmp 30) 0, 0, "ref.go:117", #[⟨2, .data⟩], none⟩) (v := ?_) rfl (by kernel_rfl) (by kernel_rfl) (by kernel_rfl) (fun _ _ _ h => h) (Or.inl ⟨by rfl, ?_⟩) (by assumption) ?_
        rotate_left
        ·(intro w hSw; (try dsimp only at hSw); go_simp); (try with_reducible rfl)
        try simp only [Act.put, zS]
        refine wpAnyH_take (i := 4) (oi := ⟨some 32, .load 3 (.tmp 31), 3, "ref.go:117", #[⟨3, .data⟩], none⟩) (v := ?_) rfl (by kernel_rfl) (by kernel_rfl) (by kernel_rfl) (fun _ _ _ h => h) (Or.inl ⟨by rfl, ?_⟩) (by assumption) ?_
        rotate_left
        ·(intro w hSw; (try dsimp only at hSw); go_simp); (try with_reducible rfl)
        try simp only [Act.put, zS]
        refine wpAnyH_take (i := 5) (oi := ⟨some 33, .move (.tmp 0), 22, "ref.go:117", #[], none⟩) (v := ?_) rfl (by kernel_rfl) (by kernel_rfl) (by kernel_rfl) (fun _ _ _ h => h) (Or.inl ⟨by rfl, ?_⟩) (by assumption) ?_
        rotate_left
        ·(intro w hSw; (try dsimp only at hSw); go_simp); (try with_reducible rfl)
        try simp only [Act.put, zS]
        refine wpAnyH_take (i := 6) (oi := ⟨some 34, .move (.tmp 3), 3, "ref.go:117", #[], none⟩) (v := ?_) rfl (by kernel_rfl) (by kernel_rfl) (by kernel_rfl) (fun _ _ _ h => h) (Or.inl ⟨by rfl, ?_⟩) (by assumption) ?_
        rotate_left
        ·(intro w hSw; (try dsimp only at hSw); go_simp); (try with_reducible rfl)
        try simp only [Act.put, zS]
        refine wpAnyH_take (i := 7) (oi := ⟨some 35, .indexAddr 22 (.tmp 33) (.tmp 34), 0, "ref.go:117", #[⟨5, .data⟩, ⟨6, .data⟩], none⟩) (v := ?_) rfl (by kernel_rfl) (by kernel_rfl) (by kernel_rfl) (fun _ _ _ h => h) (Or.inl ⟨by rfl, ?_⟩) (by assumption) ?_
        rotate_left
        ·(intro w hSw; (try dsimp only at hSw); go_simp); (try with_reducible rfl)
        try simp only [Act.put, zS]
        refine wpAnyH_take (i := 8) (oi := ⟨some 36, .fieldAddr 34 (.tmp 35) 0, 0, "ref.go:117", #[⟨7, .data⟩], none⟩) (v := ?_) rfl (by kernel_rfl) (by kernel_rfl) (by kernel_rfl) (fun _ _ _ h => h) (Or.inl ⟨by rfl, ?_⟩) (by assumption) ?_
        rotate_left
        ·(intro w hSw; (try dsimp only at hSw); go_simp); (try with_reducible rfl)
        try simp only [Act.put, zS]
        refine wpAnyH_take (i := 9) (oi := ⟨some 37, .load 3 (.tmp 36), 3, "ref.go:117", #[⟨8, .data⟩], none⟩) (v := ?_) rfl (by kernel_rfl) (by kernel_rfl) (by kernel_rfl) (fun _ _ _ h => h) (Or.inl ⟨by rfl, ?_⟩) (by assumption) ?_
        rotate_left
        ·(intro w hSw; (try dsimp only at hSw); go_simp); (try with_reducible rfl)
        try simp only [Act.put, zS]
        refine wpAnyH_take (i := 10) (oi := ⟨some 38, .binOp .eql 3 (.tmp 32) (.tmp 37) 3, 4, "ref.go:117", #[⟨4, .data⟩, ⟨9, .data⟩], none⟩) (v := ?_) rfl (by kernel_rfl) (by kernel_rfl) (by kernel_rfl) (fun _ _ _ h => h) (Or.inl ⟨by rfl, ?_⟩) (by assumption) ?_
        rotate_left
        ·(intro w hSw; (try dsimp only at hSw); go_simp); (try with_reducible rfl)
        try simp only [Act.put, zS]
        refine wpAnyH_done (by kernel_rfl) ?_ _
        clear hHeld0
        go_wp2
        go_roundw
        case rel => exact ⟨m + 1, by omega, by go_num, HTA.out, hb5.drew⟩
        case measure => simp [intOf]; omega
      ·obtain rfl : m = k := by omega
       have hdm : ¬ (m : Int) < (m : Int) := by omega
       have hs := HS3.out
       rw [if_neg (by rw [HA.out]; decide)] at hs
       have HS2 := Lib.hid hs
       have hbel := bthen HB9.out hb5
       clear hs hb5
       go_wp2
       go_roundw
       case rel => exact ⟨m + 1, by omega, by go_num, HS2.out, hbel⟩
       case measure => simp [intOf]; omega
    ·have z : (e0 != 0) = true := by rw [bne_iff_ne]; exact h0
     have hE9 : E = e0 := by
      have h := HT1.out (by rw [if_neg h0]; exact h0)
      rw [if_neg h0] at h
      exact h
     have HE9 := Lib.hid hE9
     clear hE9 h0 hl
     go_wp2
     go_ret
     exact ⟨by rw [HE9.out]; rfl, hbel⟩
   ·obtain rfl : k = N := by omega
    have hdk : ¬ (k : Int) < (k : Int) := by omega
    have hz : E = 0 := HE.out (by rw [HN2.out]; exact HF.out)
    subst hz
    go_wp2
    go_ret
    exact ⟨rfl, hbel⟩
/-- whether logs are short. -/
def shortL (ls : List Lg) : Bool := (ls.all fun t => shortB t.2.length) && (decide (ls.length ≤ 5) || decide (ls.length = 7))
set_option maxRecDepth 100000 in
set_option maxHeartbeats 1000000 in
theorem ShortLogs_any (v : Value) (rs : List LgV) (ls : List Lg) (w : World) (hl : ls.length ≤ 9223372036854775807) (hv : Lgs w v rs ls) :
 Calls Tryz.prog 6 #[v] w fun r w' => r = .returned (.bool (shortL ls)) ∧ w = w' := by
 have HV := Lib.hid hv
 have hlen := hv.len
 obtain ⟨a, cp, rfl, -⟩ := hv.rw.slice
 obtain ⟨N, hN⟩ : ∃ N, N = rs.length := ⟨_, rfl⟩
 have hN2 : ls.length = N := by omega
 have hl2 : (N : Int) ≤ 9223372036854775807 := by omega
 have hR : (ls.all fun t => shortB t.2.length) = true → shortL ls = (decide (N ≤ 5) || decide (N = 7)) := fun h => by unfold shortL; rw [h, hN2]; rfl
 have hF : (ls.all fun t => shortB t.2.length) = false → shortL ls = false := fun h => by unfold shortL; rw [h]; rfl
 rw [← hN] at HV ⊢
 have HN := Lib.hid hN
 have HN2 := Lib.hid hN2
 obtain ⟨R, hRR⟩ : ∃ r, r = shortL ls := ⟨_, rfl⟩
 rw [← hRR] at hR hF ⊢
 have HR := Lib.hid hR
 have HF := Lib.hid hF
 clear hN hN2 hv hlen hR hF hRR
 go_enter Tryz.func6, Tryz.ntmps6
 go_wp2_with fail
 go_loop [3] (fun i => ∃ k : Nat, k ≤ N ∧ i = .int .i64 k ∧ ((ls.take k).all fun t => shortB t.2.length) = true) (fun i => N - (intOf i).toNat)
 case atStart => exact ⟨0, by omega, rfl, rfl⟩
 case round =>
  obtain ⟨k, hk, rfl, ha⟩ := hrel
  have HA := Lib.hid ha
  clear ha
  by_cases hlt : k < N
  ·have hdk : (k : Int) < (N : Int) := by omega
   obtain ⟨r, hr⟩ : ∃ r, rs[k]? = some r := ⟨_, List.getElem?_eq_getElem (by rw [← HN.out]; exact hlt)⟩
   obtain ⟨t, ht⟩ : ∃ t, ls[k]? = some t := ⟨_, List.getElem?_eq_getElem (by rw [HN2.out]; exact hlt)⟩
   obtain ⟨b, off, cp', he, hcs⟩ := HV.out.rw.head (by rw [← HN.out]; omega)
   simp only [Value.slice.injEq] at he
   obtain ⟨rfl, -, rfl⟩ := he
   obtain ⟨c0, c1⟩ := rw2 (hcs k r hr) (show lV r = [.int .i64 r.1, .slice r.2.1 r.2.2.1 r.2.2.2] from rfl)
   obtain ⟨-, htr⟩ := HV.out.ok k r t hr ht
   have htl := htr.len
   obtain ⟨rc, ra, rn, rcap⟩ := r
   dsimp only at c0 c1 htr htl
   have T1 := Lib.hid (fun W => Short_any ra rn rcap W)
   have hta : ((ls.take (k + 1)).all fun t => shortB t.2.length) = shortB rn := by rw [List.take_add_one, ht, List.all_append, HA.out]; simp [htl]
   have hfa : shortB rn = false → (ls.all fun t => shortB t.2.length) = false := fun h => by
    rw [List.all_eq_false]
    exact ⟨t, List.mem_of_getElem? ht, by rw [← htl, h]; decide⟩
   obtain ⟨B, hB⟩ : ∃ b, b = shortB rn := ⟨_, rfl⟩
   rw [← hB] at T1 hta hfa
   have HTA := Lib.hid hta
   have HFA := Lib.hid hfa
   clear hta hfa hB hcs hr ht htr htl
   go_wp2_with fail
   refine (T1.out w).mono ?_
   rintro e w' ⟨rfl, rfl⟩
   clear c0 c1
   cases B with
   | true =>
     go_wp2
     go_round
     case rel => exact ⟨k + 1, by omega, by go_num, HTA.out⟩
     case measure => simp [intOf]; omega
   | false =>
     have hz : R = false := HF.out (HFA.out rfl)
     have HZ := Lib.hid hz
     clear hz
     go_wp2
     go_ret
     exact ⟨by rw [HZ.out]; rfl, rfl⟩
  ·obtain rfl : k = N := by omega
   have hdk : ¬ (k : Int) < (k : Int) := by omega
   have hz := HR.out (by have h := HA.out; rw [List.take_of_length_le (by rw [HN2.out]; exact Nat.le_refl _)] at h; exact h)
   have HZ := Lib.hid hz
   clear hz
   by_cases h5 : k ≤ 5
   ·have f5 : (k : Int) ≤ 5 := by omega
    have hq : (decide (k ≤ 5) || decide (k = 7)) = true := by simp [h5]
    have HQ := Lib.hid hq
    clear hq h5
    go_wp2
    go_ret
    exact ⟨by rw [HZ.out, HQ.out]; rfl, rfl⟩
   ·have f5 : ¬ (k : Int) ≤ 5 := by omega
    have hq : (decide (k ≤ 5) || decide (k = 7)) = ((k : Int) == 7) := by
     rw [Bool.eq_iff_iff]; simp; omega
    have HQ := Lib.hid hq
    clear hq h5
    go_wp2
    go_ret
    exact ⟨by rw [HZ.out, HQ.out]; rfl, rfl⟩
end
section
set_option linter.unusedSimpArgs false
set_option linter.unusedVariables false
open Go.RowKit
theorem votF_succ {ls : List Lg} (h : LgOk ls) {k : Nat} {t : Lg} (ht : ls[k]? = some t) (x : Int) : votL x (flatL ls (k + 1)) = votL x (flatL ls k) ++ (if atB t.2 x = true then [atD t.2 x] else []) := by
 rw [flatL_succ ls k t ht, votL_append, votL_at (h.rng k t ht).2]
theorem votF_len {ls : List Lg} (h : LgOk ls) (x : Int) : ∀ k, (votL x (flatL ls k)).length ≤ k
 | 0 => by simp [flatL, votL]
 | k + 1 => by
   have ih := votF_len h x k
   by_cases hk : k < ls.length
   ·rw [votF_succ h (List.getElem?_eq_getElem hk), List.length_append]
    split <;> simp <;> omega
   ·have e : flatL ls (k + 1) = flatL ls k := by unfold flatL; rw [List.take_of_length_le (by omega), List.take_of_length_le (by omega)]
    rw [e]; omega
theorem votF_rng {ls : List Lg} (h : LgOk ls) (x : Int) (k : Nat) : ∀ y ∈ votL x (flatL ls k), 0 ≤ y ∧ y ≤ 4095 := fun y hy => by
 obtain ⟨p, hp, -, e⟩ := mem_votL hy
 have := (flatL_rg h hp).2
 omega
end
end Go.Proofs.YtgpdalgfbfboaaaGreatDoor

/- Trucks: a truck drives home. -/
import Derived.Test.YtlnfhlmgnppcbaaTK4
import Derived.BigQuiet
namespace Go.Proofs.Ytlnfhlmgnppcbaa
open Go.RowKit Go.ChangeShapes Go.WideShapes Go.Deep
set_option linter.unusedVariables false
set_option linter.unusedSimpArgs false
set_option maxRecDepth 8000
open Rd
noncomputable def homeB (g : Ng) (t : Tk) (s : St4) : Int := s.now + g.S s.at' t.dep + s.load * g.h
noncomputable def homeE (g : Ng) (t : Tk) (s : St4) : Int := if g.S s.at' t.dep < 0 then 15 else if t.til < homeB g t s then 25 else 0
noncomputable def homeS (g : Ng) (t : Tk) (s : St4) : St4 := ⟨t.dep, homeB g t s, s.load, s.drv + g.S s.at' t.dep⟩
set_option maxHeartbeats 16000000 in
theorem home120 (g : Ng) (n : Nat) (t : Tk) (s : St4) (b : Nat) (w : World) (h : NOk g n) (hr : roadE g.N g.em g.E = 0) (hg : g.In w) (hs : s.Small n) (hd : 0 ≤ t.dep ∧ t.dep < n) (hl : -200000 ≤ s.load * g.h ∧ s.load * g.h ≤ 200000) (hb : w.heap[b]? = some (.cells (tourC g t s) 163 (0, 0))) :
    Calls Try.prog 120 #[.pointer (some ⟨b, 0, none⟩)] w fun e w' => e = .returned (.int .i64 (homeE g t s)) ∧ Off (fun q => q = b) w w' ∧ (homeE g t s = 0 → w'.heap[b]? = some (.cells (tourC g t (homeS g t s)) 163 (0, 0))) := by
  have DR := Lib.hid (drive133 g n t s t.dep b w h hr hg hs hd hb)
  have HDE : Hid (driveE g s t.dep = if g.S s.at' t.dep < 0 then 15 else 0) := Lib.hid rfl
  have HDS : Hid (driveS g s t.dep = if g.S s.at' t.dep < 0 then s else ⟨t.dep, s.now + g.S s.at' t.dep, s.load, s.drv + g.S s.at' t.dep⟩) := Lib.hid rfl
  have HHE : Hid (homeE g t s = if g.S s.at' t.dep < 0 then 15 else if t.til < s.now + g.S s.at' t.dep + s.load * g.h then 25 else 0) := Lib.hid rfl
  have HHS : Hid (homeS g t s = ⟨t.dep, s.now + g.S s.at' t.dep + s.load * g.h, s.load, s.drv + g.S s.at' t.dep⟩) := Lib.hid rfl
  have hS := h.S_bd hs.at' t.dep
  obtain ⟨y, hy⟩ : ∃ y, y = g.S s.at' t.dep := ⟨_, rfl⟩
  rw [← hy] at hS HDE HDS HHE HHS
  obtain ⟨h1, h2⟩ := hs.now
  obtain ⟨h3, h4⟩ := hs.load
  have hh1 := h.h0
  have hh2 := h.h1
  have HHH := Lib.hid (And.intro hh1 hh2)
  have T3 := Lib.hid hb
  have hT := T3.out
  unfold tourC at hT
  try dsimp only at hT
  have d0 := cell_at hT 0
  have d1 := cell_at hT 1
  have d2 := cell_at hT 2
  have d3 := cell_at hT 3
  have d4 := cell_at hT 4
  have d5 := cell_at hT 5
  have d6 := cell_at hT 6
  have d7 := cell_at hT 7
  have d8 := cell_at hT 8
  have d9 := cell_at hT 9
  have da := cell_at hT 10
  have db := cell_at hT 11
  have dc := cell_at hT 12
  have dfr := fun j => free_at T3.out j
  have zt := szs (block_lt hT)
  clear hT
  obtain ⟨E, hE⟩ : ∃ E, E = homeE g t s := ⟨_, rfl⟩
  rw [← hE] at HHE ⊢
  obtain ⟨S2, hS2⟩ : ∃ S2, S2 = homeS g t s := ⟨_, rfl⟩
  rw [← hS2] at HHS ⊢
  clear h hr hg hs hd hb hy hE hS2 hh1 hh2
  go_enter Try.func120, Try.ntmps120
  go_wp2_with fail
  refine DR.out.mono ?_
  rintro e w3 ⟨rfl, hT3, o3⟩
  have O3 := Lib.hid o3
  rw [HDS.out] at hT3
  rw [HDE.out]
  clear DR T3 o3
  clear d0 d1 d2 d3 d4 d5 d6 d7 d8 d9 da db dc dfr zt
  have T3 := Lib.hid hT3
  clear hT3 HDE HDS
  by_cases hy0 : y < 0
  · rw [if_pos hy0] at HHE ⊢
    go_wp2_with fail
    go_returns
    exact ⟨by rw [HHE.out]; rfl, O3.out, fun h => by rw [HHE.out] at h; cases h⟩
  · rw [if_neg hy0] at HHE T3 ⊢
    have hT := T3.out
    unfold tourC at hT
    try dsimp only at hT
    have d0 := cell_at hT 0
    have d1 := cell_at hT 1
    have d2 := cell_at hT 2
    have d3 := cell_at hT 3
    have d4 := cell_at hT 4
    have d5 := cell_at hT 5
    have d6 := cell_at hT 6
    have d7 := cell_at hT 7
    have d8 := cell_at hT 8
    have d9 := cell_at hT 9
    have da := cell_at hT 10
    have db := cell_at hT 11
    have dc := cell_at hT 12
    have dfr := fun j => free_at T3.out j
    have zt := szs (block_lt hT)
    clear hT
    go_wp2_with fail
    (refine region_order (fun i : Nat => World.drewN _ i) [] [0, 1, 2, 3, 4, 5, 6, 7, 8, 9, 10, 11, 12, 13, 14, 15, 16] 17 [] mixed (by kernel_rfl) ⟨1, rfl⟩ ?_; simp only [List.map_cons, List.map_nil, Array.getD_eq_getD_getElem?, List.getElem?_toArray, List.getElem?_cons_zero, List.getElem?_cons_succ, Option.getD_some]; (repeat (refine wpPure_cons _ rfl (fun w' => by go_simp; try rfl) ?_; dsimp only [Act.put])); refine wpPure_nil ?_; (repeat (any_goals (first | go_big_quiet_step (fail) | quiet_step (fail) | (refine wpQuiet_step (fun K hK => ?_); go_simp; split <;> (refine hK _ ?_; clear hK K))))); (all_goals (refine wpQuiet_nil (fun nq => ?_))))
    have b4 : Below w3.heap.size w3 (w3.drewN nq) := below_drewN (Below.refl _ _) nq
    replace T3 := Lib.hid ((b4.block _ (block_lt T3.out)).trans T3.out)
    replace O3 := Lib.hid (O3.out.trans (Y := fun _ => False) (Off.of_below b4) (fun _ _ h => h.elim))
    clear d0 d1 d2 d3 d4 d5 d6 d7 d8 d9 da db dc dfr zt
    clear b4
    generalize w3.drewN nq = w4 at *
    have hT := T3.out
    unfold tourC at hT
    try dsimp only at hT
    have d0 := cell_at hT 0
    have d1 := cell_at hT 1
    have d2 := cell_at hT 2
    have d3 := cell_at hT 3
    have d4 := cell_at hT 4
    have d5 := cell_at hT 5
    have d6 := cell_at hT 6
    have d7 := cell_at hT 7
    have d8 := cell_at hT 8
    have d9 := cell_at hT 9
    have da := cell_at hT 10
    have db := cell_at hT 11
    have dc := cell_at hT 12
    have dfr := fun j => free_at T3.out j
    have zt := szs (block_lt hT)
    clear hT
    go_wp2_with fail
    refine onlyN_intro ?_
    go_wp2_with fail
    have hT5 : (w4.setCell ⟨b, 10, none⟩ (.int .i64 (s.now + y + s.load * g.h))).heap[b]? = some (.cells (tourC g t ⟨t.dep, s.now + y + s.load * g.h, s.load, s.drv + y⟩) 163 (0, 0)) := by
      rw [setCell_at T3.out, setAt_same (block_lt T3.out)]; rfl
    have o5 : Off (fun q => q = b) w4 (w4.setCell ⟨b, 10, none⟩ (.int .i64 (s.now + y + s.load * g.h))) := (Off.refl (fun q => q = b) w4).setCell (p := ⟨b, 10, none⟩) (fun _ => rfl) _
    replace O3 := Lib.hid (O3.out.same o5)
    replace T3 := Lib.hid hT5
    clear d0 d1 d2 d3 d4 d5 d6 d7 d8 d9 da db dc dfr zt
    clear hT5 o5
    generalize w4.setCell ⟨b, 10, none⟩ (.int .i64 (s.now + y + s.load * g.h)) = w5 at *
    have hT := T3.out
    unfold tourC at hT
    try dsimp only at hT
    have d0 := cell_at hT 0
    have d1 := cell_at hT 1
    have d2 := cell_at hT 2
    have d3 := cell_at hT 3
    have d4 := cell_at hT 4
    have d5 := cell_at hT 5
    have d6 := cell_at hT 6
    have d7 := cell_at hT 7
    have d8 := cell_at hT 8
    have d9 := cell_at hT 9
    have da := cell_at hT 10
    have db := cell_at hT 11
    have dc := cell_at hT 12
    have dfr := fun j => free_at T3.out j
    have zt := szs (block_lt hT)
    clear hT
    (refine region_all (fun i : Nat => World.drewN _ i) mixed (by kernel_rfl) ⟨1, rfl⟩ ?_; (repeat (any_goals (first | go_big_quiet_step (fail) | quiet_step (fail) | (refine wpQuiet_step (fun K hK => ?_); go_simp; split <;> (refine hK _ ?_; clear hK K))))); (all_goals (refine wpQuiet_nil (fun nq => ?_))))
    have b6 : Below w5.heap.size w5 (w5.drewN nq) := below_drewN (Below.refl _ _) nq
    replace T3 := Lib.hid ((b6.block _ (block_lt T3.out)).trans T3.out)
    replace O3 := Lib.hid (O3.out.trans (Y := fun _ => False) (Off.of_below b6) (fun _ _ h => h.elim))
    clear b6
    clear d0 d1 d2 d3 d4 d5 d6 d7 d8 d9 da db dc dfr zt
    generalize w5.drewN nq = w6 at *
    by_cases hl2 : t.til < s.now + y + s.load * g.h
    · rw [if_pos hl2] at HHE
      go_wp2_with fail
      go_returns
      exact ⟨by rw [HHE.out]; rfl, O3.out, fun h => by rw [HHE.out] at h; cases h⟩
    · rw [if_neg hl2] at HHE
      have tl2 : decide (t.til < s.now + y + s.load * g.h) = false := decide_eq_false hl2
      go_wp2_with fail
      go_returns
      exact ⟨by rw [HHE.out]; rfl, O3.out, fun _ => by rw [HHS.out]; exact T3.out⟩
end Go.Proofs.Ytlnfhlmgnppcbaa

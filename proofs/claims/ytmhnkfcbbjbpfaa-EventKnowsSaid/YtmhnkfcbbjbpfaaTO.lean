/- The test of the order: of two different events exactly one comes first. -/
import Derived.Test.YtmhnkfcbbjbpfaaSB
namespace Go.Proofs.Ytmhnkfcbbjbpfaa
open Go.RowKit Go.ChangeShapes Go.WideShapes Go.Deep
set_option linter.unusedVariables false
set_option linter.unusedSimpArgs false
/-- Two events boxed. -/
structure Box2 (w wb : World) (v u : Ev) : Prop where
  one : wb.heap[w.heap.size]? = some (.cells (eC v) 26 (0, 0))
  two : wb.heap[w.heap.size + 1]? = some (.cells (eC u) 26 (0, 0))
  bel : Below w.heap.size w wb
theorem Box2.start (w : World) (v u : Ev) : Box2 w ((w.alloc (.cells (eC v) 26)).alloc (.cells (eC u) 26)) v u := by
  have h0 := heap_alloc_new w (.cells (eC v) 26)
  have hb : Below (w.alloc (.cells (eC v) 26)).heap.size (w.alloc (.cells (eC v) 26)) ((w.alloc (.cells (eC v) 26)).alloc (.cells (eC u) 26)) := (Below.refl _ _).alloc (Nat.le_refl _) _
  refine ⟨(hb.block _ (block_lt h0)).trans h0, ?_, by (repeat' (first | (with_reducible exact Below.refl _ _) | (with_reducible assumption) | (with_reducible refine Below.drew ?_) | (with_reducible refine below_drewN ?_ _) | (with_reducible refine Below.alloc ?_ ?_ _) | (with_reducible refine Below.setCell ?_ ?_ _) | go_size))⟩
  have h1 := heap_alloc_new (w.alloc (.cells (eC v) 26)) (.cells (eC u) 26)
  rw [show (w.alloc (.cells (eC v) 26)).heap.size = w.heap.size + 1 by simp] at h1
  exact h1
theorem Box2.below {w wb w' : World} {v u : Ev} (h : Box2 w wb v u) (hb : Below wb.heap.size wb w') : Box2 w w' v u :=
  ⟨(hb.block _ (block_lt h.one)).trans h.one, (hb.block _ (block_lt h.two)).trans h.two, h.bel.trans (hb.mono h.bel.size)⟩
set_option maxRecDepth 4000 in
set_option maxHeartbeats 4000000 in
theorem total24 (v u : Ev) (w : World) : Calls Try.prog 24 #[.agg (eC v), .agg (eC u)] w fun e w' => e = .returned (.bool true) ∧ Below w.heap.size w w' := by
  have EQ := fun w' => (eqEv v u w').1
  have C1 := Lib.hid (fun w' => less19 v u w')
  have C2 := Lib.hid (fun w' => less19 u v w')
  by_cases huv : v = u
  · have e1 : decide (v = u) = true := decide_eq_true huv
    have i1 : ltE v u = false := by rw [huv]; exact ltE_irr _
    have i2 : ltE u v = false := by rw [huv]; exact ltE_irr _
    rw [e1] at EQ
    rw [i1] at C1
    rw [i2] at C2
    clear e1 i1 i2 huv
    have B0 := Lib.hid (Box2.start w v u)
    unfold eC at *
    obtain ⟨v1, v2, v3, v4, v5, v6, v7, v8, v9⟩ := v
    obtain ⟨n1, n2, n3, n4, n5, n6, n7, n8, n9⟩ := u
    dsimp only at EQ C1 C2 B0 ⊢
    go_enter Try.func24, Try.ntmps24
    go_wp2_with fail
    refine (C1.out _).mono ?_
    rintro e w1 ⟨rfl, g1⟩
    have B1 := Lib.hid (B0.out.below g1.1)
    have x1 := B1.out.one
    have x2 := B1.out.two
    unfold eC at x1 x2
    dsimp only at x1 x2
    have z1 := szs (block_lt x1)
    have z2 := szs (block_lt x2)
    have a0 := cell_at x1 0
    have a1 := cell_at x1 1
    have a2 := cell_at x1 2
    have a3 := cell_at x1 3
    have a4 := cell_at x1 4
    have a5 := cell_at x1 5
    have a6 := cell_at x1 6
    have a7 := cell_at x1 7
    have a8 := cell_at x1 8
    have d0 := cell_at x2 0
    have d1 := cell_at x2 1
    have d2 := cell_at x2 2
    have d3 := cell_at x2 3
    have d4 := cell_at x2 4
    have d5 := cell_at x2 5
    have d6 := cell_at x2 6
    have d7 := cell_at x2 7
    have d8 := cell_at x2 8
    clear x1 x2
    clear g1
    go_wp2_with fail
    refine (C2.out _).mono ?_
    rintro e w2 ⟨rfl, g2⟩
    have B2 := Lib.hid (B1.out.below g2.1)
    clear g2
    go_wp2_with fail
    go_returns
    exact ⟨rfl, B2.out.bel⟩
  · have e1 : decide (v = u) = false := decide_eq_false huv
    have hx : ltE u v = !ltE v u := by
      cases h1 : ltE v u
      · cases h2 : ltE u v
        · exact absurd (ltE_total h1 h2) huv
        · rfl
      · rw [ltE_asym h1]; rfl
    rw [e1] at EQ
    rw [hx] at C2
    generalize ltE v u = b at *
    clear e1 hx huv
    have B0 := Lib.hid (Box2.start w v u)
    unfold eC at *
    obtain ⟨v1, v2, v3, v4, v5, v6, v7, v8, v9⟩ := v
    obtain ⟨n1, n2, n3, n4, n5, n6, n7, n8, n9⟩ := u
    dsimp only at EQ C1 C2 B0 ⊢
    go_enter Try.func24, Try.ntmps24
    go_wp2_with fail
    obtain ⟨wb, hwb⟩ : ∃ wb, wb = (w.alloc (.cells #[.int .i64 v1, .int .i64 v2, .int .i64 v3, .int .i64 v4, .int .i64 v5, .int .i64 v6, .int .i64 v7, .int .i64 v8, .int .i64 v9] 26)).alloc (.cells #[.int .i64 n1, .int .i64 n2, .int .i64 n3, .int .i64 n4, .int .i64 n5, .int .i64 n6, .int .i64 n7, .int .i64 n8, .int .i64 n9] 26) := ⟨_, rfl⟩
    rw [← hwb] at B0 ⊢
    have x1 := B0.out.one
    have x2 := B0.out.two
    unfold eC at x1 x2
    dsimp only at x1 x2
    have z1 := szs (block_lt x1)
    have z2 := szs (block_lt x2)
    have a0 := cell_at x1 0
    have a1 := cell_at x1 1
    have a2 := cell_at x1 2
    have a3 := cell_at x1 3
    have a4 := cell_at x1 4
    have a5 := cell_at x1 5
    have a6 := cell_at x1 6
    have a7 := cell_at x1 7
    have a8 := cell_at x1 8
    have d0 := cell_at x2 0
    have d1 := cell_at x2 1
    have d2 := cell_at x2 2
    have d3 := cell_at x2 3
    have d4 := cell_at x2 4
    have d5 := cell_at x2 5
    have d6 := cell_at x2 6
    have d7 := cell_at x2 7
    have d8 := cell_at x2 8
    clear x1 x2
    clear hwb
    (obtain ⟨ι, hne, Fw, fb, hF⟩ := grow_family wb); have hF : ∀ w', (gPlan wb (fun i => if i = 2 then .bool b else .bool (!b)) [2, 5] [] []).D () w' → ∃ i, w' = Fw i := hF
    (have f0 := fun i => cell_kept (fb i) a0; have f1 := fun i => cell_kept (fb i) a1; have f2 := fun i => cell_kept (fb i) a2; have f3 := fun i => cell_kept (fb i) a3; have f4 := fun i => cell_kept (fb i) a4; have f5 := fun i => cell_kept (fb i) a5; have f6 := fun i => cell_kept (fb i) a6; have f7 := fun i => cell_kept (fb i) a7; have f8 := fun i => cell_kept (fb i) a8); (clear a0 a1 a2 a3 a4 a5 a6 a7 a8)
    (have g0 := fun i => cell_kept (fb i) d0; have g1 := fun i => cell_kept (fb i) d1; have g2 := fun i => cell_kept (fb i) d2; have g3 := fun i => cell_kept (fb i) d3; have g4 := fun i => cell_kept (fb i) d4; have g5 := fun i => cell_kept (fb i) d5; have g6 := fun i => cell_kept (fb i) d6; have g7 := fun i => cell_kept (fb i) d7; have g8 := fun i => cell_kept (fb i) d8); (clear d0 d1 d2 d3 d4 d5 d6 d7 d8)
    (refine region_chain (gPlan wb (fun i => if i = 2 then .bool b else .bool (!b)) [2, 5] [] []) () [] [0, 1, 3, 4, 2, 5, 6, 7] [] mixed (by kernel_rfl) (by kernel_rfl) (gPlan_ok (by simp) (by simp)) (gPlan_start _ _ _ _ _) ?_; refine wpPure_nil ?_; simp only [List.map_cons, List.map_nil, Array.getD_eq_getD_getElem?, List.getElem?_toArray, List.getElem?_cons_zero, List.getElem?_cons_succ, Option.getD_some])
    (repeat (first | (refine wpChain_skip rfl ?_; simp only [Act.put, List.setIfInBounds_toArray, List.set_cons_succ, List.set_cons_zero]) | (refine wpChain_quiet hF rfl rfl rfl ?_; intro K hK; go_big_quiet_op; go_big_quiet_on) | (refine wpChain_pure _ rfl rfl (fun w' _ => by go_simp; try rfl) ?_; simp only [Act.put, List.setIfInBounds_toArray, List.set_cons_succ, List.set_cons_zero])))
    refine wpChain_gcall 19 _ rfl rfl (fun w' => by go_simp) (fun w' hb => (C1.out w').mono fun _ _ ⟨he, hw⟩ => ⟨he, hw.1⟩) ?_
    simp only [Act.put, List.setIfInBounds_toArray, List.set_cons_succ, List.set_cons_zero]
    refine wpChain_gcall 19 _ rfl rfl (fun w' => by go_simp) (fun w' hb => (C2.out w').mono fun _ _ ⟨he, hw⟩ => ⟨he, hw.1⟩) ?_
    simp only [Act.put, List.setIfInBounds_toArray, List.set_cons_succ, List.set_cons_zero]
    simp only [if_true, if_false, (by decide : ¬ (5 = 2))]
    (repeat (first | (refine wpChain_skip rfl ?_; simp only [Act.put, List.setIfInBounds_toArray, List.set_cons_succ, List.set_cons_zero]) | (refine wpChain_quiet hF rfl rfl rfl ?_; intro K hK; go_big_quiet_op; go_big_quiet_on) | (refine wpChain_pure _ rfl rfl (fun w' _ => by go_simp; try rfl) ?_; simp only [Act.put, List.setIfInBounds_toArray, List.set_cons_succ, List.set_cons_zero])))
    refine wpChain_nil (fun w4 hb4 hl4 => ?_)
    have HB4 : Hid (Below wb.heap.size wb w4) := hb4
    clear hb4 hl4 hF f0 f1 f2 f3 f4 f5 f6 f7 f8 g0 g1 g2 g3 g4 g5 g6 g7 g8 fb C1 C2
    refine onlyN_intro ?_
    cases b
    all_goals
      go_wp2_with fail
      go_returns
      exact ⟨rfl, (B0.out.below HB4.out).bel⟩
end Go.Proofs.Ytmhnkfcbbjbpfaa

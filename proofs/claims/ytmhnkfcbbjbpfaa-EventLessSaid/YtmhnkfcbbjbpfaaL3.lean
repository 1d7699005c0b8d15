/- The law EventLess. -/
import Derived.Test.YtmhnkfcbbjbpfaaAW2
namespace Go.Proofs.Ytmhnkfcbbjbpfaa
open Go.RowKit Go.ChangeShapes Go.WideShapes Go.Deep
set_option linter.unusedVariables false
set_option linter.unusedSimpArgs false
set_option maxRecDepth 4000 in
set_option maxHeartbeats 4000000 in
theorem run_eventLess {H : Type} {enc : TypeId × Value → H} (W : World) (base : Nat) (v0 : Value) (d0 : DataW H) (p0 : List MemPlace) (hv0 : Value.okWide Try.prog W .any base 26 v0) (h0 : DataW.Trod enc Try.prog W 0 (fun _ => true) true 26 v0 d0 p0)
    (v1 : Value) (d1 : DataW H) (p1 : List MemPlace) (hv1 : Value.okWide Try.prog W .any base 26 v1) (h1 : DataW.Trod enc Try.prog W 0 (fun _ => true) true 26 v1 d1 p1) :
    Calls Try.prog 4 #[v0, v1] W fun e w' => e = .returned (.bool true) ∧ Below W.heap.size W w' := by
  obtain ⟨v, rfl, _⟩ := open_event hv0 h0
  obtain ⟨u, rfl, _⟩ := open_event hv1 h1
  clear hv0 h0 hv1 h1
  have AW := Lib.hid (fun w' => awake14 w')
  have P1 := Lib.hid (fun w' => less19 v u w')
  have P2 := Lib.hid (fun w' => less20 v u w')
  have P3 := Lib.hid (fun w' => less19 u v w')
  have P4 := Lib.hid (fun w' => less20 u v w')
  generalize ltE v u = b at *
  generalize ltE u v = c at *
  have B0 := Lib.hid (Box2.start W v u)
  unfold eC at *
  obtain ⟨v1, v2, v3, v4, v5, v6, v7, v8, v9⟩ := v
  obtain ⟨n1, n2, n3, n4, n5, n6, n7, n8, n9⟩ := u
  dsimp only at P1 P2 P3 P4 B0 ⊢
  go_enter Try.func4, Try.ntmps4
  go_wp2_with fail
  obtain ⟨wb, hwb⟩ : ∃ wb, wb = (W.alloc (.cells #[.int .i64 v1, .int .i64 v2, .int .i64 v3, .int .i64 v4, .int .i64 v5, .int .i64 v6, .int .i64 v7, .int .i64 v8, .int .i64 v9] 26)).alloc (.cells #[.int .i64 n1, .int .i64 n2, .int .i64 n3, .int .i64 n4, .int .i64 n5, .int .i64 n6, .int .i64 n7, .int .i64 n8, .int .i64 n9] 26) := ⟨_, rfl⟩
  rw [← hwb] at B0 ⊢
  have x1 := B0.out.one
  have x2 := B0.out.two
  unfold eC at x1 x2
  dsimp only at x1 x2
  have a0 := cell_at x1 0
  have a1 := cell_at x1 1
  have a2 := cell_at x1 2
  have a3 := cell_at x1 3
  have a4 := cell_at x1 4
  have a5 := cell_at x1 5
  have a6 := cell_at x1 6
  have a7 := cell_at x1 7
  have a8 := cell_at x1 8
  have d0 := cell_at x2 0
  have d1 := cell_at x2 1
  have d2 := cell_at x2 2
  have d3 := cell_at x2 3
  have d4 := cell_at x2 4
  have d5 := cell_at x2 5
  have d6 := cell_at x2 6
  have d7 := cell_at x2 7
  have d8 := cell_at x2 8
  clear hwb x1 x2
  (obtain ⟨ι, hne, Fw, fb, hF⟩ := grow_family wb); have hF : ∀ w', (gPlan wb (fun i => if i = 2 ∨ i = 5 then .bool b else if i = 10 ∨ i = 13 then .bool c else .bool true) [2, 5, 10, 13, 17] [] []).D () w' → ∃ i, w' = Fw i := hF
  (have f0 := fun i => cell_kept (fb i) a0; have f1 := fun i => cell_kept (fb i) a1; have f2 := fun i => cell_kept (fb i) a2; have f3 := fun i => cell_kept (fb i) a3; have f4 := fun i => cell_kept (fb i) a4; have f5 := fun i => cell_kept (fb i) a5; have f6 := fun i => cell_kept (fb i) a6; have f7 := fun i => cell_kept (fb i) a7; have f8 := fun i => cell_kept (fb i) a8); (clear a0 a1 a2 a3 a4 a5 a6 a7 a8)
  (have g0 := fun i => cell_kept (fb i) d0; have g1 := fun i => cell_kept (fb i) d1; have g2 := fun i => cell_kept (fb i) d2; have g3 := fun i => cell_kept (fb i) d3; have g4 := fun i => cell_kept (fb i) d4; have g5 := fun i => cell_kept (fb i) d5; have g6 := fun i => cell_kept (fb i) d6; have g7 := fun i => cell_kept (fb i) d7; have g8 := fun i => cell_kept (fb i) d8); (clear d0 d1 d2 d3 d4 d5 d6 d7 d8)
  (refine region_chain (gPlan wb (fun i => if i = 2 ∨ i = 5 then .bool b else if i = 10 ∨ i = 13 then .bool c else .bool true) [2, 5, 10, 13, 17] [] []) () [] [0, 1, 3, 4, 2, 5, 6, 7, 8, 9, 11, 12, 10, 13, 14, 15, 16, 17, 18, 19] [] mixed (by kernel_rfl) (by kernel_rfl) (gPlan_ok (by simp) (by simp)) (gPlan_start _ _ _ _ _) ?_; refine wpPure_nil ?_; simp only [List.map_cons, List.map_nil, Array.getD_eq_getD_getElem?, List.getElem?_toArray, List.getElem?_cons_zero, List.getElem?_cons_succ, Option.getD_some])
  (repeat (first | (refine wpChain_skip rfl ?_; simp only [Act.put, List.setIfInBounds_toArray, List.set_cons_succ, List.set_cons_zero]) | (refine wpChain_quiet hF rfl rfl rfl ?_; intro K hK; go_big_quiet_op; go_big_quiet_on) | (refine wpChain_pure _ rfl rfl (fun w' _ => by go_simp; try rfl) ?_; simp only [Act.put, List.setIfInBounds_toArray, List.set_cons_succ, List.set_cons_zero])))
  refine wpChain_gcall 19 _ rfl rfl (fun w' => by go_simp) (fun w' hb => (P1.out w').mono fun _ _ ⟨he, hw⟩ => ⟨he, hw.1⟩) ?_
  simp only [Act.put, List.setIfInBounds_toArray, List.set_cons_succ, List.set_cons_zero]
  (try simp only [show ((2 : Nat) = 2 ∨ (2 : Nat) = 5) by omega, if_true])
  (repeat (first | (refine wpChain_skip rfl ?_; simp only [Act.put, List.setIfInBounds_toArray, List.set_cons_succ, List.set_cons_zero]) | (refine wpChain_quiet hF rfl rfl rfl ?_; intro K hK; go_big_quiet_op; go_big_quiet_on) | (refine wpChain_pure _ rfl rfl (fun w' _ => by go_simp; try rfl) ?_; simp only [Act.put, List.setIfInBounds_toArray, List.set_cons_succ, List.set_cons_zero])))
  refine wpChain_gcall 20 _ rfl rfl (fun w' => by go_simp) (fun w' hb => (P2.out w').mono fun _ _ ⟨he, hw⟩ => ⟨he, hw.1⟩) ?_
  simp only [Act.put, List.setIfInBounds_toArray, List.set_cons_succ, List.set_cons_zero]
  (try simp only [show ((5 : Nat) = 2 ∨ (5 : Nat) = 5) by omega, if_true])
  (repeat (first | (refine wpChain_skip rfl ?_; simp only [Act.put, List.setIfInBounds_toArray, List.set_cons_succ, List.set_cons_zero]) | (refine wpChain_quiet hF rfl rfl rfl ?_; intro K hK; go_big_quiet_op; go_big_quiet_on) | (refine wpChain_pure _ rfl rfl (fun w' _ => by go_simp; try rfl) ?_; simp only [Act.put, List.setIfInBounds_toArray, List.set_cons_succ, List.set_cons_zero])))
  refine wpChain_gcall 19 _ rfl rfl (fun w' => by go_simp) (fun w' hb => (P3.out w').mono fun _ _ ⟨he, hw⟩ => ⟨he, hw.1⟩) ?_
  simp only [Act.put, List.setIfInBounds_toArray, List.set_cons_succ, List.set_cons_zero]
  (try simp only [show ¬ ((10 : Nat) = 2 ∨ (10 : Nat) = 5) by omega, show ((10 : Nat) = 10 ∨ (10 : Nat) = 13) by omega, if_true, if_false])
  (repeat (first | (refine wpChain_skip rfl ?_; simp only [Act.put, List.setIfInBounds_toArray, List.set_cons_succ, List.set_cons_zero]) | (refine wpChain_quiet hF rfl rfl rfl ?_; intro K hK; go_big_quiet_op; go_big_quiet_on) | (refine wpChain_pure _ rfl rfl (fun w' _ => by go_simp; try rfl) ?_; simp only [Act.put, List.setIfInBounds_toArray, List.set_cons_succ, List.set_cons_zero])))
  refine wpChain_gcall 20 _ rfl rfl (fun w' => by go_simp) (fun w' hb => (P4.out w').mono fun _ _ ⟨he, hw⟩ => ⟨he, hw.1⟩) ?_
  simp only [Act.put, List.setIfInBounds_toArray, List.set_cons_succ, List.set_cons_zero]
  (try simp only [show ¬ ((13 : Nat) = 2 ∨ (13 : Nat) = 5) by omega, show ((13 : Nat) = 10 ∨ (13 : Nat) = 13) by omega, if_true, if_false])
  (repeat (first | (refine wpChain_skip rfl ?_; simp only [Act.put, List.setIfInBounds_toArray, List.set_cons_succ, List.set_cons_zero]) | (refine wpChain_quiet hF rfl rfl rfl ?_; intro K hK; go_big_quiet_op; go_big_quiet_on) | (refine wpChain_pure _ rfl rfl (fun w' _ => by go_simp; try rfl) ?_; simp only [Act.put, List.setIfInBounds_toArray, List.set_cons_succ, List.set_cons_zero])))
  refine wpChain_gcall 14 _ rfl rfl (fun w' => by go_simp) (fun w' hb => AW.out w') ?_
  simp only [Act.put, List.setIfInBounds_toArray, List.set_cons_succ, List.set_cons_zero]
  (try simp only [show ¬ ((17 : Nat) = 2 ∨ (17 : Nat) = 5) by omega, show ¬ ((17 : Nat) = 10 ∨ (17 : Nat) = 13) by omega, if_true, if_false])
  (repeat (first | (refine wpChain_skip rfl ?_; simp only [Act.put, List.setIfInBounds_toArray, List.set_cons_succ, List.set_cons_zero]) | (refine wpChain_quiet hF rfl rfl rfl ?_; intro K hK; go_big_quiet_op; go_big_quiet_on) | (refine wpChain_pure _ rfl rfl (fun w' _ => by go_simp; try rfl) ?_; simp only [Act.put, List.setIfInBounds_toArray, List.set_cons_succ, List.set_cons_zero])))
  refine wpChain_nil (fun w4 hb4 hl4 => ?_)
  have HB4 : Hid (Below wb.heap.size wb w4) := hb4
  clear hb4 hl4 hF f0 f1 f2 f3 f4 f5 f6 f7 f8 g0 g1 g2 g3 g4 g5 g6 g7 g8 fb P1 P2 P3 P4
  refine onlyN_intro ?_
  go_wp2_with fail
  go_returns
  exact ⟨rfl, (B0.out.below HB4.out).bel⟩
end Go.Proofs.Ytmhnkfcbbjbpfaa

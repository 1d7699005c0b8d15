/- Set$1: the comparison by device, number, and all. -/
import Derived.Test.YtlnfhlmgnppcbaaE0
namespace Go.Proofs.Ytlnfhlmgnppcbaa
open Go.RowKit Go.ChangeShapes Go.WideShapes Go.Deep
set_option linter.unusedVariables false
set_option linter.unusedSimpArgs false
set_option maxHeartbeats 4000000 in
theorem set81 (v u : Ev) (w : World) : Calls Try.prog 81 #[.agg (eC v), .agg (eC u)] w fun e w' => e = .returned (.int .i64 (cmpD v u)) ∧ Grew w w' := by
  have CC := Lib.hid (fun w' => compare84 v u w')
  have C1 := Lib.hid (fun w' => cmp83 v.dev u.dev w')
  have C2 := Lib.hid (fun w' => cmp83 v.seq u.seq w')
  obtain ⟨y1, hy1⟩ : ∃ y1, y1 = cmp1 v.dev u.dev := ⟨_, rfl⟩
  obtain ⟨y2, hy2⟩ : ∃ y2, y2 = cmp1 v.seq u.seq := ⟨_, rfl⟩
  obtain ⟨y3, hy3⟩ : ∃ y3, y3 = cmpE v u := ⟨_, rfl⟩
  have HR : Hid (cmpD v u = orV y1 y2 y3) := Lib.hid (by rw [cmpD_or, hy1, hy2, hy3])
  rw [← hy3] at CC
  rw [← hy1] at C1
  rw [← hy2] at C2
  clear hy1 hy2 hy3
  obtain ⟨r, hr⟩ : ∃ r, r = cmpD v u := ⟨_, rfl⟩
  rw [← hr] at HR ⊢
  clear hr
  unfold eC at *
  obtain ⟨v1, v2, v3, v4, v5, v6, v7, v8, v9⟩ := v
  obtain ⟨n1, n2, n3, n4, n5, n6, n7, n8, n9⟩ := u
  dsimp only at CC C1 C2 ⊢
  go_enter Try.func81, Try.ntmps81
  go_wp2_with fail
  obtain ⟨wa, hwa⟩ : ∃ wa, wa = w.alloc (.cells #[.int .i64 v1, .int .i64 v2, .int .i64 v3, .int .i64 v4, .int .i64 v5, .int .i64 v6, .int .i64 v7, .int .i64 v8, .int .i64 v9] 24) := ⟨_, rfl⟩
  obtain ⟨wb, hwb⟩ : ∃ wb, wb = wa.alloc (.cells #[.int .i64 n1, .int .i64 n2, .int .i64 n3, .int .i64 n4, .int .i64 n5, .int .i64 n6, .int .i64 n7, .int .i64 n8, .int .i64 n9] 24) := ⟨_, rfl⟩
  rw [← hwa, ← hwb]
  have hz : wa.heap.size = w.heap.size + 1 := by rw [hwa]; simp
  have x1 : wb.heap[w.heap.size]? = some (.cells #[.int .i64 v1, .int .i64 v2, .int .i64 v3, .int .i64 v4, .int .i64 v5, .int .i64 v6, .int .i64 v7, .int .i64 v8, .int .i64 v9] 24) := by
    have e : wa.heap[w.heap.size]? = some (.cells #[.int .i64 v1, .int .i64 v2, .int .i64 v3, .int .i64 v4, .int .i64 v5, .int .i64 v6, .int .i64 v7, .int .i64 v8, .int .i64 v9] 24) := by rw [hwa]; exact heap_alloc_new w _
    have hb : Below wa.heap.size wa wb := by rw [hwb]; exact (Below.refl _ _).alloc (Nat.le_refl _) _
    exact (hb.block _ (block_lt e)).trans e
  have x2 : wb.heap[w.heap.size + 1]? = some (.cells #[.int .i64 n1, .int .i64 n2, .int .i64 n3, .int .i64 n4, .int .i64 n5, .int .i64 n6, .int .i64 n7, .int .i64 n8, .int .i64 n9] 24) := by rw [hwb, ← hz]; exact heap_alloc_new wa _
  have G0 : Hid (Grew w wb) := Lib.hid (by rw [hwb, hwa]; (repeat' (first | (with_reducible exact Grew.refl _) | (with_reducible assumption) | (with_reducible refine Grew.drew ?_) | (with_reducible refine Grew.drewN ?_ _) | (with_reducible refine Grew.alloc ?_ _))))
  clear hwa hwb hz
  obtain ⟨A, hA⟩ : ∃ A, A = w.heap.size := ⟨_, rfl⟩
  obtain ⟨B, hB⟩ : ∃ B, B = w.heap.size + 1 := ⟨_, rfl⟩
  have a0 := cell_at x1 0
  have b0 := cell_at x2 0
  have a1 := cell_at x1 1
  have b1 := cell_at x2 1
  have a2 := cell_at x1 2
  have b2 := cell_at x2 2
  have a3 := cell_at x1 3
  have b3 := cell_at x2 3
  have a4 := cell_at x1 4
  have b4 := cell_at x2 4
  have a5 := cell_at x1 5
  have b5 := cell_at x2 5
  have a6 := cell_at x1 6
  have b6 := cell_at x2 6
  have a7 := cell_at x1 7
  have b7 := cell_at x2 7
  have a8 := cell_at x1 8
  have b8 := cell_at x2 8
  clear x1 x2 hA hB
  (obtain ⟨ι, hne, Fw, fb, hF⟩ := dfamily wb); have hF : ∀ w', (dPlan wb (fun i => if i = 4 then .int .i64 y1 else if i = 9 then .int .i64 y2 else .int .i64 y3) [4, 9, 12] [(13, fun b => .slice (some ⟨b, 0, none⟩) 3 3, .cells #[.int .i64 y1, .int .i64 y2, .int .i64 y3] 3)] []).D () w' → ∃ i, w' = Fw i := hF
  have f0 := fun i => cell_kept (fb i) a0
  have g0 := fun i => cell_kept (fb i) b0
  have f1 := fun i => cell_kept (fb i) a1
  have g1 := fun i => cell_kept (fb i) b1
  have f2 := fun i => cell_kept (fb i) a2
  have g2 := fun i => cell_kept (fb i) b2
  have f3 := fun i => cell_kept (fb i) a3
  have g3 := fun i => cell_kept (fb i) b3
  have f4 := fun i => cell_kept (fb i) a4
  have g4 := fun i => cell_kept (fb i) b4
  have f5 := fun i => cell_kept (fb i) a5
  have g5 := fun i => cell_kept (fb i) b5
  have f6 := fun i => cell_kept (fb i) a6
  have g6 := fun i => cell_kept (fb i) b6
  have f7 := fun i => cell_kept (fb i) a7
  have g7 := fun i => cell_kept (fb i) b7
  have f8 := fun i => cell_kept (fb i) a8
  have g8 := fun i => cell_kept (fb i) b8
  clear a0 b0 a1 b1 a2 b2 a3 b3 a4 b4 a5 b5 a6 b6 a7 b7 a8 b8
  (refine region_chain (dPlan wb (fun i => if i = 4 then .int .i64 y1 else if i = 9 then .int .i64 y2 else .int .i64 y3) [4, 9, 12] [(13, fun b => .slice (some ⟨b, 0, none⟩) 3 3, .cells #[.int .i64 y1, .int .i64 y2, .int .i64 y3] 3)] []) () [] [0, 1, 2, 3, 5, 6, 7, 8, 10, 11, 4, 9, 12, 13] [14, 15] mixed (by kernel_rfl) (by kernel_rfl) (dPlan_ok (by simp) (by simp)) (dPlan_start _ _ _ _ _) ?_; refine wpPure_nil ?_; simp only [List.map_cons, List.map_nil, Array.getD_eq_getD_getElem?, List.getElem?_toArray, List.getElem?_cons_zero, List.getElem?_cons_succ, Option.getD_some])
  (repeat (first | (refine wpChain_skip rfl ?_; simp only [Act.put, List.setIfInBounds_toArray, List.set_cons_succ, List.set_cons_zero]) | (refine wpChain_quiet hF rfl rfl rfl ?_; intro K hK; go_big_quiet_op; go_big_quiet_on) | (refine wpChain_pure _ rfl rfl (fun w' _ => by go_simp; try rfl) ?_; simp only [Act.put, List.setIfInBounds_toArray, List.set_cons_succ, List.set_cons_zero])))
  refine wpChain_dcall 83 #[.int .i64 v1, .int .i64 n1] rfl rfl (fun w' => by go_simp) (fun w' hb => (C1.out w').mono fun _ _ ⟨he, hw⟩ => ⟨he, hw ▸ Grew.refl _⟩) ?_
  simp only [Act.put, List.setIfInBounds_toArray, List.set_cons_succ, List.set_cons_zero]
  refine wpChain_dcall 83 #[.int .i64 v2, .int .i64 n2] rfl rfl (fun w' => by go_simp) (fun w' hb => (C2.out w').mono fun _ _ ⟨he, hw⟩ => ⟨he, hw ▸ Grew.refl _⟩) ?_
  simp only [Act.put, List.setIfInBounds_toArray, List.set_cons_succ, List.set_cons_zero]
  refine wpChain_dcall 84 _ rfl rfl (fun w' => by go_simp) (fun w' hb => CC.out w') ?_
  simp only [Act.put, List.setIfInBounds_toArray, List.set_cons_succ, List.set_cons_zero]
  simp only [if_true, if_false, (by decide : ¬ (9 = 4)), (by decide : ¬ (12 = 4)), (by decide : ¬ (12 = 9))]
  (refine wpChain_alloc _ _ rfl (List.mem_cons_self ..) rfl (fun w' => by go_simp) (fun b1 hb1 => ?_); simp only [Act.put, List.setIfInBounds_toArray, List.set_cons_succ, List.set_cons_zero])
  refine wpChain_nil (fun w4 hb4 hl4 => ?_)
  have B4 : Hid (Grew wb w4) := hb4
  have hx1 : w4.heap[b1]? = some (.cells #[.int .i64 y1, .int .i64 y2, .int .i64 y3] 3) := (hl4.2 (13, b1, .cells #[.int .i64 y1, .int .i64 y2, .int .i64 y3] 3) (by simp)).2
  clear hb4 hl4 hF fb hne f0 f1 f2 f3 f4 f5 f6 f7 f8 g0 g1 g2 g3 g4 g5 g6 g7 g8 CC C1 C2
  have C := Lib.hid (or82 b1 y1 y2 y3 w4 hx1)
  clear hx1
  go_wp2_with fail
  refine C.out.mono ?_
  rintro e w5 ⟨rfl, rfl⟩
  go_wp2_with fail
  refine onlyN_intro ?_
  go_wp2_with fail
  go_returns
  exact ⟨by rw [HR.out]; rfl, G0.out.trans B4.out⟩
end Go.Proofs.Ytlnfhlmgnppcbaa

/- The law EventChecks. -/
import Derived.Test.YtmhnkfcbbjbpfaaAW2
namespace Go.Proofs.Ytmhnkfcbbjbpfaa
open Go.RowKit Go.ChangeShapes Go.WideShapes Go.Deep
set_option linter.unusedVariables false
set_option linter.unusedSimpArgs false
set_option maxRecDepth 4000 in
set_option maxHeartbeats 4000000 in
theorem run_eventChecks {H : Type} {enc : TypeId × Value → H} (W : World) (base : Nat) (v0 : Value) (d0 : DataW H) (p0 : List MemPlace) (hv0 : Value.okWide Try.prog W .any base 24 v0) (h0 : DataW.Trod enc Try.prog W 0 (fun _ => true) true 24 v0 d0 p0)
    (v1 : Value) (d1 : DataW H) (p1 : List MemPlace) (hv1 : Value.okWide Try.prog W .any base 26 v1) (h1 : DataW.Trod enc Try.prog W 0 (fun _ => true) true 26 v1 d1 p1) :
    Calls Try.prog 3 #[v0, v1] W fun e w' => e = .returned (.bool true) ∧ Below W.heap.size W w' := by
  obtain ⟨f, rfl, hf, _⟩ := open_fleet hv0 h0
  obtain ⟨v, rfl, hv⟩ := open_event hv1 h1
  have hp : v.place ≤ 9223372036854775807 := (hv v.place (by simp [nums])).2
  clear hv0 h0 hv1 h1 hv
  have AW := Lib.hid (fun w' => awake14 w')
  have HF := Lib.hid hf
  have FW := Lib.hid (fun w' (hb : Below W.heap.size W w') => few13 f w' (hf.below hb))
  have F1 := Lib.hid (fun w' (hb : Below W.heap.size W w') => fleet15 f w' (hf.below hb))
  have F2 := Lib.hid (fun w' (hb : Below W.heap.size W w') => fleet16 f w' (hf.below hb))
  have K1 := Lib.hid (fun w' (hb : Below W.heap.size W w') => check17 f v w' (hf.below hb) hp)
  have K2 := Lib.hid (fun w' (hb : Below W.heap.size W w') => check18 f v w' (hf.below hb) hp)
  generalize (decide (f.nd ≤ 100) && decide (f.nt ≤ 100)) = few at *
  generalize fleetE f = fe at *
  generalize checkE f v = ce at *
  clear hp hf HF
  unfold Fl.cells at *
  unfold eC at *
  obtain ⟨bk, rd, dv, ad, nd, cd, D, a2, nt, ct, T⟩ := f
  obtain ⟨v1, v2, v3, v4, v5, v6, v7, v8, v9⟩ := v
  dsimp only at FW F1 F2 K1 K2 ⊢
  obtain ⟨wb, hwb⟩ : ∃ wb, wb = (W.alloc (.cells #[.int .i64 bk, .int .i64 rd, .int .i64 dv, .slice ad nd cd, .slice a2 nt ct] 24)).alloc (.cells #[.int .i64 v1, .int .i64 v2, .int .i64 v3, .int .i64 v4, .int .i64 v5, .int .i64 v6, .int .i64 v7, .int .i64 v8, .int .i64 v9] 26) := ⟨_, rfl⟩
  have b0 : Below W.heap.size W wb := by rw [hwb]; (repeat' (first | (with_reducible exact Below.refl _ _) | (with_reducible assumption) | (with_reducible refine Below.drew ?_) | (with_reducible refine below_drewN ?_ _) | (with_reducible refine Below.alloc ?_ ?_ _) | (with_reducible refine Below.setCell ?_ ?_ _) | go_size))
  have x1 : wb.heap[W.heap.size]? = some (.cells #[.int .i64 bk, .int .i64 rd, .int .i64 dv, .slice ad nd cd, .slice a2 nt ct] 24 (0, 0)) := by
    rw [hwb]
    have h0 := heap_alloc_new W (.cells #[.int .i64 bk, .int .i64 rd, .int .i64 dv, .slice ad nd cd, .slice a2 nt ct] 24)
    exact (((Below.refl _ (W.alloc (.cells #[.int .i64 bk, .int .i64 rd, .int .i64 dv, .slice ad nd cd, .slice a2 nt ct] 24))).alloc (Nat.le_refl _) _).block _ (block_lt h0)).trans h0
  have x2 : wb.heap[W.heap.size + 1]? = some (.cells #[.int .i64 v1, .int .i64 v2, .int .i64 v3, .int .i64 v4, .int .i64 v5, .int .i64 v6, .int .i64 v7, .int .i64 v8, .int .i64 v9] 26 (0, 0)) := by
    rw [hwb]
    have h1 := heap_alloc_new (W.alloc (.cells #[.int .i64 bk, .int .i64 rd, .int .i64 dv, .slice ad nd cd, .slice a2 nt ct] 24)) (.cells #[.int .i64 v1, .int .i64 v2, .int .i64 v3, .int .i64 v4, .int .i64 v5, .int .i64 v6, .int .i64 v7, .int .i64 v8, .int .i64 v9] 26)
    rwa [show (W.alloc (.cells #[.int .i64 bk, .int .i64 rd, .int .i64 dv, .slice ad nd cd, .slice a2 nt ct] 24)).heap.size = W.heap.size + 1 by simp] at h1
  have HW := Lib.hid hwb
  have B0 := Lib.hid b0
  have X1 := Lib.hid x1
  have X2 := Lib.hid x2
  clear hwb b0 x1 x2
  go_enter Try.func3, Try.ntmps3
  go_wp2_with fail
  rw [← HW.out]
  clear HW
  refine (FW.out _ B0.out).mono ?_
  rintro e w1 ⟨rfl, b1⟩
  have B1 := Lib.hid (B0.out.trans (b1.mono B0.out.size))
  have y1 := (b1.block _ (block_lt X1.out)).trans X1.out
  have y2 := (b1.block _ (block_lt X2.out)).trans X2.out
  clear X1 X2 b1 FW B0
  have zk := szs (block_lt y1)
  have zm := szs (block_lt y2)
  have k0 := cell_at y1 0
  have k1 := cell_at y1 1
  have k2 := cell_at y1 2
  have k3 := cell_at y1 3
  have k4 := cell_at y1 4
  have a0 := cell_at y2 0
  have a1 := cell_at y2 1
  have a2' := cell_at y2 2
  have a3 := cell_at y2 3
  have a4 := cell_at y2 4
  have a5 := cell_at y2 5
  have a6 := cell_at y2 6
  have a7 := cell_at y2 7
  have a8 := cell_at y2 8
  clear y1 y2
  cases few
  · go_wp2_with fail
    refine (AW.out _).mono ?_
    rintro e w2 ⟨rfl, b2⟩
    have B2 := Lib.hid (B1.out.trans (b2.mono B1.out.size))
    clear b2
    go_wp2_with fail
    go_returns
    exact ⟨rfl, B2.out⟩
  · go_wp2_with fail
    (obtain ⟨ι, hne, Fw, fb, hF⟩ := grow_family w1); have hF : ∀ w', (gPlan w1 (fun i => if i = 1 ∨ i = 3 then .int .i64 fe else if i = 8 ∨ i = 11 then .int .i64 ce else .bool true) [1, 3, 8, 11, 15] [] []).D () w' → ∃ i, w' = Fw i := hF
    have q0 := fun i => cell_kept (fb i) k0
    have q1 := fun i => cell_kept (fb i) k1
    have q2 := fun i => cell_kept (fb i) k2
    have q3 := fun i => cell_kept (fb i) k3
    have q4 := fun i => cell_kept (fb i) k4
    have f0 := fun i => cell_kept (fb i) a0
    have f1 := fun i => cell_kept (fb i) a1
    have f2 := fun i => cell_kept (fb i) a2'
    have f3 := fun i => cell_kept (fb i) a3
    have f4 := fun i => cell_kept (fb i) a4
    have f5 := fun i => cell_kept (fb i) a5
    have f6 := fun i => cell_kept (fb i) a6
    have f7 := fun i => cell_kept (fb i) a7
    have f8 := fun i => cell_kept (fb i) a8
    clear k0 k1 k2 k3 k4 a0 a1 a2' a3 a4 a5 a6 a7 a8
    (refine region_chain (gPlan w1 (fun i => if i = 1 ∨ i = 3 then .int .i64 fe else if i = 8 ∨ i = 11 then .int .i64 ce else .bool true) [1, 3, 8, 11, 15] [] []) () [] [0, 2, 1, 3, 4, 5, 6, 7, 9, 10, 8, 11, 12, 13, 14, 15, 16, 17] [] mixed (by kernel_rfl) (by kernel_rfl) (gPlan_ok (by simp) (by simp)) (gPlan_start _ _ _ _ _) ?_; refine wpPure_nil ?_; simp only [List.map_cons, List.map_nil, Array.getD_eq_getD_getElem?, List.getElem?_toArray, List.getElem?_cons_zero, List.getElem?_cons_succ, Option.getD_some])
    (repeat (first | (refine wpChain_skip rfl ?_; simp only [Act.put, List.setIfInBounds_toArray, List.set_cons_succ, List.set_cons_zero]) | (refine wpChain_quiet hF rfl rfl rfl ?_; intro K hK; go_big_quiet_op; go_big_quiet_on) | (refine wpChain_pure _ rfl rfl (fun w' _ => by go_simp; try rfl) ?_; simp only [Act.put, List.setIfInBounds_toArray, List.set_cons_succ, List.set_cons_zero])))
    refine wpChain_gcall 15 _ rfl rfl (fun w' => by go_simp) (fun w' hb => F1.out w' (B1.out.trans (hb.mono B1.out.size))) ?_
    simp only [Act.put, List.setIfInBounds_toArray, List.set_cons_succ, List.set_cons_zero]
    (try simp only [show ((1 : Nat) = 1 ∨ (1 : Nat) = 3) by omega, if_true])
    (repeat (first | (refine wpChain_skip rfl ?_; simp only [Act.put, List.setIfInBounds_toArray, List.set_cons_succ, List.set_cons_zero]) | (refine wpChain_quiet hF rfl rfl rfl ?_; intro K hK; go_big_quiet_op; go_big_quiet_on) | (refine wpChain_pure _ rfl rfl (fun w' _ => by go_simp; try rfl) ?_; simp only [Act.put, List.setIfInBounds_toArray, List.set_cons_succ, List.set_cons_zero])))
    refine wpChain_gcall 16 _ rfl rfl (fun w' => by go_simp) (fun w' hb => F2.out w' (B1.out.trans (hb.mono B1.out.size))) ?_
    simp only [Act.put, List.setIfInBounds_toArray, List.set_cons_succ, List.set_cons_zero]
    (try simp only [show ((3 : Nat) = 1 ∨ (3 : Nat) = 3) by omega, if_true])
    (repeat (first | (refine wpChain_skip rfl ?_; simp only [Act.put, List.setIfInBounds_toArray, List.set_cons_succ, List.set_cons_zero]) | (refine wpChain_quiet hF rfl rfl rfl ?_; intro K hK; go_big_quiet_op; go_big_quiet_on) | (refine wpChain_pure _ rfl rfl (fun w' _ => by go_simp; try rfl) ?_; simp only [Act.put, List.setIfInBounds_toArray, List.set_cons_succ, List.set_cons_zero])))
    refine wpChain_gcall 17 _ rfl rfl (fun w' => by go_simp) (fun w' hb => K1.out w' (B1.out.trans (hb.mono B1.out.size))) ?_
    simp only [Act.put, List.setIfInBounds_toArray, List.set_cons_succ, List.set_cons_zero]
    (try simp only [show ¬ ((8 : Nat) = 1 ∨ (8 : Nat) = 3) by omega, show ((8 : Nat) = 8 ∨ (8 : Nat) = 11) by omega, if_true, if_false])
    (repeat (first | (refine wpChain_skip rfl ?_; simp only [Act.put, List.setIfInBounds_toArray, List.set_cons_succ, List.set_cons_zero]) | (refine wpChain_quiet hF rfl rfl rfl ?_; intro K hK; go_big_quiet_op; go_big_quiet_on) | (refine wpChain_pure _ rfl rfl (fun w' _ => by go_simp; try rfl) ?_; simp only [Act.put, List.setIfInBounds_toArray, List.set_cons_succ, List.set_cons_zero])))
    refine wpChain_gcall 18 _ rfl rfl (fun w' => by go_simp) (fun w' hb => K2.out w' (B1.out.trans (hb.mono B1.out.size))) ?_
    simp only [Act.put, List.setIfInBounds_toArray, List.set_cons_succ, List.set_cons_zero]
    (try simp only [show ¬ ((11 : Nat) = 1 ∨ (11 : Nat) = 3) by omega, show ((11 : Nat) = 8 ∨ (11 : Nat) = 11) by omega, if_true, if_false])
    (repeat (first | (refine wpChain_skip rfl ?_; simp only [Act.put, List.setIfInBounds_toArray, List.set_cons_succ, List.set_cons_zero]) | (refine wpChain_quiet hF rfl rfl rfl ?_; intro K hK; go_big_quiet_op; go_big_quiet_on) | (refine wpChain_pure _ rfl rfl (fun w' _ => by go_simp; try rfl) ?_; simp only [Act.put, List.setIfInBounds_toArray, List.set_cons_succ, List.set_cons_zero])))
    refine wpChain_gcall 14 _ rfl rfl (fun w' => by go_simp) (fun w' hb => AW.out w') ?_
    simp only [Act.put, List.setIfInBounds_toArray, List.set_cons_succ, List.set_cons_zero]
    (try simp only [show ¬ ((15 : Nat) = 1 ∨ (15 : Nat) = 3) by omega, show ¬ ((15 : Nat) = 8 ∨ (15 : Nat) = 11) by omega, if_true, if_false])
    (repeat (first | (refine wpChain_skip rfl ?_; simp only [Act.put, List.setIfInBounds_toArray, List.set_cons_succ, List.set_cons_zero]) | (refine wpChain_quiet hF rfl rfl rfl ?_; intro K hK; go_big_quiet_op; go_big_quiet_on) | (refine wpChain_pure _ rfl rfl (fun w' _ => by go_simp; try rfl) ?_; simp only [Act.put, List.setIfInBounds_toArray, List.set_cons_succ, List.set_cons_zero])))
    refine wpChain_nil (fun w4 hb4 hl4 => ?_)
    have HB4 : Hid (Below w1.heap.size w1 w4) := hb4
    clear hb4 hl4 hF q0 q1 q2 q3 q4 f0 f1 f2 f3 f4 f5 f6 f7 f8 fb
    refine onlyN_intro ?_
    go_wp2_with fail
    go_returns
    exact ⟨rfl, B1.out.trans (HB4.out.mono B1.out.size)⟩
end Go.Proofs.Ytmhnkfcbbjbpfaa
